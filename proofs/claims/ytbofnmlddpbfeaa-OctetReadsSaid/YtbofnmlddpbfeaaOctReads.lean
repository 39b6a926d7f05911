/- OctetReads: a reader of whatever bytes answers whatever is asked of it as the document says; a second one is not moved. Conditions: none. -/
import Derived.Test.YtbofnmlddpbfeaaOctDo
import Derived.Test.YtbofnmlddpbfeaaWake01
import Derived.Test.YtbofnmlddpbfeaaOpel
import Derived.Deep.Slices
import Derived.Deep.QuietTactic
import Derived.BigQuiet
namespace Go.Proofs.Ytbofnmlddpbfeaa
set_option linter.unusedVariables false
open Go.ChangeShapes Go.WideShapes Go.ChangeAt Go.RowKit

/-- A row of asks: two numbers each. -/
def askC (l : List (Int × Int)) : List Value := l.flatMap fun p => [.int .i64 p.1, .int .i64 p.2]
/-- The slice of address A, length n, reads as the asks l, below block B. -/
def Asks (w : World) (B : Nat) (A : Option Addr) (n : Nat) (l : List (Int × Int)) : Prop :=
  l.length = n ∧ ∀ i p, l[i]? = some p → ∃ ad, A = some ad ∧ ad.block < B ∧ w.cell? (ad.add (i * 2)) = some (.int .i64 p.1) ∧ w.cell? (ad.add (i * 2 + 1)) = some (.int .i64 p.2) ∧
    (-9223372036854775808 ≤ p.1 ∧ p.1 ≤ 9223372036854775807) ∧ (-9223372036854775808 ≤ p.2 ∧ p.2 ≤ 9223372036854775807)
theorem Asks.keep {w w' : World} {B : Nat} {A : Option Addr} {n : Nat} {l : List (Int × Int)} (h : Asks w B A n l) (hk : ∀ p : Addr, p.block < B → w'.cell? p = w.cell? p) : Asks w' B A n l := by
  refine ⟨h.1, fun i p hp => ?_⟩
  obtain ⟨ad, hA, hb, h1, h2, h3⟩ := h.2 i p hp
  exact ⟨ad, hA, hb, (hk _ (by rw [block_add]; exact hb)).trans h1, (hk _ (by rw [block_add]; exact hb)).trans h2, h3⟩
theorem Asks.below {w w' : World} {B : Nat} {A : Option Addr} {n : Nat} {l : List (Int × Int)} (h : Asks w B A n l) (hb : Below B w w') : Asks w' B A n l := h.keep fun _ hp => hb.cell hp
theorem Asks.step {w w' : World} {A : Option Addr} {n : Nat} {l : List (Int × Int)} (h : Asks w w.heap.size A n l) (hb : Below w.heap.size w w') : Asks w' w'.heap.size A n l := by
  have h2 := h.below hb
  exact ⟨h2.1, fun i p hp => by obtain ⟨ad, hA, hB, r⟩ := h2.2 i p hp; exact ⟨ad, hA, Nat.lt_of_lt_of_le hB hb.size, r⟩⟩

section
variable {H : Type} {enc : TypeId × Value → H} {W : World}
theorem cells_ask : Try.prog.cellsOf 48 = 2 := by kernel_rfl
set_option maxRecDepth 100000 in
theorem trod_ask {fuel : Nat} {cs : List Value} {x : DataW H × List MemPlace} (h : DataW.trod enc Try.prog W 0 (fun _ => true) true fuel 48 cs = some x) :
    ∃ p : Int × Int, cs = [.int .i64 p.1, .int .i64 p.2] ∧ (-9223372036854775808 ≤ p.1 ∧ p.1 ≤ 9223372036854775807) ∧ (-9223372036854775808 ≤ p.2 ∧ p.2 ≤ 9223372036854775807) := by
  obtain ⟨n, hl, hf⟩ := trod_fields Try.underlying48 h
  rw [cells_ask] at hl
  obtain ⟨c0, c1, rfl⟩ := list2 hl
  obtain ⟨y0, t0, w0⟩ := hf 0 3 0 rfl
  obtain ⟨y1, t1, w1⟩ := hf 1 3 1 rfl
  simp only [cells_int, List.drop_zero, List.drop_succ_cons, List.take_succ_cons, List.take_zero] at t0 t1
  obtain ⟨z0, rfl, f0⟩ := trod_int1 Try.underlying3 t0
  obtain ⟨z1, rfl, f1⟩ := trod_int1 Try.underlying3 t1
  exact ⟨(z0, z1), rfl, wf_int f0, wf_int f1⟩
theorem open_asks {v : Value} {d : DataW H} {p : List MemPlace} {base : Nat} (hv : Value.okWide Try.prog W .any base 41 v) (h : DataW.Trod enc Try.prog W 0 (fun _ => true) true 41 v d p) :
    ∃ (A : Option Addr) (n c : Nat) (l : List (Int × Int)), v = .slice A n c ∧ (Asks W W.heap.size A n l ∧ n ≤ c ∧ c ≤ maxLen) ∧ ((∀ m ∈ d.weights Try.prog 41, m ≤ reachBytes) → True) := by
  obtain ⟨a', n', c', rfl⟩ := okWide_slice Try.underlying41 hv
  obtain ⟨fuel, hf⟩ := h
  obtain ⟨A, n, c, l, hcs, hl, hnc, hc, -, hi, -⟩ := trod_list (k := 2) (fun (p : Int × Int) vs => vs = [.int .i64 p.1, .int .i64 p.2] ∧ (-9223372036854775808 ≤ p.1 ∧ p.1 ≤ 9223372036854775807) ∧ (-9223372036854775808 ≤ p.2 ∧ p.2 ≤ 9223372036854775807)) (fun _ => True)
    Try.underlying41 cells_ask (by omega) (fun fuel cs x h => by obtain ⟨p, h1, h2, h3⟩ := trod_ask h; exact ⟨p, ⟨h1, h2, h3⟩, fun _ => trivial⟩) hf
  simp [Value.cells] at hcs
  obtain ⟨rfl, rfl, rfl⟩ := hcs
  refine ⟨_, _, _, l, rfl, ⟨⟨hl, fun i p hp => ?_⟩, hnc, hc⟩, fun _ => trivial⟩
  · obtain ⟨ad, vs, hA, hb, ⟨rfl, h1, h2⟩, -, hj⟩ := hi i p hp
    exact ⟨ad, hA, hb, hj 0 _ rfl, hj 1 _ rfl, h1, h2⟩
end

theorem takeR_width (l : List UInt8) (at_ : Nat) (err : Int) (n : Nat) : (takeR l at_ err n).1.length ≤ n := by
  unfold takeR
  split
  · simp
  · split
    · simp
    · split
      · simp
      · simp; omega

theorem Rdr.far {w : World} {B g g' i : Nat} {l : List UInt8} {at_ : Nat} {err : Int} (h : Rdr w B g l at_ err) (hg : g < g') (v : Value) : Rdr (w.setCell ⟨g', i, none⟩ v) B g l at_ err := by
  obtain ⟨A, n, c, h1, h2, h3, h4⟩ := h
  exact ⟨A, n, c, (heap_setCell_other w ⟨g', i, none⟩ g v (by simp; omega)).trans h1, own_set h2 (fun k hk => Nat.lt_trans (h3 k hk) hg) v, h3, h4⟩

/-- What stands between two rounds. -/
def Mid (wr : World) (B B2 B3 g g2 gm : Nat) (A : Option Addr) (n c : Nat) (l : List UInt8) (at_ : Nat) (err : Int) : Prop :=
  Rdr wr B g l at_ err ∧ Rdr wr B2 g2 l 0 0 ∧ Blk wr gm #[.slice A n c, .int .i64 (at_ : Int), .int .i64 err] 46 ∧ Own wr B3 A n c l

set_option maxHeartbeats 2000000 in
theorem walk_octetReads (A0 : Option Addr) (n0 c0 : Nat) (l0 : List UInt8) (A1 : Option Addr) (n1 c1 : Nat) (l1 : List (Int × Int)) (w : World) (r0 : Rd w w.heap.size A0 n0 c0 l0) (s0 : c0 ≤ 140737488351232) (r1 : Asks w w.heap.size A1 n1 l1 ∧ n1 ≤ c1 ∧ c1 ≤ maxLen) (_s1 : True) :
    Calls Try.prog 7 #[.slice A0 n0 c0, .slice A1 n1 c1] w fun e w' => e = .returned (.bool true) ∧ Below w.heap.size w w' := by
  obtain ⟨r1, hnc, hcm⟩ := r1
  have hcap := r0.cap
  have hn1 : (n1 : Int) ≤ 9223372036854775807 := by unfold maxLen at hcm; omega
  have b := Below.refl w.heap.size w
  go_enter Try.func7, Try.ntmps7
  go_wp2_with fail
  refine (wakes01 _).mono ?_
  rintro e w1 ⟨rfl, b1⟩
  replace r0 := r0.step b1
  replace r1 := r1.step b1
  replace b := below_step b b1
  clear b1
  have r1w := r1
  have b1 := Below.refl w1.heap.size w1
  go_wp2_with fail
  refine (read_any A0 n0 c0 _ l0 _ r0 (Nat.le_refl _) (by omega)).mono ?_
  rintro e w2 ⟨g, rfl, h2, b2⟩
  replace r0 := r0.step b2
  replace b1 := below_step b1 b2
  have hg1 := h2.lt
  go_wp2_with fail
  refine (read_any A0 n0 c0 _ l0 _ r0 (Nat.le_refl _) (by omega)).mono ?_
  rintro e w3 ⟨g2, rfl, h3, b3⟩
  replace r0 := r0.step b3
  replace h2 := h2.below b3
  replace b1 := below_step b1 b3
  have hs23 := b3.size
  have hg2 := h3.lt
  go_wp2_with fail
  refine (both_any A0 none n0 c0 0 0 _ l0 [] _ r0 (Rd.nil _ _) (Nat.le_refl _) (by omega)).mono ?_
  rintro e w4 ⟨A4, c4, rfl, o4, b4⟩
  replace r0 := r0.step b4
  replace h2 := h2.below b4
  replace h3 := h3.below b4
  replace b1 := below_step b1 b4
  have hs34 := b4.size
  rw [List.append_nil] at o4
  have hln := r0.len
  have hA4 : ∀ k, (Value.slice A4 n0 c4).ownBlock = some k → k < w4.heap.size := fun k hk => (World.ownsRow.lt o4 k hk).2
  have k4 := Blk.new w4 #[.slice A4 n0 c4, .int .i64 ((0 : Nat) : Int), .int .i64 0] 46
  go_wp2_with fail
  go_loopw [24] (fun i wr => ∃ (k at_ : Nat) (err : Int), k ≤ n1 ∧ i = .int .i64 k ∧ Mid wr w1.heap.size w2.heap.size w3.heap.size g g2 w4.heap.size A4 n0 c4 l0 at_ err ∧ Below w1.heap.size w1 wr) (fun i _ => n1 - (intOf i).toNat)
  case atStart => exact ⟨0, 0, 0, Nat.zero_le _, rfl, ⟨h2.below (below_a1' (Below.refl _ _) _), h3.below (below_a1' (Below.refl _ _) _), k4, o4.alloc _⟩, below_a1' b1 _⟩
  case round =>
    obtain ⟨k, at_, err, hk, rfl, ⟨hR, hS, km, hm⟩, hb5⟩ := hrel
    have hgm := km.lt
    have hle := hR.le
    have hmax := hR.lmax
    have hBg := hR.ge
    by_cases hlt : k < n1
    · obtain ⟨pr, hp⟩ : ∃ pr, l1[k]? = some pr := ⟨_, List.getElem?_eq_getElem (by rw [r1.1]; exact hlt)⟩
      obtain ⟨ad, rfl, hB, q0, q1, hz0, hz1⟩ := (r1w.below hb5).2 k pr hp
      obtain ⟨kd, N⟩ := pr
      dsimp only at q0 q1 hz0 hz1
      clear hp
      have q2 : wr.cell? { block := (ad.add (k * 2)).block, off := (ad.add (k * 2)).off + 1 } = some (.int .i64 N) := by rw [← add_add] at q1; exact q1
      clear q1
      have hm5 : Rd (wr.alloc (.cells #[.int .i64 ((wrap64 (kd.tmod 5 + 5)).tmod 5), .int .i64 N] 48)) (wr.heap.size + 1) A4 n0 c4 l0 := (hm.rd.alloc (Nat.le_refl _) _).more (by omega)
      obtain ⟨z0, z1, z2⟩ := box3 (km.alloc (.cells #[.int .i64 ((wrap64 (kd.tmod 5 + 5)).tmod 5), .int .i64 N] 48))
      have hks : 0 ≤ (wrap64 (kd.tmod 5 + 5)).tmod 5 ∧ (wrap64 (kd.tmod 5 + 5)).tmod 5 ≤ 4 := by
        have h1 : -5 < kd.tmod 5 ∧ kd.tmod 5 < 5 := ⟨Int.lt_tmod_of_pos kd (by omega), Int.tmod_lt_of_pos kd (by omega)⟩
        have h2 : wrap64 (kd.tmod 5 + 5) = kd.tmod 5 + 5 := by unfold wrap64; omega
        rw [h2]
        exact ⟨Int.tmod_nonneg 5 (by omega), by have := Int.tmod_lt_of_pos (kd.tmod 5 + 5) (show (0 : Int) < 5 by omega); omega⟩
      have HK := Lib.hid hks
      clear hks hz0
      go_wp2_with fail
      have hks := HK.out
      clear HK z0 z1 z2
      have ka := Blk.new wr #[.int .i64 ((wrap64 (kd.tmod 5 + 5)).tmod 5), .int .i64 N] 48
      generalize (wrap64 (kd.tmod 5 + 5)).tmod 5 = kk at *
      obtain ⟨hk0, hk4⟩ := hks
      refine (do_any kk N err l0 at_ A4 n0 c4 _ hk0 hk4 (by simp; exact hm5) (by omega) (by omega)).mono ?_
      rintro e w6 ⟨A6, n6, c6, rfl, o6, b6⟩
      replace ka := ka.step b6
      have hsz6 : wr.heap.size + 1 ≤ w6.heap.size := by have := b6.size; simpa using this
      have hb6 : Below wr.heap.size wr w6 := (below_a1' (Below.refl _ _) _).trans (b6.mono (by simp))
      replace hR := hR.below hb6
      replace hS := hS.below hb6
      replace hm := hm.below hb6
      replace km := km.step hb6
      replace hb5 := hb5.trans (hb6.mono hb5.size)
      clear hm5
      generalize hT : takeR l0 at_ err (widR kk N) = T at *
      obtain ⟨out, at2, err2⟩ := T
      dsimp only
      have hnum : numR kk l0 at_ err N = if kk < 4 then numQ out else 0 := by unfold numR; rw [hT]
      have hout : outR kk l0 at_ err N = if kk < 4 then [] else out := by unfold outR; rw [hT]
      rw [hnum]
      rw [hout] at o6
      clear hnum hout
      have hT2 := Lib.hid hT
      clear hT
      rcases (show kk = 0 ∨ kk = 1 ∨ kk = 2 ∨ kk = 3 ∨ kk = 4 by omega) with rfl | rfl | rfl | rfl | rfl
      · simp only [show (0 : Int) < 4 from by omega, if_true] at o6 ⊢
        have hT3 : takeR l0 at_ err 1 = (out, at2, err2) := hT2.out
        have hw8 : out.length ≤ 1 := by have := takeR_width l0 at_ err 1; rw [show ((1 : Nat) : Int) = 1 from rfl, hT3] at this; exact this
        have hq : numQ out < 256 := by rw [numQ_small (by omega)]; exact Nat.lt_of_lt_of_le (numB_lt _ out rfl) (Nat.pow_le_pow_right (by omega) hw8 : 256 ^ out.length ≤ 256 ^ 1)
        have hT4 := Lib.hid hT3
        clear hT3 hw8 hT2
        skip
        have b9 : Below w6.heap.size w6 (((w6.alloc (.cells #[.slice A4 n0 c4, .int .i64 (at2 : Int), .int .i64 err2] 46)).alloc (.cells #[.int .u64 (numQ out : Int), .slice A6 n6 c6] 50)).alloc (.cells #[.int .u64 0, .slice none 0 0] 50)) := below_a1' (below_a1' (below_a1' (Below.refl _ _) _) _) _
        obtain ⟨y0, y1⟩ := box2 (ka.step b9)
        have hgl := hR.lt
        replace hR := hR.below b9
        replace hS := hS.below b9
        replace hm := hm.below b9
        replace km := km.step b9
        have kn := ((Blk.new w6 #[.slice A4 n0 c4, .int .i64 (at2 : Int), .int .i64 err2] 46).alloc (.cells #[.int .u64 (numQ out : Int), .slice A6 n6 c6] 50)).alloc (.cells #[.int .u64 0, .slice none 0 0] 50)
        have kw := (Blk.new (w6.alloc (.cells #[.slice A4 n0 c4, .int .i64 (at2 : Int), .int .i64 err2] 46)) #[.int .u64 (numQ out : Int), .slice A6 n6 c6] 50).alloc (.cells #[.int .u64 0, .slice none 0 0] 50)
        have kg := Blk.new ((w6.alloc (.cells #[.slice A4 n0 c4, .int .i64 (at2 : Int), .int .i64 err2] 46)).alloc (.cells #[.int .u64 (numQ out : Int), .slice A6 n6 c6] 50)) #[.int .u64 0, .slice none 0 0] 50
        replace hb5 := hb5.trans (b9.mono hb5.size)
        simp only [World.size_alloc] at kw kg
        go_wp2_with fail
        clear y0 y1
        refine (u8_rd l0 at_ err g _ _ hR).mono ?_
        rintro e w7 ⟨rfl, h7, g7⟩
        rw [hT4.out] at h7 ⊢
        dsimp only at h7 ⊢
        rw [Nat.mod_eq_of_lt hq]
        clear hR
        have hne : ∀ j, g ≠ j → some j ≠ some g := by intro j hj he; exact hj (Option.some.inj he).symm
        have hbg := below_grown (B := w1.heap.size) g7 hBg (by simp; omega)
        replace hb5 := hb5.trans hbg
        replace hS := hS.kept g7 hg1
        replace hm := hm.kept g7 (by omega)
        replace km : Blk w7 _ _ _ := (g7.block _ km.lt (hne _ (by omega))).trans km
        replace kn : Blk w7 _ _ _ := (g7.block _ kn.lt (hne _ (by omega))).trans kn
        replace kw : Blk w7 _ _ _ := (g7.block _ kw.lt (hne _ (by omega))).trans kw
        replace kg : Blk w7 _ _ _ := (g7.block _ kg.lt (hne _ (by omega))).trans kg
        obtain ⟨y0, y1⟩ := box2 kg
        have yf0 := kg.frozen 0
        have yf1 := kg.frozen 1
        have j1 := rdr_grown_set w7 (w6.heap.size + 1 + 1) 0 (.int .u64 (numQ out : Int))
        have hsz7 := g7.size
        simp only [World.size_alloc] at hsz7
        replace h7 : Rdr (w7.setCell ⟨w6.heap.size + 1 + 1, 0, none⟩ (.int .u64 (numQ out : Int))) _ _ _ _ _ := h7.far (by omega) _
        replace hS : Rdr (w7.setCell ⟨w6.heap.size + 1 + 1, 0, none⟩ (.int .u64 (numQ out : Int))) _ _ _ _ _ := hS.far (by omega) _
        replace hm : Own (w7.setCell ⟨w6.heap.size + 1 + 1, 0, none⟩ (.int .u64 (numQ out : Int))) _ _ _ _ _ := own_set hm (fun k hk => by have := hA4 k hk; omega) _
        replace km : Blk (w7.setCell ⟨w6.heap.size + 1 + 1, 0, none⟩ (.int .u64 (numQ out : Int))) _ _ _ := km.far (by simp; omega) _
        replace kn : Blk (w7.setCell ⟨w6.heap.size + 1 + 1, 0, none⟩ (.int .u64 (numQ out : Int))) _ _ _ := kn.far (by simp; omega) _
        replace kw : Blk (w7.setCell ⟨w6.heap.size + 1 + 1, 0, none⟩ (.int .u64 (numQ out : Int))) _ _ _ := kw.far (by simp) _
        replace kg : Blk (w7.setCell ⟨w6.heap.size + 1 + 1, 0, none⟩ (.int .u64 (numQ out : Int))) _ #[.int .u64 (numQ out : Int), .slice none 0 0] _ := kg.set_ 0 (.int .u64 (numQ out : Int))
        have o6y := o6 _ _ hm.rd
        have cS : ∀ q, Calls Try.prog 21 #[.slice none 0 0, .slice A6 n6 c6] ((w7.setCell ⟨w6.heap.size + 1 + 1, 0, none⟩ (.int .u64 (numQ out : Int))).drewN q) (Quiet (.bool true) ((w7.setCell ⟨w6.heap.size + 1 + 1, 0, none⟩ (.int .u64 (numQ out : Int))).drewN q)) := fun q => by
          have := same_any none A6 0 0 n6 c6 _ [] [] ((w7.setCell ⟨w6.heap.size + 1 + 1, 0, none⟩ (.int .u64 (numQ out : Int))).drewN q) (Rd.nil _ _) (o6y.drewN q)
          rw [show eqB [] [] = true from decide_eq_true rfl] at this
          exact this
        have cL : ∀ q, Calls Try.prog 31 #[.pointer (some ⟨g, 0, none⟩)] ((w7.setCell ⟨w6.heap.size + 1 + 1, 0, none⟩ (.int .u64 (numQ out : Int))).drewN q) (Quiet (.int .i64 ((n0 : Int) - at2)) ((w7.setCell ⟨w6.heap.size + 1 + 1, 0, none⟩ (.int .u64 (numQ out : Int))).drewN q)) := fun q => by
          have := left_any l0 at2 err2 g _ _ (h7.drewN q)
          rw [hln] at this
          exact this
        have cE : ∀ q, Calls Try.prog 32 #[.pointer (some ⟨g, 0, none⟩)] ((w7.setCell ⟨w6.heap.size + 1 + 1, 0, none⟩ (.int .u64 (numQ out : Int))).drewN q) (fun e w' => e = .returned (.int .i64 err2) ∧ w' = (w7.setCell ⟨w6.heap.size + 1 + 1, 0, none⟩ (.int .u64 (numQ out : Int))).drewN q) := fun q => (err_any l0 at2 err2 g _ _ (h7.drewN q)).mono fun e w' h => ⟨h.1, h.2.symm⟩
        have hl7 := h7.le
        rw [hln] at hl7
        go_wp2_with fail
        clear hne o6 o6y hbg j1
        obtain ⟨v0, v1⟩ := box2 kg
        obtain ⟨v2, v3⟩ := box2 kw
        obtain ⟨v4, v5, v6⟩ := box3 kn
        clear y0 y1 yf0 yf1
        go_quiet (first | (go_at_call 21; exact Calls.quiet_of (cS _)) | (go_at_call 31; exact Calls.quiet_of (cL _)) | (go_at_call 32; exact Calls.quiet_of_same (cE _)))
        clear cS cL cE v0 v1 v2 v3
        replace hb5 : Below w1.heap.size w1 ((w7.setCell ⟨w6.heap.size + 1 + 1, 0, none⟩ (.int .u64 (numQ out : Int))).drewN nq) := below_dN (hb5.setCell (p := ⟨w6.heap.size + 1 + 1, 0, none⟩) (by simp; omega) _) nq
        replace h7 : Rdr ((w7.setCell ⟨w6.heap.size + 1 + 1, 0, none⟩ (.int .u64 (numQ out : Int))).drewN nq) _ _ _ _ _ := h7
        replace hS : Rdr ((w7.setCell ⟨w6.heap.size + 1 + 1, 0, none⟩ (.int .u64 (numQ out : Int))).drewN nq) _ _ _ _ _ := hS
        replace hm : Own ((w7.setCell ⟨w6.heap.size + 1 + 1, 0, none⟩ (.int .u64 (numQ out : Int))).drewN nq) _ _ _ _ _ := hm
        replace km : Blk ((w7.setCell ⟨w6.heap.size + 1 + 1, 0, none⟩ (.int .u64 (numQ out : Int))).drewN nq) _ _ _ := km
        replace kn : Blk ((w7.setCell ⟨w6.heap.size + 1 + 1, 0, none⟩ (.int .u64 (numQ out : Int))).drewN nq) _ _ _ := kn
        clear hsz7 g7 hT4 v4 v5 v6 kg kw
        generalize (w7.setCell ⟨w6.heap.size + 1 + 1, 0, none⟩ (.int .u64 (numQ out : Int))).drewN nq = w11 at *
        obtain ⟨v4, v5, v6⟩ := box3 kn
        have yf0 := km.frozen 0
        have yf1 := km.frozen 1
        have yf2 := km.frozen 2
        obtain ⟨y0, y1, y2⟩ := box3 km
        set_option maxRecDepth 20000 in
        go_wp2_with fail
        go_roundw
        case rel =>
          refine ⟨k + 1, at2, err2, by omega, by go_num, ⟨((h7.far (by omega) _).far (by omega) _).far (by omega) _, ((hS.far (by omega) _).far (by omega) _).far (by omega) _, ((km.set_ 0 _).set_ 1 _).set_ 2 _, own_set (own_set (own_set hm hA4 _) hA4 _) hA4 _⟩, ?_⟩
          exact ((hb5.setCell (p := ⟨w4.heap.size, 0, none⟩) (by simp; omega) _).setCell (p := ⟨w4.heap.size, 1, none⟩) (by simp; omega) _).setCell (p := ⟨w4.heap.size, 2, none⟩) (by simp; omega) _
        case measure => simp [intOf]; omega
      · simp only [show (1 : Int) < 4 from by omega, if_true] at o6 ⊢
        have hT3 : takeR l0 at_ err 2 = (out, at2, err2) := hT2.out
        have hw8 : out.length ≤ 2 := by have := takeR_width l0 at_ err 2; rw [show ((2 : Nat) : Int) = 2 from rfl, hT3] at this; exact this
        have hq : numQ out < 65536 := by rw [numQ_small (by omega)]; exact Nat.lt_of_lt_of_le (numB_lt _ out rfl) (Nat.pow_le_pow_right (by omega) hw8 : 256 ^ out.length ≤ 256 ^ 2)
        have hT4 := Lib.hid hT3
        clear hT3 hw8 hT2
        skip
        have b9 : Below w6.heap.size w6 (((w6.alloc (.cells #[.slice A4 n0 c4, .int .i64 (at2 : Int), .int .i64 err2] 46)).alloc (.cells #[.int .u64 (numQ out : Int), .slice A6 n6 c6] 50)).alloc (.cells #[.int .u64 0, .slice none 0 0] 50)) := below_a1' (below_a1' (below_a1' (Below.refl _ _) _) _) _
        obtain ⟨y0, y1⟩ := box2 (ka.step b9)
        have hgl := hR.lt
        replace hR := hR.below b9
        replace hS := hS.below b9
        replace hm := hm.below b9
        replace km := km.step b9
        have kn := ((Blk.new w6 #[.slice A4 n0 c4, .int .i64 (at2 : Int), .int .i64 err2] 46).alloc (.cells #[.int .u64 (numQ out : Int), .slice A6 n6 c6] 50)).alloc (.cells #[.int .u64 0, .slice none 0 0] 50)
        have kw := (Blk.new (w6.alloc (.cells #[.slice A4 n0 c4, .int .i64 (at2 : Int), .int .i64 err2] 46)) #[.int .u64 (numQ out : Int), .slice A6 n6 c6] 50).alloc (.cells #[.int .u64 0, .slice none 0 0] 50)
        have kg := Blk.new ((w6.alloc (.cells #[.slice A4 n0 c4, .int .i64 (at2 : Int), .int .i64 err2] 46)).alloc (.cells #[.int .u64 (numQ out : Int), .slice A6 n6 c6] 50)) #[.int .u64 0, .slice none 0 0] 50
        replace hb5 := hb5.trans (b9.mono hb5.size)
        simp only [World.size_alloc] at kw kg
        go_wp2_with fail
        clear y0 y1
        refine (u16_rd l0 at_ err g _ _ hR).mono ?_
        rintro e w7 ⟨rfl, h7, g7⟩
        rw [hT4.out] at h7 ⊢
        dsimp only at h7 ⊢
        rw [Nat.mod_eq_of_lt hq]
        clear hR
        have hne : ∀ j, g ≠ j → some j ≠ some g := by intro j hj he; exact hj (Option.some.inj he).symm
        have hbg := below_grown (B := w1.heap.size) g7 hBg (by simp; omega)
        replace hb5 := hb5.trans hbg
        replace hS := hS.kept g7 hg1
        replace hm := hm.kept g7 (by omega)
        replace km : Blk w7 _ _ _ := (g7.block _ km.lt (hne _ (by omega))).trans km
        replace kn : Blk w7 _ _ _ := (g7.block _ kn.lt (hne _ (by omega))).trans kn
        replace kw : Blk w7 _ _ _ := (g7.block _ kw.lt (hne _ (by omega))).trans kw
        replace kg : Blk w7 _ _ _ := (g7.block _ kg.lt (hne _ (by omega))).trans kg
        obtain ⟨y0, y1⟩ := box2 kg
        have yf0 := kg.frozen 0
        have yf1 := kg.frozen 1
        have j1 := rdr_grown_set w7 (w6.heap.size + 1 + 1) 0 (.int .u64 (numQ out : Int))
        have hsz7 := g7.size
        simp only [World.size_alloc] at hsz7
        replace h7 : Rdr (w7.setCell ⟨w6.heap.size + 1 + 1, 0, none⟩ (.int .u64 (numQ out : Int))) _ _ _ _ _ := h7.far (by omega) _
        replace hS : Rdr (w7.setCell ⟨w6.heap.size + 1 + 1, 0, none⟩ (.int .u64 (numQ out : Int))) _ _ _ _ _ := hS.far (by omega) _
        replace hm : Own (w7.setCell ⟨w6.heap.size + 1 + 1, 0, none⟩ (.int .u64 (numQ out : Int))) _ _ _ _ _ := own_set hm (fun k hk => by have := hA4 k hk; omega) _
        replace km : Blk (w7.setCell ⟨w6.heap.size + 1 + 1, 0, none⟩ (.int .u64 (numQ out : Int))) _ _ _ := km.far (by simp; omega) _
        replace kn : Blk (w7.setCell ⟨w6.heap.size + 1 + 1, 0, none⟩ (.int .u64 (numQ out : Int))) _ _ _ := kn.far (by simp; omega) _
        replace kw : Blk (w7.setCell ⟨w6.heap.size + 1 + 1, 0, none⟩ (.int .u64 (numQ out : Int))) _ _ _ := kw.far (by simp) _
        replace kg : Blk (w7.setCell ⟨w6.heap.size + 1 + 1, 0, none⟩ (.int .u64 (numQ out : Int))) _ #[.int .u64 (numQ out : Int), .slice none 0 0] _ := kg.set_ 0 (.int .u64 (numQ out : Int))
        have o6y := o6 _ _ hm.rd
        have cS : ∀ q, Calls Try.prog 21 #[.slice none 0 0, .slice A6 n6 c6] ((w7.setCell ⟨w6.heap.size + 1 + 1, 0, none⟩ (.int .u64 (numQ out : Int))).drewN q) (Quiet (.bool true) ((w7.setCell ⟨w6.heap.size + 1 + 1, 0, none⟩ (.int .u64 (numQ out : Int))).drewN q)) := fun q => by
          have := same_any none A6 0 0 n6 c6 _ [] [] ((w7.setCell ⟨w6.heap.size + 1 + 1, 0, none⟩ (.int .u64 (numQ out : Int))).drewN q) (Rd.nil _ _) (o6y.drewN q)
          rw [show eqB [] [] = true from decide_eq_true rfl] at this
          exact this
        have cL : ∀ q, Calls Try.prog 31 #[.pointer (some ⟨g, 0, none⟩)] ((w7.setCell ⟨w6.heap.size + 1 + 1, 0, none⟩ (.int .u64 (numQ out : Int))).drewN q) (Quiet (.int .i64 ((n0 : Int) - at2)) ((w7.setCell ⟨w6.heap.size + 1 + 1, 0, none⟩ (.int .u64 (numQ out : Int))).drewN q)) := fun q => by
          have := left_any l0 at2 err2 g _ _ (h7.drewN q)
          rw [hln] at this
          exact this
        have cE : ∀ q, Calls Try.prog 32 #[.pointer (some ⟨g, 0, none⟩)] ((w7.setCell ⟨w6.heap.size + 1 + 1, 0, none⟩ (.int .u64 (numQ out : Int))).drewN q) (fun e w' => e = .returned (.int .i64 err2) ∧ w' = (w7.setCell ⟨w6.heap.size + 1 + 1, 0, none⟩ (.int .u64 (numQ out : Int))).drewN q) := fun q => (err_any l0 at2 err2 g _ _ (h7.drewN q)).mono fun e w' h => ⟨h.1, h.2.symm⟩
        have hl7 := h7.le
        rw [hln] at hl7
        go_wp2_with fail
        clear hne o6 o6y hbg j1
        obtain ⟨v0, v1⟩ := box2 kg
        obtain ⟨v2, v3⟩ := box2 kw
        obtain ⟨v4, v5, v6⟩ := box3 kn
        clear y0 y1 yf0 yf1
        go_quiet (first | (go_at_call 21; exact Calls.quiet_of (cS _)) | (go_at_call 31; exact Calls.quiet_of (cL _)) | (go_at_call 32; exact Calls.quiet_of_same (cE _)))
        clear cS cL cE v0 v1 v2 v3
        replace hb5 : Below w1.heap.size w1 ((w7.setCell ⟨w6.heap.size + 1 + 1, 0, none⟩ (.int .u64 (numQ out : Int))).drewN nq) := below_dN (hb5.setCell (p := ⟨w6.heap.size + 1 + 1, 0, none⟩) (by simp; omega) _) nq
        replace h7 : Rdr ((w7.setCell ⟨w6.heap.size + 1 + 1, 0, none⟩ (.int .u64 (numQ out : Int))).drewN nq) _ _ _ _ _ := h7
        replace hS : Rdr ((w7.setCell ⟨w6.heap.size + 1 + 1, 0, none⟩ (.int .u64 (numQ out : Int))).drewN nq) _ _ _ _ _ := hS
        replace hm : Own ((w7.setCell ⟨w6.heap.size + 1 + 1, 0, none⟩ (.int .u64 (numQ out : Int))).drewN nq) _ _ _ _ _ := hm
        replace km : Blk ((w7.setCell ⟨w6.heap.size + 1 + 1, 0, none⟩ (.int .u64 (numQ out : Int))).drewN nq) _ _ _ := km
        replace kn : Blk ((w7.setCell ⟨w6.heap.size + 1 + 1, 0, none⟩ (.int .u64 (numQ out : Int))).drewN nq) _ _ _ := kn
        clear hsz7 g7 hT4 v4 v5 v6 kg kw
        generalize (w7.setCell ⟨w6.heap.size + 1 + 1, 0, none⟩ (.int .u64 (numQ out : Int))).drewN nq = w11 at *
        obtain ⟨v4, v5, v6⟩ := box3 kn
        have yf0 := km.frozen 0
        have yf1 := km.frozen 1
        have yf2 := km.frozen 2
        obtain ⟨y0, y1, y2⟩ := box3 km
        set_option maxRecDepth 20000 in
        go_wp2_with fail
        go_roundw
        case rel =>
          refine ⟨k + 1, at2, err2, by omega, by go_num, ⟨((h7.far (by omega) _).far (by omega) _).far (by omega) _, ((hS.far (by omega) _).far (by omega) _).far (by omega) _, ((km.set_ 0 _).set_ 1 _).set_ 2 _, own_set (own_set (own_set hm hA4 _) hA4 _) hA4 _⟩, ?_⟩
          exact ((hb5.setCell (p := ⟨w4.heap.size, 0, none⟩) (by simp; omega) _).setCell (p := ⟨w4.heap.size, 1, none⟩) (by simp; omega) _).setCell (p := ⟨w4.heap.size, 2, none⟩) (by simp; omega) _
        case measure => simp [intOf]; omega
      · simp only [show (2 : Int) < 4 from by omega, if_true] at o6 ⊢
        have hT3 : takeR l0 at_ err 4 = (out, at2, err2) := hT2.out
        have hw8 : out.length ≤ 4 := by have := takeR_width l0 at_ err 4; rw [show ((4 : Nat) : Int) = 4 from rfl, hT3] at this; exact this
        have hq : numQ out < 4294967296 := by rw [numQ_small (by omega)]; exact Nat.lt_of_lt_of_le (numB_lt _ out rfl) (Nat.pow_le_pow_right (by omega) hw8 : 256 ^ out.length ≤ 256 ^ 4)
        have hT4 := Lib.hid hT3
        clear hT3 hw8 hT2
        skip
        have b9 : Below w6.heap.size w6 (((w6.alloc (.cells #[.slice A4 n0 c4, .int .i64 (at2 : Int), .int .i64 err2] 46)).alloc (.cells #[.int .u64 (numQ out : Int), .slice A6 n6 c6] 50)).alloc (.cells #[.int .u64 0, .slice none 0 0] 50)) := below_a1' (below_a1' (below_a1' (Below.refl _ _) _) _) _
        obtain ⟨y0, y1⟩ := box2 (ka.step b9)
        have hgl := hR.lt
        replace hR := hR.below b9
        replace hS := hS.below b9
        replace hm := hm.below b9
        replace km := km.step b9
        have kn := ((Blk.new w6 #[.slice A4 n0 c4, .int .i64 (at2 : Int), .int .i64 err2] 46).alloc (.cells #[.int .u64 (numQ out : Int), .slice A6 n6 c6] 50)).alloc (.cells #[.int .u64 0, .slice none 0 0] 50)
        have kw := (Blk.new (w6.alloc (.cells #[.slice A4 n0 c4, .int .i64 (at2 : Int), .int .i64 err2] 46)) #[.int .u64 (numQ out : Int), .slice A6 n6 c6] 50).alloc (.cells #[.int .u64 0, .slice none 0 0] 50)
        have kg := Blk.new ((w6.alloc (.cells #[.slice A4 n0 c4, .int .i64 (at2 : Int), .int .i64 err2] 46)).alloc (.cells #[.int .u64 (numQ out : Int), .slice A6 n6 c6] 50)) #[.int .u64 0, .slice none 0 0] 50
        replace hb5 := hb5.trans (b9.mono hb5.size)
        simp only [World.size_alloc] at kw kg
        go_wp2_with fail
        clear y0 y1
        refine (u32_rd l0 at_ err g _ _ hR).mono ?_
        rintro e w7 ⟨rfl, h7, g7⟩
        rw [hT4.out] at h7 ⊢
        dsimp only at h7 ⊢
        rw [Nat.mod_eq_of_lt hq]
        clear hR
        have hne : ∀ j, g ≠ j → some j ≠ some g := by intro j hj he; exact hj (Option.some.inj he).symm
        have hbg := below_grown (B := w1.heap.size) g7 hBg (by simp; omega)
        replace hb5 := hb5.trans hbg
        replace hS := hS.kept g7 hg1
        replace hm := hm.kept g7 (by omega)
        replace km : Blk w7 _ _ _ := (g7.block _ km.lt (hne _ (by omega))).trans km
        replace kn : Blk w7 _ _ _ := (g7.block _ kn.lt (hne _ (by omega))).trans kn
        replace kw : Blk w7 _ _ _ := (g7.block _ kw.lt (hne _ (by omega))).trans kw
        replace kg : Blk w7 _ _ _ := (g7.block _ kg.lt (hne _ (by omega))).trans kg
        obtain ⟨y0, y1⟩ := box2 kg
        have yf0 := kg.frozen 0
        have yf1 := kg.frozen 1
        have j1 := rdr_grown_set w7 (w6.heap.size + 1 + 1) 0 (.int .u64 (numQ out : Int))
        have hsz7 := g7.size
        simp only [World.size_alloc] at hsz7
        replace h7 : Rdr (w7.setCell ⟨w6.heap.size + 1 + 1, 0, none⟩ (.int .u64 (numQ out : Int))) _ _ _ _ _ := h7.far (by omega) _
        replace hS : Rdr (w7.setCell ⟨w6.heap.size + 1 + 1, 0, none⟩ (.int .u64 (numQ out : Int))) _ _ _ _ _ := hS.far (by omega) _
        replace hm : Own (w7.setCell ⟨w6.heap.size + 1 + 1, 0, none⟩ (.int .u64 (numQ out : Int))) _ _ _ _ _ := own_set hm (fun k hk => by have := hA4 k hk; omega) _
        replace km : Blk (w7.setCell ⟨w6.heap.size + 1 + 1, 0, none⟩ (.int .u64 (numQ out : Int))) _ _ _ := km.far (by simp; omega) _
        replace kn : Blk (w7.setCell ⟨w6.heap.size + 1 + 1, 0, none⟩ (.int .u64 (numQ out : Int))) _ _ _ := kn.far (by simp; omega) _
        replace kw : Blk (w7.setCell ⟨w6.heap.size + 1 + 1, 0, none⟩ (.int .u64 (numQ out : Int))) _ _ _ := kw.far (by simp) _
        replace kg : Blk (w7.setCell ⟨w6.heap.size + 1 + 1, 0, none⟩ (.int .u64 (numQ out : Int))) _ #[.int .u64 (numQ out : Int), .slice none 0 0] _ := kg.set_ 0 (.int .u64 (numQ out : Int))
        have o6y := o6 _ _ hm.rd
        have cS : ∀ q, Calls Try.prog 21 #[.slice none 0 0, .slice A6 n6 c6] ((w7.setCell ⟨w6.heap.size + 1 + 1, 0, none⟩ (.int .u64 (numQ out : Int))).drewN q) (Quiet (.bool true) ((w7.setCell ⟨w6.heap.size + 1 + 1, 0, none⟩ (.int .u64 (numQ out : Int))).drewN q)) := fun q => by
          have := same_any none A6 0 0 n6 c6 _ [] [] ((w7.setCell ⟨w6.heap.size + 1 + 1, 0, none⟩ (.int .u64 (numQ out : Int))).drewN q) (Rd.nil _ _) (o6y.drewN q)
          rw [show eqB [] [] = true from decide_eq_true rfl] at this
          exact this
        have cL : ∀ q, Calls Try.prog 31 #[.pointer (some ⟨g, 0, none⟩)] ((w7.setCell ⟨w6.heap.size + 1 + 1, 0, none⟩ (.int .u64 (numQ out : Int))).drewN q) (Quiet (.int .i64 ((n0 : Int) - at2)) ((w7.setCell ⟨w6.heap.size + 1 + 1, 0, none⟩ (.int .u64 (numQ out : Int))).drewN q)) := fun q => by
          have := left_any l0 at2 err2 g _ _ (h7.drewN q)
          rw [hln] at this
          exact this
        have cE : ∀ q, Calls Try.prog 32 #[.pointer (some ⟨g, 0, none⟩)] ((w7.setCell ⟨w6.heap.size + 1 + 1, 0, none⟩ (.int .u64 (numQ out : Int))).drewN q) (fun e w' => e = .returned (.int .i64 err2) ∧ w' = (w7.setCell ⟨w6.heap.size + 1 + 1, 0, none⟩ (.int .u64 (numQ out : Int))).drewN q) := fun q => (err_any l0 at2 err2 g _ _ (h7.drewN q)).mono fun e w' h => ⟨h.1, h.2.symm⟩
        have hl7 := h7.le
        rw [hln] at hl7
        go_wp2_with fail
        clear hne o6 o6y hbg j1
        obtain ⟨v0, v1⟩ := box2 kg
        obtain ⟨v2, v3⟩ := box2 kw
        obtain ⟨v4, v5, v6⟩ := box3 kn
        clear y0 y1 yf0 yf1
        go_quiet (first | (go_at_call 21; exact Calls.quiet_of (cS _)) | (go_at_call 31; exact Calls.quiet_of (cL _)) | (go_at_call 32; exact Calls.quiet_of_same (cE _)))
        clear cS cL cE v0 v1 v2 v3
        replace hb5 : Below w1.heap.size w1 ((w7.setCell ⟨w6.heap.size + 1 + 1, 0, none⟩ (.int .u64 (numQ out : Int))).drewN nq) := below_dN (hb5.setCell (p := ⟨w6.heap.size + 1 + 1, 0, none⟩) (by simp; omega) _) nq
        replace h7 : Rdr ((w7.setCell ⟨w6.heap.size + 1 + 1, 0, none⟩ (.int .u64 (numQ out : Int))).drewN nq) _ _ _ _ _ := h7
        replace hS : Rdr ((w7.setCell ⟨w6.heap.size + 1 + 1, 0, none⟩ (.int .u64 (numQ out : Int))).drewN nq) _ _ _ _ _ := hS
        replace hm : Own ((w7.setCell ⟨w6.heap.size + 1 + 1, 0, none⟩ (.int .u64 (numQ out : Int))).drewN nq) _ _ _ _ _ := hm
        replace km : Blk ((w7.setCell ⟨w6.heap.size + 1 + 1, 0, none⟩ (.int .u64 (numQ out : Int))).drewN nq) _ _ _ := km
        replace kn : Blk ((w7.setCell ⟨w6.heap.size + 1 + 1, 0, none⟩ (.int .u64 (numQ out : Int))).drewN nq) _ _ _ := kn
        clear hsz7 g7 hT4 v4 v5 v6 kg kw
        generalize (w7.setCell ⟨w6.heap.size + 1 + 1, 0, none⟩ (.int .u64 (numQ out : Int))).drewN nq = w11 at *
        obtain ⟨v4, v5, v6⟩ := box3 kn
        have yf0 := km.frozen 0
        have yf1 := km.frozen 1
        have yf2 := km.frozen 2
        obtain ⟨y0, y1, y2⟩ := box3 km
        set_option maxRecDepth 20000 in
        go_wp2_with fail
        go_roundw
        case rel =>
          refine ⟨k + 1, at2, err2, by omega, by go_num, ⟨((h7.far (by omega) _).far (by omega) _).far (by omega) _, ((hS.far (by omega) _).far (by omega) _).far (by omega) _, ((km.set_ 0 _).set_ 1 _).set_ 2 _, own_set (own_set (own_set hm hA4 _) hA4 _) hA4 _⟩, ?_⟩
          exact ((hb5.setCell (p := ⟨w4.heap.size, 0, none⟩) (by simp; omega) _).setCell (p := ⟨w4.heap.size, 1, none⟩) (by simp; omega) _).setCell (p := ⟨w4.heap.size, 2, none⟩) (by simp; omega) _
        case measure => simp [intOf]; omega
      · simp only [show (3 : Int) < 4 from by omega, if_true] at o6 ⊢
        have hT3 : takeR l0 at_ err 8 = (out, at2, err2) := hT2.out
        have hw8 : out.length ≤ 8 := by have := takeR_width l0 at_ err 8; rw [show ((8 : Nat) : Int) = 8 from rfl, hT3] at this; exact this
        have hq : numQ out < 18446744073709551616 := by rw [numQ_small (by omega)]; exact Nat.lt_of_lt_of_le (numB_lt _ out rfl) (Nat.pow_le_pow_right (by omega) hw8 : 256 ^ out.length ≤ 256 ^ 8)
        have hT4 := Lib.hid hT3
        clear hT3 hw8 hT2
        skip
        have b9 : Below w6.heap.size w6 (((w6.alloc (.cells #[.slice A4 n0 c4, .int .i64 (at2 : Int), .int .i64 err2] 46)).alloc (.cells #[.int .u64 (numQ out : Int), .slice A6 n6 c6] 50)).alloc (.cells #[.int .u64 0, .slice none 0 0] 50)) := below_a1' (below_a1' (below_a1' (Below.refl _ _) _) _) _
        obtain ⟨y0, y1⟩ := box2 (ka.step b9)
        have hgl := hR.lt
        replace hR := hR.below b9
        replace hS := hS.below b9
        replace hm := hm.below b9
        replace km := km.step b9
        have kn := ((Blk.new w6 #[.slice A4 n0 c4, .int .i64 (at2 : Int), .int .i64 err2] 46).alloc (.cells #[.int .u64 (numQ out : Int), .slice A6 n6 c6] 50)).alloc (.cells #[.int .u64 0, .slice none 0 0] 50)
        have kw := (Blk.new (w6.alloc (.cells #[.slice A4 n0 c4, .int .i64 (at2 : Int), .int .i64 err2] 46)) #[.int .u64 (numQ out : Int), .slice A6 n6 c6] 50).alloc (.cells #[.int .u64 0, .slice none 0 0] 50)
        have kg := Blk.new ((w6.alloc (.cells #[.slice A4 n0 c4, .int .i64 (at2 : Int), .int .i64 err2] 46)).alloc (.cells #[.int .u64 (numQ out : Int), .slice A6 n6 c6] 50)) #[.int .u64 0, .slice none 0 0] 50
        replace hb5 := hb5.trans (b9.mono hb5.size)
        simp only [World.size_alloc] at kw kg
        go_wp2_with fail
        clear y0 y1
        refine (u64_rd l0 at_ err g _ _ hR).mono ?_
        rintro e w7 ⟨rfl, h7, g7⟩
        rw [hT4.out] at h7 ⊢
        dsimp only at h7 ⊢
        rw [Nat.mod_eq_of_lt hq]
        clear hR
        have hne : ∀ j, g ≠ j → some j ≠ some g := by intro j hj he; exact hj (Option.some.inj he).symm
        have hbg := below_grown (B := w1.heap.size) g7 hBg (by simp; omega)
        replace hb5 := hb5.trans hbg
        replace hS := hS.kept g7 hg1
        replace hm := hm.kept g7 (by omega)
        replace km : Blk w7 _ _ _ := (g7.block _ km.lt (hne _ (by omega))).trans km
        replace kn : Blk w7 _ _ _ := (g7.block _ kn.lt (hne _ (by omega))).trans kn
        replace kw : Blk w7 _ _ _ := (g7.block _ kw.lt (hne _ (by omega))).trans kw
        replace kg : Blk w7 _ _ _ := (g7.block _ kg.lt (hne _ (by omega))).trans kg
        obtain ⟨y0, y1⟩ := box2 kg
        have yf0 := kg.frozen 0
        have yf1 := kg.frozen 1
        have j1 := rdr_grown_set w7 (w6.heap.size + 1 + 1) 0 (.int .u64 (numQ out : Int))
        have hsz7 := g7.size
        simp only [World.size_alloc] at hsz7
        replace h7 : Rdr (w7.setCell ⟨w6.heap.size + 1 + 1, 0, none⟩ (.int .u64 (numQ out : Int))) _ _ _ _ _ := h7.far (by omega) _
        replace hS : Rdr (w7.setCell ⟨w6.heap.size + 1 + 1, 0, none⟩ (.int .u64 (numQ out : Int))) _ _ _ _ _ := hS.far (by omega) _
        replace hm : Own (w7.setCell ⟨w6.heap.size + 1 + 1, 0, none⟩ (.int .u64 (numQ out : Int))) _ _ _ _ _ := own_set hm (fun k hk => by have := hA4 k hk; omega) _
        replace km : Blk (w7.setCell ⟨w6.heap.size + 1 + 1, 0, none⟩ (.int .u64 (numQ out : Int))) _ _ _ := km.far (by simp; omega) _
        replace kn : Blk (w7.setCell ⟨w6.heap.size + 1 + 1, 0, none⟩ (.int .u64 (numQ out : Int))) _ _ _ := kn.far (by simp; omega) _
        replace kw : Blk (w7.setCell ⟨w6.heap.size + 1 + 1, 0, none⟩ (.int .u64 (numQ out : Int))) _ _ _ := kw.far (by simp) _
        replace kg : Blk (w7.setCell ⟨w6.heap.size + 1 + 1, 0, none⟩ (.int .u64 (numQ out : Int))) _ #[.int .u64 (numQ out : Int), .slice none 0 0] _ := kg.set_ 0 (.int .u64 (numQ out : Int))
        have o6y := o6 _ _ hm.rd
        have cS : ∀ q, Calls Try.prog 21 #[.slice none 0 0, .slice A6 n6 c6] ((w7.setCell ⟨w6.heap.size + 1 + 1, 0, none⟩ (.int .u64 (numQ out : Int))).drewN q) (Quiet (.bool true) ((w7.setCell ⟨w6.heap.size + 1 + 1, 0, none⟩ (.int .u64 (numQ out : Int))).drewN q)) := fun q => by
          have := same_any none A6 0 0 n6 c6 _ [] [] ((w7.setCell ⟨w6.heap.size + 1 + 1, 0, none⟩ (.int .u64 (numQ out : Int))).drewN q) (Rd.nil _ _) (o6y.drewN q)
          rw [show eqB [] [] = true from decide_eq_true rfl] at this
          exact this
        have cL : ∀ q, Calls Try.prog 31 #[.pointer (some ⟨g, 0, none⟩)] ((w7.setCell ⟨w6.heap.size + 1 + 1, 0, none⟩ (.int .u64 (numQ out : Int))).drewN q) (Quiet (.int .i64 ((n0 : Int) - at2)) ((w7.setCell ⟨w6.heap.size + 1 + 1, 0, none⟩ (.int .u64 (numQ out : Int))).drewN q)) := fun q => by
          have := left_any l0 at2 err2 g _ _ (h7.drewN q)
          rw [hln] at this
          exact this
        have cE : ∀ q, Calls Try.prog 32 #[.pointer (some ⟨g, 0, none⟩)] ((w7.setCell ⟨w6.heap.size + 1 + 1, 0, none⟩ (.int .u64 (numQ out : Int))).drewN q) (fun e w' => e = .returned (.int .i64 err2) ∧ w' = (w7.setCell ⟨w6.heap.size + 1 + 1, 0, none⟩ (.int .u64 (numQ out : Int))).drewN q) := fun q => (err_any l0 at2 err2 g _ _ (h7.drewN q)).mono fun e w' h => ⟨h.1, h.2.symm⟩
        have hl7 := h7.le
        rw [hln] at hl7
        go_wp2_with fail
        clear hne o6 o6y hbg j1
        obtain ⟨v0, v1⟩ := box2 kg
        obtain ⟨v2, v3⟩ := box2 kw
        obtain ⟨v4, v5, v6⟩ := box3 kn
        clear y0 y1 yf0 yf1
        go_quiet (first | (go_at_call 21; exact Calls.quiet_of (cS _)) | (go_at_call 31; exact Calls.quiet_of (cL _)) | (go_at_call 32; exact Calls.quiet_of_same (cE _)))
        clear cS cL cE v0 v1 v2 v3
        replace hb5 : Below w1.heap.size w1 ((w7.setCell ⟨w6.heap.size + 1 + 1, 0, none⟩ (.int .u64 (numQ out : Int))).drewN nq) := below_dN (hb5.setCell (p := ⟨w6.heap.size + 1 + 1, 0, none⟩) (by simp; omega) _) nq
        replace h7 : Rdr ((w7.setCell ⟨w6.heap.size + 1 + 1, 0, none⟩ (.int .u64 (numQ out : Int))).drewN nq) _ _ _ _ _ := h7
        replace hS : Rdr ((w7.setCell ⟨w6.heap.size + 1 + 1, 0, none⟩ (.int .u64 (numQ out : Int))).drewN nq) _ _ _ _ _ := hS
        replace hm : Own ((w7.setCell ⟨w6.heap.size + 1 + 1, 0, none⟩ (.int .u64 (numQ out : Int))).drewN nq) _ _ _ _ _ := hm
        replace km : Blk ((w7.setCell ⟨w6.heap.size + 1 + 1, 0, none⟩ (.int .u64 (numQ out : Int))).drewN nq) _ _ _ := km
        replace kn : Blk ((w7.setCell ⟨w6.heap.size + 1 + 1, 0, none⟩ (.int .u64 (numQ out : Int))).drewN nq) _ _ _ := kn
        clear hsz7 g7 hT4 v4 v5 v6 kg kw
        generalize (w7.setCell ⟨w6.heap.size + 1 + 1, 0, none⟩ (.int .u64 (numQ out : Int))).drewN nq = w11 at *
        obtain ⟨v4, v5, v6⟩ := box3 kn
        have yf0 := km.frozen 0
        have yf1 := km.frozen 1
        have yf2 := km.frozen 2
        obtain ⟨y0, y1, y2⟩ := box3 km
        set_option maxRecDepth 20000 in
        go_wp2_with fail
        go_roundw
        case rel =>
          refine ⟨k + 1, at2, err2, by omega, by go_num, ⟨((h7.far (by omega) _).far (by omega) _).far (by omega) _, ((hS.far (by omega) _).far (by omega) _).far (by omega) _, ((km.set_ 0 _).set_ 1 _).set_ 2 _, own_set (own_set (own_set hm hA4 _) hA4 _) hA4 _⟩, ?_⟩
          exact ((hb5.setCell (p := ⟨w4.heap.size, 0, none⟩) (by simp; omega) _).setCell (p := ⟨w4.heap.size, 1, none⟩) (by simp; omega) _).setCell (p := ⟨w4.heap.size, 2, none⟩) (by simp; omega) _
        case measure => simp [intOf]; omega
      · simp only [show ¬ (4 : Int) < 4 from by omega, if_false] at o6 ⊢
        have hT3 : takeR l0 at_ err N = (out, at2, err2) := hT2.out
        have hT4 := Lib.hid hT3
        clear hT3 hT2
        skip
        have b9 : Below w6.heap.size w6 (((w6.alloc (.cells #[.slice A4 n0 c4, .int .i64 (at2 : Int), .int .i64 err2] 46)).alloc (.cells #[.int .u64 0, .slice A6 n6 c6] 50)).alloc (.cells #[.int .u64 0, .slice none 0 0] 50)) := below_a1' (below_a1' (below_a1' (Below.refl _ _) _) _) _
        obtain ⟨y0, y1⟩ := box2 (ka.step b9)
        have hgl := hR.lt
        replace hR := hR.below b9
        replace hS := hS.below b9
        replace hm := hm.below b9
        replace km := km.step b9
        have kn := ((Blk.new w6 #[.slice A4 n0 c4, .int .i64 (at2 : Int), .int .i64 err2] 46).alloc (.cells #[.int .u64 0, .slice A6 n6 c6] 50)).alloc (.cells #[.int .u64 0, .slice none 0 0] 50)
        have kw := (Blk.new (w6.alloc (.cells #[.slice A4 n0 c4, .int .i64 (at2 : Int), .int .i64 err2] 46)) #[.int .u64 0, .slice A6 n6 c6] 50).alloc (.cells #[.int .u64 0, .slice none 0 0] 50)
        have kg := Blk.new ((w6.alloc (.cells #[.slice A4 n0 c4, .int .i64 (at2 : Int), .int .i64 err2] 46)).alloc (.cells #[.int .u64 0, .slice A6 n6 c6] 50)) #[.int .u64 0, .slice none 0 0] 50
        replace hb5 := hb5.trans (b9.mono hb5.size)
        simp only [World.size_alloc] at kw kg
        go_wp2_with fail
        clear y0 y1
        refine (raw_any l0 at_ err N g _ _ hR).mono ?_
        rintro e w7 ⟨A7, n7, c7, rfl, o7, h7, g7⟩
        rw [hT4.out] at h7 o7
        dsimp only at h7 o7
        clear hR
        have hne : ∀ j, g ≠ j → some j ≠ some g := by intro j hj he; exact hj (Option.some.inj he).symm
        have hbg := below_grown (B := w1.heap.size) g7 hBg (by simp; omega)
        replace hb5 := hb5.trans hbg
        replace hS := hS.kept g7 hg1
        replace hm := hm.kept g7 (by omega)
        replace km : Blk w7 _ _ _ := (g7.block _ km.lt (hne _ (by omega))).trans km
        replace kn : Blk w7 _ _ _ := (g7.block _ kn.lt (hne _ (by omega))).trans kn
        replace kw : Blk w7 _ _ _ := (g7.block _ kw.lt (hne _ (by omega))).trans kw
        replace kg : Blk w7 _ _ _ := (g7.block _ kg.lt (hne _ (by omega))).trans kg
        obtain ⟨y0, y1⟩ := box2 kg
        have yf0 := kg.frozen 0
        have yf1 := kg.frozen 1
        have j1 := rdr_grown_set w7 (w6.heap.size + 1 + 1) 1 (.slice A7 n7 c7)
        have hsz7 := g7.size
        simp only [World.size_alloc] at hsz7
        replace h7 : Rdr (w7.setCell ⟨w6.heap.size + 1 + 1, 1, none⟩ (.slice A7 n7 c7)) _ _ _ _ _ := h7.far (by omega) _
        replace hS : Rdr (w7.setCell ⟨w6.heap.size + 1 + 1, 1, none⟩ (.slice A7 n7 c7)) _ _ _ _ _ := hS.far (by omega) _
        replace hm : Own (w7.setCell ⟨w6.heap.size + 1 + 1, 1, none⟩ (.slice A7 n7 c7)) _ _ _ _ _ := own_set hm (fun k hk => by have := hA4 k hk; omega) _
        replace km : Blk (w7.setCell ⟨w6.heap.size + 1 + 1, 1, none⟩ (.slice A7 n7 c7)) _ _ _ := km.far (by simp; omega) _
        replace kn : Blk (w7.setCell ⟨w6.heap.size + 1 + 1, 1, none⟩ (.slice A7 n7 c7)) _ _ _ := kn.far (by simp; omega) _
        replace kw : Blk (w7.setCell ⟨w6.heap.size + 1 + 1, 1, none⟩ (.slice A7 n7 c7)) _ _ _ := kw.far (by simp) _
        replace kg : Blk (w7.setCell ⟨w6.heap.size + 1 + 1, 1, none⟩ (.slice A7 n7 c7)) _ #[.int .u64 0, .slice A7 n7 c7] _ := kg.set_ 1 (.slice A7 n7 c7)
        have o6y := o6 _ _ hm.rd
        have o7y := (o7.kept j1 (by simp)).rd
        have cS : ∀ q, Calls Try.prog 21 #[.slice A7 n7 c7, .slice A6 n6 c6] ((w7.setCell ⟨w6.heap.size + 1 + 1, 1, none⟩ (.slice A7 n7 c7)).drewN q) (Quiet (.bool true) ((w7.setCell ⟨w6.heap.size + 1 + 1, 1, none⟩ (.slice A7 n7 c7)).drewN q)) := fun q => by
          have := same_any A7 A6 n7 c7 n6 c6 _ out out ((w7.setCell ⟨w6.heap.size + 1 + 1, 1, none⟩ (.slice A7 n7 c7)).drewN q) (o7y.drewN q) (o6y.drewN q)
          rw [show eqB out out = true from decide_eq_true rfl] at this
          exact this
        have cL : ∀ q, Calls Try.prog 31 #[.pointer (some ⟨g, 0, none⟩)] ((w7.setCell ⟨w6.heap.size + 1 + 1, 1, none⟩ (.slice A7 n7 c7)).drewN q) (Quiet (.int .i64 ((n0 : Int) - at2)) ((w7.setCell ⟨w6.heap.size + 1 + 1, 1, none⟩ (.slice A7 n7 c7)).drewN q)) := fun q => by
          have := left_any l0 at2 err2 g _ _ (h7.drewN q)
          rw [hln] at this
          exact this
        have cE : ∀ q, Calls Try.prog 32 #[.pointer (some ⟨g, 0, none⟩)] ((w7.setCell ⟨w6.heap.size + 1 + 1, 1, none⟩ (.slice A7 n7 c7)).drewN q) (fun e w' => e = .returned (.int .i64 err2) ∧ w' = (w7.setCell ⟨w6.heap.size + 1 + 1, 1, none⟩ (.slice A7 n7 c7)).drewN q) := fun q => (err_any l0 at2 err2 g _ _ (h7.drewN q)).mono fun e w' h => ⟨h.1, h.2.symm⟩
        have hl7 := h7.le
        rw [hln] at hl7
        go_wp2_with fail
        clear hne o6 o6y hbg j1
        obtain ⟨v0, v1⟩ := box2 kg
        obtain ⟨v2, v3⟩ := box2 kw
        obtain ⟨v4, v5, v6⟩ := box3 kn
        clear y0 y1 yf0 yf1
        go_quiet (first | (go_at_call 21; exact Calls.quiet_of (cS _)) | (go_at_call 31; exact Calls.quiet_of (cL _)) | (go_at_call 32; exact Calls.quiet_of_same (cE _)))
        clear cS cL cE v0 v1 v2 v3
        replace hb5 : Below w1.heap.size w1 ((w7.setCell ⟨w6.heap.size + 1 + 1, 1, none⟩ (.slice A7 n7 c7)).drewN nq) := below_dN (hb5.setCell (p := ⟨w6.heap.size + 1 + 1, 1, none⟩) (by simp; omega) _) nq
        replace h7 : Rdr ((w7.setCell ⟨w6.heap.size + 1 + 1, 1, none⟩ (.slice A7 n7 c7)).drewN nq) _ _ _ _ _ := h7
        replace hS : Rdr ((w7.setCell ⟨w6.heap.size + 1 + 1, 1, none⟩ (.slice A7 n7 c7)).drewN nq) _ _ _ _ _ := hS
        replace hm : Own ((w7.setCell ⟨w6.heap.size + 1 + 1, 1, none⟩ (.slice A7 n7 c7)).drewN nq) _ _ _ _ _ := hm
        replace km : Blk ((w7.setCell ⟨w6.heap.size + 1 + 1, 1, none⟩ (.slice A7 n7 c7)).drewN nq) _ _ _ := km
        replace kn : Blk ((w7.setCell ⟨w6.heap.size + 1 + 1, 1, none⟩ (.slice A7 n7 c7)).drewN nq) _ _ _ := kn
        clear hsz7 g7 hT4 v4 v5 v6 kg kw
        generalize (w7.setCell ⟨w6.heap.size + 1 + 1, 1, none⟩ (.slice A7 n7 c7)).drewN nq = w11 at *
        obtain ⟨v4, v5, v6⟩ := box3 kn
        have yf0 := km.frozen 0
        have yf1 := km.frozen 1
        have yf2 := km.frozen 2
        obtain ⟨y0, y1, y2⟩ := box3 km
        set_option maxRecDepth 20000 in
        go_wp2_with fail
        go_roundw
        case rel =>
          refine ⟨k + 1, at2, err2, by omega, by go_num, ⟨((h7.far (by omega) _).far (by omega) _).far (by omega) _, ((hS.far (by omega) _).far (by omega) _).far (by omega) _, ((km.set_ 0 _).set_ 1 _).set_ 2 _, own_set (own_set (own_set hm hA4 _) hA4 _) hA4 _⟩, ?_⟩
          exact ((hb5.setCell (p := ⟨w4.heap.size, 0, none⟩) (by simp; omega) _).setCell (p := ⟨w4.heap.size, 1, none⟩) (by simp; omega) _).setCell (p := ⟨w4.heap.size, 2, none⟩) (by simp; omega) _
        case measure => simp [intOf]; omega
    · clear hm km
      have hk2 : k = n1 := by omega
      clear hlt
      subst hk2
      go_wp2_with fail
      refine (left_any l0 0 0 g2 _ _ hS).mono ?_
      rintro e w5 ⟨rfl, hq5⟩
      have b5 := quiet_self hq5
      replace hS := Rdr.below hS b5
      replace hb5 := below_step hb5 b5
      clear hq5 b5
      rw [hln, show (n0 : Int) - ((0 : Nat) : Int) = (n0 : Int) from by simp]
      go_wp2_with fail
      refine (err_any l0 0 0 g2 _ _ hS).mono ?_
      rintro e w6 ⟨rfl, hq6⟩
      subst hq6
      go_wp2_with fail
      go_ret
      exact ⟨rfl, below_step b hb5⟩


set_option maxRecDepth 100000 in
theorem lifted_octetReads (os : Os) (started : os.Started) (H : Type) (enc : TypeId × Value → H) :
    ReturnsInHanded {} Try.checked os 7 .any (Rows.octetReadsSpec.pre6 enc Try.prog Try.f7 Rows.octetReadsRow.domain false) (Rows.octetReadsSpec.post enc Try.prog Try.f7 false true false false) := by
  refine returnsInHanded_of_change_sized (C := Try.checked) own started (by kernel_rfl) Try.func7
    (ChangeSpec.witness6 (enc := enc) (C := Try.checked) false ⟨#[], #[.slice none 0 0, .slice none 0 0], []⟩ 8 (by kernel_rfl) (by kernel_rfl) (by kernel_rfl) (by kernel_rfl)) ?_
  intro W base args ds gs before hval0 hW hcnd hsz0 _
  have hval : ∀ (j : Nat) t v, Try.f7.params[j]? = some t → args[j]? = some v → Value.okWide Try.prog W .any base t v := hval0
  have hsz : (DataW.weightsEach Try.prog (Try.f7.params.toList ++ Rows.octetReadsSpec.plain.varTypes Try.prog) (ds ++ gs)).all (· ≤ reachBytes) = true := hsz0
  have hW' := hW
  obtain ⟨p, q, hA0, hV, rfl, hfz, hnd⟩ := hW
  have hA : DataW.TrodAll enc Try.prog W 0 (fun _ => true) true Try.f7.params.toList args.toList ds p := hA0
  rw [Try.params7] at hA hval hsz
  obtain ⟨v0, vs0, d0, ds0, p0, q0, hargs, rfl, rfl, h0, t0⟩ := trodAll_cons hA
  obtain ⟨v1, vs1, d1, ds1, p1, q1, rfl, rfl, rfl, h1, t1⟩ := trodAll_cons t0
  obtain ⟨rfl, rfl, rfl⟩ := trodAll_nil t1
  obtain rfl : args = #[v0, v1] := by cases args; simp_all
  obtain ⟨rfl, rfl⟩ := trodVars_none hV
  have k0 := h0
  obtain ⟨A0, n0, c0, l0, rfl, r0, y0⟩ := open_bytes (hval 0 22 v0 rfl rfl) h0
  have s0 := y0 (weights_of hsz (j := 0) rfl rfl)
  have k1 := h1
  obtain ⟨A1, n1, c1, l1, rfl, r1, y1⟩ := open_asks (hval 1 41 v1 rfl rfl) h1
  have s1 := y1 (weights_of hsz (j := 1) rfl rfl)
  clear hA0 hval0
  refine (walk_octetReads A0 n0 c0 l0 A1 n1 c1 l1 W r0 s0 r1 s1).mono fun e W' ⟨he, bel⟩ => ?_
  subst he
  exact ⟨_, rfl, _, _, _, [], _, [], hW', trodAll_mk1 (shut_bool Try.underlying4 _), (trodAll_cons_mk (Below.trod laidOut (by kernel_rfl) (of_decide_eq_true (by kernel_rfl)) k0 bel (trod_places k0)) (trodAll_cons_mk (Below.trod laidOut (by kernel_rfl) (of_decide_eq_true (by kernel_rfl)) k1 bel (trod_places k1)) trodAll_mk0)), rfl, bel.frame _, fun h => by cases h⟩

theorem over_octetReads : Rows.octetReadsRow.holds Try.pinned (OpenSpec.ofChange Rows.octetReadsSpec) :=
  OpenClaim.holds_of_wide 7 Try.f7 rfl rfl rfl rfl rfl rfl rfl ⟨rfl, rfl, rfl, rfl, rfl⟩ rfl rfl rfl rfl rfl (by kernel_rfl) Try.func7 (by kernel_rfl)
    (of_decide_eq_true (by kernel_rfl)) (by unfold Func.isWrapper; first | (rw [if_pos (by decide +kernel)]; kernel_rfl) | (rw [if_neg (by decide +kernel)]; exact ⟨rfl, rfl⟩))
    (fun os started H enc _ => lifted_octetReads os started H enc)

/-- The statement. -/
theorem octetReads_holds : Rows.OctetReadsSaid := over_octetReads
#print axioms octetReads_holds

end Go.Proofs.Ytbofnmlddpbfeaa

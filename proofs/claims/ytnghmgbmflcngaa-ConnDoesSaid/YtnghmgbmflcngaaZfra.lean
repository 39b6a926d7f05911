/- Merged texts: Fra, Cat, Frb, Frc, Frd. Conditions: typed in each theorem. -/
import Derived.Test.YtnghmgbmflcngaaZbas
import Derived.Deep.RegionHeld3
import Derived.Lib.AppendZeros
namespace Go.Proofs.Ytnghmgbmflcngaa
set_option linter.unusedVariables false
section
open Go.RowKit
def hdV (mg op kl el ty st bl oq cas : Nat) : Value :=
  .agg #[.int .u8 mg, .int .u8 op, .int .u16 kl, .int .u8 el, .int .u8 ty, .int .u16 st, .int .u32 bl, .int .u32 oq, .int .u64 cas]
def HdF (mg op kl el ty st bl oq cas : Nat) : Prop := mg < 256 ∧ op < 256 ∧ kl < 65536 ∧ el < 256 ∧ ty < 256 ∧ st < 65536 ∧ bl < 4294967296 ∧ oq < 4294967296 ∧ cas < 18446744073709551616
def mayB (mg kl el bl : Nat) : Bool := (mg == 128 || mg == 129) && decide (kl + el ≤ bl)
def BoxQ (v : Value) (w : World) (e : Ending) (w' : World) : Prop := e = .returned v ∧ Below w.heap.size w w'
theorem mayB_yes {m kl el bl : Nat} (h : m = 128 ∨ m = 129) : mayB m kl el bl = decide (kl + el ≤ bl) := by
  rcases h with rfl | rfl <;> simp [mayB]
theorem mayB_no {m kl el bl : Nat} (h : m ≠ 128) (h' : m ≠ 129) : mayB m kl el bl = false := by
  unfold mayB
  rw [show (m == 128) = false from beq_eq_false_iff_ne.2 h, show (m == 129) = false from beq_eq_false_iff_ne.2 h']; rfl
theorem eqNf {x : Nat} {k : Int} (h : (x : Int) ≠ k) : ((x : Int) == k) = false := by rw [beq_eq_false_iff_ne]; exact h
theorem retB {a b : Bool} (h : a = b) : Ending.returned (.bool a) = .returned (.bool b) := by rw [h]
set_option maxRecDepth 100000 in
set_option maxHeartbeats 400000 in
theorem may_any (mg op kl el ty st bl oq cas : Nat) (hf : HdF mg op kl el ty st bl oq cas) (w : World) :
    Calls Try.prog 102 #[hdV mg op kl el ty st bl oq cas] w (BoxQ (.bool (mayB mg kl el bl)) w) := by
  obtain ⟨f0, f1, f2, f3, f4, f5, f6, f7, f8⟩ := hf
  unfold hdV
  by_cases h1 : mg = 128 ∨ mg = 129
  · rw [mayB_yes h1]
    rcases h1 with rfl | rfl
    all_goals
      go_enter Try.func102, Try.ntmps102
      go_wp2_with fail
      go_ret
      exact ⟨retB (by rw [decide_eq_decide]; omega), below_a1' (Below.refl _ _) _⟩
  · have t0 := eqNf (x := mg) (k := 128) (by omega)
    have t1 := eqNf (x := mg) (k := 129) (by omega)
    rw [mayB_no (by omega) (by omega)]
    clear h1
    go_enter Try.func102, Try.ntmps102
    go_wp2_with fail
    go_ret
    exact ⟨rfl, below_a1' (Below.refl _ _) _⟩
def hdB (mg op kl el ty st bl oq cas : Nat) : List UInt8 :=
  [UInt8.ofNat mg, UInt8.ofNat op] ++ highB kl 2 ++ [UInt8.ofNat el, UInt8.ofNat ty] ++ highB st 2 ++ highB bl 4 ++ highB oq 4 ++ highB cas 8
theorem hdB_length (mg op kl el ty st bl oq cas : Nat) : (hdB mg op kl el ty st bl oq cas).length = 24 := by simp [hdB, length_highB]
def BytesQ (n : Nat) (l : List UInt8) (w : World) (e : Ending) (w' : World) : Prop := ∃ A' c', e = .returned (.slice A' n c') ∧ Own w' w.heap.size A' n c' l ∧ Below w.heap.size w w'
theorem cb_ofNat {x : Nat} (h : x < 256) : Value.int .u8 (x : Int) = cb (UInt8.ofNat x) := by
  unfold cb
  rw [show (UInt8.ofNat x).toNat = x from by simp; omega]
theorem own_two {w : World} {x y : Nat} (hx : x < 256) (hy : y < 256) (B k : Nat) (hk : w.heap.size = k) (hB : B ≤ k) : Own (w.alloc (.cells #[.int .u8 (x : Int), .int .u8 (y : Int)] 5)) B (some ⟨k, 0, none⟩) 2 2 [UInt8.ofNat x, UInt8.ofNat y] :=
  Own.litK w k _ B 2 _ hk hB (by simp [maxLen]) rfl (by rw [cb_ofNat hx, cb_ofNat hy]; rfl)
def hdC (mg op kl el ty st bl oq cas : Nat) : Array Value := #[.int .u8 mg, .int .u8 op, .int .u16 kl, .int .u8 el, .int .u8 ty, .int .u16 st, .int .u32 bl, .int .u32 oq, .int .u64 cas]
set_option maxRecDepth 100000 in
set_option maxHeartbeats 2000000 in
theorem putHeader_any (mg op kl el ty st bl oq cas : Nat) (hf : HdF mg op kl el ty st bl oq cas) (w : World) :
    Calls Try.prog 104 #[hdV mg op kl el ty st bl oq cas] w (BytesQ 24 (hdB mg op kl el ty st bl oq cas) w) := by
  obtain ⟨f0, f1, f2, f3, f4, f5, f6, f7, f8⟩ := hf
  have k0 : Blk _ _ (hdC mg op kl el ty st bl oq cas) _ := Blk.new w _ 59
  unfold hdV
  go_enter Try.func104, Try.ntmps104
  go_wp2_with fail
  refine (put16_any _ 2 2 _ kl f2 [UInt8.ofNat mg, UInt8.ofNat op] _ (Own.rd (own_two f0 f1 0 _ (by simp) (by omega))) (Nat.le_refl _) (by omega)).mono ?_
  rintro e w1 ⟨A1, c1, rfl, o1, b1⟩
  replace k0 := (k0.alloc _).step b1
  have b : Below w.heap.size w w1 := (below_a1' (below_a1' (Below.refl _ _) _) _).trans (b1.mono (by simp; omega))
  obtain ⟨q0, q1, q2, q3, q4, q5, q6, q7, q8⟩ := box9 k0
  simp only [World.size_alloc] at o1
  go_wp2_with fail
  have hs1 : w.heap.size + 1 + 1 ≤ w1.heap.size := by have := b1.size; simpa using this
  have oa : Own (w1.alloc (.cells #[.int .u8 (el : Int), .int .u8 (ty : Int)] 5)).drew (w.heap.size + 1 + 1) A1 4 c1 ([UInt8.ofNat mg, UInt8.ofNat op] ++ highB kl 2) := o1.alloc _
  have ob : Rd (w1.alloc (.cells #[.int .u8 (el : Int), .int .u8 (ty : Int)] 5)).drew (w1.heap.size + 1) (some ⟨w1.heap.size, 0, none⟩) 2 2 [UInt8.ofNat el, UInt8.ofNat ty] := (Own.rd (own_two f3 f4 0 _ rfl (by omega))).more (by simp)
  have hba : w.heap.size + 1 + 1 ≤ (w1.alloc (.cells #[.int .u8 (el : Int), .int .u8 (ty : Int)] 5)).drew.heap.size := by show _ ≤ (w1.heap.push _).size; simp; omega
  go_region_held3 (fun w' => w'.cell? ⟨w.heap.size, 3, none⟩ = some (.int .u8 el) ∧ w'.cell? ⟨w.heap.size, 4, none⟩ = some (.int .u8 ty) ∧ w'.cell? ⟨w.heap.size, 5, none⟩ = some (.int .u16 st)) (first | exact ⟨q3, q4, q5⟩ | go_keep)
    (first
      | (go_at_call 126
         refine (put16_any A2 6 c2 _ st f5 _ _ o2.rd (Nat.le_refl _) (by omega)).mono ?_
         rintro e w3 ⟨A3, c3, rfl, o3, b3⟩
         replace k0 := k0.step b3
         replace b := below_step b b3
         clear q0 q1 q2 q3 q4 q5 q6 q7 q8
         obtain ⟨q0, q1, q2, q3, q4, q5, q6, q7, q8⟩ := box9 k0)
      | (refine step_app8 _ rfl _ _ rfl _ _ _ _ _ rfl oa _ _ _ _ _ rfl ob (by omega) hba ?_
         intro A2 c2 w2 o2 b2
         replace k0 : Blk w2 w.heap.size _ _ := (b2.block _ (by omega)).trans (k0.alloc _)
         replace b := b.trans ((((Below.refl _ w1).alloc hs1 _).drew.trans b2).mono (by omega))
         clear q0 q1 q2 q3 q4 q5 q6 q7 q8
         obtain ⟨q0, q1, q2, q3, q4, q5, q6, q7, q8⟩ := box9 k0))
  clear oa ob hba o1
  go_wp2_with fail
  go_region_held3 (fun w' => w'.cell? ⟨w.heap.size, 6, none⟩ = some (.int .u32 bl) ∧ w'.cell? ⟨w.heap.size, 7, none⟩ = some (.int .u32 oq) ∧ w'.cell? ⟨w.heap.size, 8, none⟩ = some (.int .u64 cas)) (first | exact ⟨q6, q7, q8⟩ | go_keep)
    (first
      | (go_at_call 87
         refine (put32_any A3 8 c3 _ bl f6 _ _ (o3.rd.drewN 1) (Nat.le_refl _) (by omega)).mono ?_
         rintro e w4 ⟨A4, c4, rfl, o4, b4⟩
         replace k0 : Blk w4 w.heap.size _ _ := Blk.step (w := w3.drew) k0 b4
         replace b := below_step (w1 := w3.drew) b.drew b4
         clear q0 q1 q2 q3 q4 q5 q6 q7 q8
         obtain ⟨q0, q1, q2, q3, q4, q5, q6, q7, q8⟩ := box9 k0)
      | (go_at_call 87
         refine (put32_any A4 12 c4 _ oq f7 _ _ o4.rd (Nat.le_refl _) (by omega)).mono ?_
         rintro e w5 ⟨A5, c5, rfl, o5, b5⟩
         replace k0 := k0.step b5
         replace b := below_step b b5
         clear q0 q1 q2 q3 q4 q5 q6 q7 q8
         obtain ⟨q0, q1, q2, q3, q4, q5, q6, q7, q8⟩ := box9 k0)
      | (go_at_call 88
         refine (put64_any A5 16 c5 _ cas f8 _ _ o5.rd (Nat.le_refl _) (by omega)).mono ?_
         rintro e w6 ⟨A6, c6, rfl, o6, b6⟩
         have hb5 := b.size
         replace k0 := k0.step b6
         replace b := below_step b b6
         clear q0 q1 q2 q3 q4 q5 q6 q7 q8
         obtain ⟨q0, q1, q2, q3, q4, q5, q6, q7, q8⟩ := box9 k0))
  go_wp2_with fail
  go_ret
  exact ⟨A6, c6, rfl, o6.more hb5, b⟩
end
section
open Go.RowKit
theorem wpList_grown8 (w : World) {ops : Array Oper} {rest : List Oper} {o : Oper} {a : Act} {Q : Exit → Act → World → Prop}
    (hg : Region.wanted o (yielded ops a.tmps) = true) (s x : Operand) (hop : o.op = Op.call { callee := Callee.builtin Builtin.append, args := #[s, x], argTypes := #[23, 3] })
    (n : Nat) (hs : a.eval s = .slice none 0 0) (hx : a.eval x = .int .i64 (n : Int)) (h0 : 0 < n) (hn : n ≤ 281474976710656) (B : Nat) (hB : B ≤ w.heap.size)
    (hK : ∀ c' w', n ≤ c' → Own w' B (some ⟨w.heap.size, 0, none⟩) 0 c' [] → Below w.heap.size w w' → wpList Try.prog ops Q rest (a.put o.dst (.slice (some ⟨w.heap.size, 0, none⟩) n c')) w') :
    wpList Try.prog ops Q (o :: rest) a w := by
  refine wpList_want hg fun K hK' => ?_
  obtain ⟨i0, hi0, hz0, hz1, hz2⟩ := info_parts u8info
  have hrun := Go.Lib.run_append_nil_zeros (P := Try.prog) w 23 3 o.type 5 i0 _ .i64 .i64 Try.underlying23 Try.underlying3 hi0 hz0 n h0 (by rw [hz1]; omega) (by omega) (by rw [hz2]; omega)
  have hle := grownCap_ge w n 0 5
  have hmx := grownCap_le_maxLen w n 0 5 (by unfold maxLen; omega)
  unfold Oper.wp
  simp [execOp, hop, resolve, invoke, builtin, hs, hx, hrun, Result.andThen]
  refine hK' _ _ (hK _ _ hle ?_ (((Below.refl _ w).drew).alloc (Nat.le_refl _) _))
  refine ⟨rfl, .inr ⟨w.heap.size, _, _, rfl, hB, heap_alloc_new w.drew _, Nat.zero_le _, hmx, ?_, by simp [cbs]⟩⟩
  simp only [Array.size_append, size_zeroCells, show (Value.int .u8 0).cells.size = 1 from rfl]
  omega
set_option maxRecDepth 100000 in
set_option maxHeartbeats 400000 in
theorem grow_nil (n : Nat) (hn : n ≤ 281474976710656) (w : World) :
    Calls Try.prog 125 #[.slice none 0 0, .int .i64 (n : Int)] w fun e w' => ∃ A' c', e = .returned (.slice A' 0 c') ∧ Own w' w.heap.size A' 0 c' [] ∧ Below w.heap.size w w' := by
  by_cases h0 : 0 < n
  · skip
    go_enter Try.func125, Try.ntmps125
    go_wp2_with (at_builtin; refine wpList_grown8 _ rfl _ _ rfl n rfl (by go_num) h0 hn w.heap.size (Nat.le_refl _) ?_)
    intro c' w' hc ho hb
    go_wp2_with fail
    go_ret
    exact ⟨_, c', rfl, ho, hb⟩
  · obtain rfl : n = 0 := by omega
    go_enter Try.func125, Try.ntmps125
    go_wp2_with fail
    go_ret
    exact ⟨none, 0, rfl, Own.nil _ _, Below.refl _ _⟩
def partV (p : Option Addr × Nat × Nat × List UInt8) : Value := .slice p.1 p.2.1 p.2.2.1
def catB (ps : List (Option Addr × Nat × Nat × List UInt8)) : List UInt8 := ps.flatMap fun p => p.2.2.2
theorem catB_step {ps : List (Option Addr × Nat × Nat × List UInt8)} {i : Nat} {p : Option Addr × Nat × Nat × List UInt8} (h : ps[i]? = some p) : catB (ps.take (i + 1)) = catB (ps.take i) ++ p.2.2.2 := by
  unfold catB
  rw [List.take_add_one, h]; simp
theorem catB_le (ps : List (Option Addr × Nat × Nat × List UInt8)) (i : Nat) : (catB (ps.take i)).length ≤ (catB ps).length := by
  have h : catB ps = catB (ps.take i) ++ catB (ps.drop i) := by
    unfold catB
    rw [← List.flatMap_append, List.take_append_drop]
  rw [h, List.length_append]; omega
set_option maxRecDepth 100000 in
set_option maxHeartbeats 1000000 in
theorem concat_any (A : Option Addr) (k c : Nat) (ps : List (Option Addr × Nat × Nat × List UInt8)) (N : Nat) (w : World) (h : Rv w w.heap.size A k c (ps.map partV))
    (hp : ∀ p ∈ ps, Rd w w.heap.size p.1 p.2.1 p.2.2.1 p.2.2.2) (hN : (catB ps).length = N) (hs : N ≤ 140737488355328) :
    Calls Try.prog 103 #[.slice A k c] w fun e w' => ∃ A' c', e = .returned (.slice A' N c') ∧ Own w' w.heap.size A' N c' (catB ps) ∧ Below w.heap.size w w' := by
  have m1 : (k : Int) ≤ 9223372036854775807 := by have := h.cap; have := h.max; unfold maxLen at this; omega
  have hk : ps.length = k := by have := h.1; simpa using this
  have HP := Lib.hid hp; clear hp
  go_enter Try.func103, Try.ntmps103
  go_wp2_with fail
  go_loop [3, 11] (fun x i => ∃ j m : Nat, j ≤ k ∧ i = .int .i64 j ∧ m = (catB (ps.take j)).length ∧ x = .int .i64 (m : Int)) (fun _ i => k - (intOf i).toNat)
  case atStart => exact ⟨0, 0, Nat.zero_le _, rfl, rfl, rfl⟩
  case round =>
    obtain ⟨j, m, hj, rfl, hm, rfl⟩ := hrel
    have hml : m ≤ N := by rw [hm, ← hN]; exact catB_le _ _
    have HM := Lib.hid hm; clear hm
    by_cases hlt : j < k
    · obtain ⟨p, hpj⟩ : ∃ p, ps[j]? = some p := ⟨_, List.getElem?_eq_getElem (by omega)⟩
      obtain ⟨a1, u, rfl, -, hu, hc⟩ := h.some_ hlt
      rw [List.getElem?_map, hpj] at hu
      obtain rfl : partV p = u := by simpa using hu
      have hr := HP.out p (List.mem_of_getElem? hpj)
      obtain ⟨A2, n2, c2, l2⟩ := p
      have hst := catB_step hpj
      have hl2 := hr.len
      have hle := catB_le ps (j + 1)
      rw [hst, hN, List.length_append] at hle
      have hmj := HM.out
      have HS := Lib.hid hst
      clear hu hpj hst
      simp only [partV] at hc
      dsimp only at hl2 hle
      have hn2 : m + n2 ≤ N := by omega
      have HL := Lib.hid (show m + n2 = (catB (ps.take (j + 1))).length from by rw [HS.out, List.length_append, ← hmj]; dsimp only; omega)
      clear hle hmj hl2
      go_wp2
      go_round
      case rel => exact ⟨j + 1, m + n2, by omega, by go_num, HL.out, by go_num⟩
      case measure => simp [intOf]; omega
    · obtain rfl : j = k := by omega
      have hmN : m = N := by rw [HM.out, ← hN, List.take_of_length_le (by omega)]
      clear HM
      subst hmN
      go_wp2_with fail
      refine (grow_nil m (by omega) _).mono ?_
      rintro e w1 ⟨A1, c1, rfl, o1, b1⟩
      go_wp2_with fail
      go_loopw [6, 27] (fun x i wr => ∃ (j' : Nat) (A2 : Option Addr) (m2 c2 : Nat), j' ≤ j ∧ i = .int .i64 j' ∧ x = .slice A2 m2 c2 ∧ Own wr w.heap.size A2 m2 c2 (catB (ps.take j')) ∧ Below w.heap.size w wr) (fun _ i _ => j - (intOf i).toNat)
      case atStart => exact ⟨0, A1, 0, c1, Nat.zero_le _, rfl, rfl, o1, b1⟩
      case round =>
        obtain ⟨j', A2, m2, c2, hj', rfl, rfl, o2, b2⟩ := hrel
        by_cases hlt2 : j' < j
        · obtain ⟨p, hpj⟩ : ∃ p, ps[j']? = some p := ⟨_, List.getElem?_eq_getElem (by omega)⟩
          obtain ⟨a1, u, rfl, -, hu, hc⟩ := (h.below b2).some_ hlt2
          rw [List.getElem?_map, hpj] at hu
          obtain rfl : partV p = u := by simpa using hu
          have hr := (HP.out p (List.mem_of_getElem? hpj)).below b2
          obtain ⟨Ap, np, cp, lp⟩ := p
          have hst := catB_step hpj
          have hl2 := hr.len
          have hl3 := o2.len
          have hle := catB_le ps (j' + 1)
          rw [hst, hN, List.length_append] at hle
          have HS := Lib.hid hst
          clear hu hpj hst
          simp only [partV] at hc
          dsimp only at hl2 hle hr
          have hn2 : m2 + np ≤ m := by omega
          clear hle hl2 hl3
          go_wp2_with (at_builtin; refine wpList_app8 _ rfl _ _ rfl w.heap.size A2 m2 c2 _ rfl o2 w.heap.size Ap np cp lp rfl hr (by omega) b2.size ?_)
          intro A3 c3 w3 o3 b3
          have b4 := b2.trans b3
          have HO := Lib.hid o3
          clear o3 b3 o2 hr
          go_wp2
          go_roundw
          case rel => exact ⟨j' + 1, A3, m2 + np, c3, by omega, by go_num, by go_num, by rw [HS.out]; exact HO.out, b4⟩
          case measure => simp [intOf]; omega
        · obtain rfl : j' = j := by omega
          have hl3 := o2.len
          rw [List.take_of_length_le (by omega)] at o2 hl3
          obtain rfl : m2 = m := by omega
          go_wp2
          go_ret
          exact ⟨A2, c2, rfl, o2, b2⟩
end
section
open Go.RowKit
def frC (mg op kl el ty st bl oq cas : Nat) (x k v : Value) : Array Value := #[.int .u8 mg, .int .u8 op, .int .u16 kl, .int .u8 el, .int .u8 ty, .int .u16 st, .int .u32 bl, .int .u32 oq, .int .u64 cas, x, k, v]
def frV (mg op kl el ty st bl oq cas : Nat) (x k v : Value) : Value := .agg (frC mg op kl el ty st bl oq cas x k v)
theorem neIf {x y : Int} (h : x = y) : (x != y) = false := by rw [bne_eq_false_iff_eq]; exact h
end
section
open Go.RowKit
theorem rd_four {w : World} {B B2 : Nat} {A X K V : Option Addr} {n c nx cx nk ck nv cv : Nat} {l lx lk lv : List UInt8} (h : Own w B2 A n c l) (hx : Rd w B X nx cx lx) (hk : Rd w B K nk ck lk) (hv : Rd w B V nv cv lv) (hB : B ≤ w.heap.size) (o : Obj) :
    ∀ p ∈ [(A, n, c, l), (X, nx, cx, lx), (K, nk, ck, lk), (V, nv, cv, lv)], Rd (w.alloc o) (w.alloc o).heap.size p.1 p.2.1 p.2.2.1 p.2.2.2 := by
  intro p hp
  simp only [List.mem_cons, List.not_mem_nil, or_false] at hp
  have hz : w.heap.size ≤ (w.alloc o).heap.size := by simp
  rcases hp with rfl | rfl | rfl | rfl
  · exact (h.rd.alloc (Nat.le_refl _) o).more hz
  · exact (hx.alloc hB o).more (Nat.le_trans hB hz)
  · exact (hk.alloc hB o).more (Nat.le_trans hB hz)
  · exact (hv.alloc hB o).more (Nat.le_trans hB hz)
def PutOk (N : Nat) (l : List UInt8) (w : World) (e : Ending) (w' : World) : Prop := ∃ A' c', e = .returned (.tuple #[.slice A' N c', .int .i64 0]) ∧ Own w' w.heap.size A' N c' l ∧ Below w.heap.size w w'
set_option maxRecDepth 100000 in
set_option maxHeartbeats 2000000 in
theorem put_O (mg op kl el ty st bl oq cas : Nat) (hf : HdF mg op kl el ty st bl oq cas) (X K V : Option Addr) (nx cx nk ck nv cv : Nat) (hn : nx + nk + nv ≤ 9223372036854775807) (h0 : mayB mg kl el bl = true) (h1 : nx = el) (h2 : nk = kl) (h3 : nx + nk + nv = bl) (h4 : ¬ 2048 < bl)
    (lx lk lv : List UInt8) (w : World) (rx : Rd w w.heap.size X nx cx lx) (rk : Rd w w.heap.size K nk ck lk) (rv : Rd w w.heap.size V nv cv lv) :
    Calls Try.prog 58 #[frV mg op kl el ty st bl oq cas (.slice X nx cx) (.slice K nk ck) (.slice V nv cv)] w (PutOk (24 + nx + nk + nv) (hdB mg op kl el ty st bl oq cas ++ lx ++ lk ++ lv) w) := by
  have HF := Lib.hid hf
  obtain ⟨f0, f1, f2, f3, f4, f5, f6, f7, f8⟩ := hf
  have k0 : Blk _ _ (frC mg op kl el ty st bl oq cas (.slice X nx cx) (.slice K nk ck) (.slice V nv cv)) _ := Blk.new w _ 61
  have k1 := Blk.new (w.alloc (.cells (frC mg op kl el ty st bl oq cas (.slice X nx cx) (.slice K nk ck) (.slice V nv cv)) 61)) #[.int .u8 mg, .int .u8 op, .int .u16 kl, .int .u8 el, .int .u8 ty, .int .u16 st, .int .u32 bl, .int .u32 oq, .int .u64 cas] 59
  have b : Below w.heap.size w ((w.alloc (.cells (frC mg op kl el ty st bl oq cas (.slice X nx cx) (.slice K nk ck) (.slice V nv cv)) 61)).alloc (.cells #[.int .u8 mg, .int .u8 op, .int .u16 kl, .int .u8 el, .int .u8 ty, .int .u16 st, .int .u32 bl, .int .u32 oq, .int .u64 cas] 59)) := below_a1' (below_a1' (Below.refl _ _) _) _
  unfold frV
  unfold frC at k0 k1 b ⊢
  simp only [World.size_alloc] at k1
  obtain ⟨q0, q1, q2, q3, q4, q5, q6, q7, q8, q9, q10, q11⟩ := box12 k0
  have HM := Lib.hid h0
  have tX := neIf (x := (nx : Int)) (y := (el : Int)) (by omega)
  have tK := neIf (x := (nk : Int)) (y := (kl : Int)) (by omega)
  have tS := neIf (x := (nx : Int) + nk + nv) (y := (bl : Int)) (by omega)
  have hsum : nx + nk + nv ≤ 2048 := by omega
  clear h0 h1 h2 h3
  go_enter Try.func58, Try.ntmps58
  go_wp2_with fail
  refine (may_any mg op kl el ty st bl oq cas HF.out _).mono ?_
  rintro e w1 ⟨rfl, b1⟩
  rw [HM.out]
  replace k0 := (k0.alloc _).step b1
  replace k1 := k1.step b1
  replace b := below_step b b1
  clear q0 q1 q2 q3 q4 q5 q6 q7 q8 q9 q10 q11 b1
  obtain ⟨q0, q1, q2, q3, q4, q5, q6, q7, q8, q9, q10, q11⟩ := box12 k0
  obtain ⟨p0, p1, p2, p3, p4, p5, p6, p7, p8⟩ := box9 k1
  go_wp2_with fail
  go_region_held3 (fun w' => w'.cell? ⟨w.heap.size, 9, none⟩ = some (.slice X nx cx) ∧ w'.cell? ⟨w.heap.size, 10, none⟩ = some (.slice K nk ck) ∧ w'.cell? ⟨w.heap.size, 11, none⟩ = some (.slice V nv cv) ∧
      w'.cell? ⟨w.heap.size + 1, 0, none⟩ = some (.int .u8 mg) ∧ w'.cell? ⟨w.heap.size + 1, 1, none⟩ = some (.int .u8 op) ∧ w'.cell? ⟨w.heap.size + 1, 2, none⟩ = some (.int .u16 kl) ∧ w'.cell? ⟨w.heap.size + 1, 3, none⟩ = some (.int .u8 el) ∧ w'.cell? ⟨w.heap.size + 1, 4, none⟩ = some (.int .u8 ty) ∧
      w'.cell? ⟨w.heap.size + 1, 5, none⟩ = some (.int .u16 st) ∧ w'.cell? ⟨w.heap.size + 1, 6, none⟩ = some (.int .u32 bl) ∧ w'.cell? ⟨w.heap.size + 1, 7, none⟩ = some (.int .u32 oq) ∧ w'.cell? ⟨w.heap.size + 1, 8, none⟩ = some (.int .u64 cas)) (first | (with_reducible exact ⟨q9, q10, q11, p0, p1, p2, p3, p4, p5, p6, p7, p8⟩) | go_keep)
    (first
      | (go_at_call 104
         refine (putHeader_any mg op kl el ty st bl oq cas HF.out _).mono ?_
         rintro e w2 ⟨A2, c2, rfl, o2, b2⟩
         replace k0 : Blk w2 w.heap.size _ _ := Blk.step (w := w1.drew) k0 b2
         replace k1 : Blk w2 (w.heap.size + 1) _ _ := Blk.step (w := w1.drew) k1 b2
         replace b := below_step (w1 := w1.drew) b.drew b2
         clear q0 q1 q2 q3 q4 q5 q6 q7 q8 q9 q10 q11 p0 p1 p2 p3 p4 p5 p6 p7 p8
         obtain ⟨q0, q1, q2, q3, q4, q5, q6, q7, q8, q9, q10, q11⟩ := box12 k0
         obtain ⟨p0, p1, p2, p3, p4, p5, p6, p7, p8⟩ := box9 k1)
      | (go_at_call 103
         refine (concat_any (some ⟨w2.heap.size, 0, none⟩) 4 4 [(A2, 24, c2, hdB mg op kl el ty st bl oq cas), (X, nx, cx, lx), (K, nk, ck, lk), (V, nv, cv, lv)] (24 + nx + nk + nv) _ (Ov.rv (Ov.lit w2 _ _ 0 4 _ (Nat.zero_le _) (by simp [maxLen]) rfl rfl)) (rd_four o2 (rx.below b) (rk.below b) (rv.below b) b.size _) (by simp [catB, hdB_length, rx.len, rk.len, rv.len]; omega) (by omega)).mono ?_
         rintro e w3 ⟨A3, c3, rfl, o3, b3⟩
         rw [show catB [(A2, 24, c2, hdB mg op kl el ty st bl oq cas), (X, nx, cx, lx), (K, nk, ck, lk), (V, nv, cv, lv)] = hdB mg op kl el ty st bl oq cas ++ lx ++ lk ++ lv from by simp [catB]] at o3
         have hz : w.heap.size ≤ (w2.alloc (.cells #[.slice A2 24 c2, .slice X nx cx, .slice K nk ck, .slice V nv cv] 23)).heap.size := by have := b.size; simp; omega
         replace k0 := (k0.alloc _).step b3
         replace k1 := (k1.alloc _).step b3
         replace b := below_step (below_a1 b (Nat.le_refl _) _) b3
         replace o3 := o3.more hz
         clear q0 q1 q2 q3 q4 q5 q6 q7 q8 q9 q10 q11 p0 p1 p2 p3 p4 p5 p6 p7 p8 hz
         obtain ⟨q0, q1, q2, q3, q4, q5, q6, q7, q8, q9, q10, q11⟩ := box12 k0
         obtain ⟨p0, p1, p2, p3, p4, p5, p6, p7, p8⟩ := box9 k1))
  go_wp2_with fail
  go_ret2
  exact ⟨A3, c3, rfl, o3, b⟩
end
section
open Go.RowKit
def zeroFr : Value := .agg #[.int .u8 0, .int .u8 0, .int .u16 0, .int .u8 0, .int .u8 0, .int .u16 0, .int .u32 0, .int .u32 0, .int .u64 0, .slice none 0 0, .slice none 0 0, .slice none 0 0]
def MakeE (err : Int) (w : World) (e : Ending) (w' : World) : Prop := e = .returned (.tuple #[zeroFr, .int .i64 err]) ∧ Below w.heap.size w w'
def tooLong (nx nk nv : Nat) : Prop := 255 < nx ∨ 65535 < nk ∨ 2048 < nv ∨ 2048 < nx + nk + nv
set_option maxRecDepth 100000 in
set_option maxHeartbeats 2000000 in
theorem make_L (mg op oq : Nat) (h1 : mg = 128 ∨ mg = 129) (X K V : Option Addr) (nx cx nk ck nv cv : Nat) (hn : nx + nk + nv ≤ 9223372036854775807) (hl : tooLong nx nk nv) (w : World) :
    Calls Try.prog 89 #[.int .u8 mg, .int .u8 op, .int .u32 oq, .slice X nx cx, .slice K nk ck, .slice V nv cv] w (MakeE 3 w) := by
  unfold tooLong at hl
  rcases h1 with rfl | rfl
  all_goals
    by_cases a1 : 255 < nx
    all_goals by_cases a2 : 65535 < nk
    all_goals by_cases a3 : 2048 < nv
    all_goals
      first
        | omega
        | (go_enter Try.func89, Try.ntmps89
           go_wp2_with fail
           refine bodyPost_ret (v := .tuple #[.agg #[.int .u8 0, .int .u8 0, .int .u16 0, .int .u8 0, .int .u8 0, .int .u16 0, .int .u32 0, .int .u32 0, .int .u64 0, .slice none 0 0, .slice none 0 0, .slice none 0 0], .int .i64 3]) (by simp [results, Try.results89, go_sem]) rfl ?_
           exact ⟨rfl, below_a1' (Below.refl _ _) _⟩)
end
end Go.Proofs.Ytnghmgbmflcngaa

/- ParseFeeds: which requests bytes tell, piece by piece. Conditions: none. -/
import Derived.Test.YtnghmgbmflcngaaFdm
import Derived.Test.YtnghmgbmflcngaaWk20
import Derived.Test.YtnghmgbmflcngaaClo
namespace Go.Proofs.Ytnghmgbmflcngaa
set_option linter.unusedVariables false
open Go.ChangeShapes Go.WideShapes Go.ChangeAt Go.RowKit

/-- What a feed makes of what is held. -/
def fdN (n m : Nat) (br : Bool) : Nat := if br = true then n else if 65536 < n + m then n else n + m
def fdU (n m : Nat) (u l : List UInt8) (br : Bool) : List UInt8 := if br = true then u else if 65536 < n + m then u else u ++ l
def fdE (n m : Nat) (br : Bool) : Int := if br = true then 300 else if 65536 < n + m then 3 else 0
def PfQ (g n : Nat) (A : Option Addr) (u : List UInt8) (br : Bool) (er : Int) (w : World) (e : Ending) (w' : World) : Prop := ∃ (A' : Option Addr) (c' : Nat), e = .returned (.int .i64 er) ∧ PrsA w' g A' n c' u br ∧ TwoK w w' g (obk A) ∧ (obk A' = obk A ∨ obk A' = some w.heap.size)
theorem pfeed_any (g n c : Nat) (A : Option Addr) (u : List UInt8) (br : Bool) (A2 : Option Addr) (m c2 : Nat) (l : List UInt8) (w : World) (h : PrsA w g A n c u br) (r : Rd w w.heap.size A2 m c2 l) (hn : n + m ≤ 9223372036854775807) :
    Calls Try.prog 36 #[.pointer (some ⟨g, 0, none⟩), .slice A2 m c2] w (PfQ g (fdN n m br) A (fdU n m u l br) br (fdE n m br) w) := by
  unfold fdN fdU fdE
  cases br with
  | true =>
    refine (feed_broken g n c A u A2 m c2 w h).mono ?_
    rintro e w' ⟨rfl, rfl⟩
    exact ⟨A, c, rfl, h, ⟨rfl, rfl, rfl, Nat.le_refl _, fun _ _ _ _ => rfl⟩, .inl rfl⟩
  | false =>
    by_cases hl : 65536 < n + m
    · simp only [if_neg (show ¬ (false = true) by decide), if_pos hl]
      refine (feed_long g n c A u A2 m c2 w h hl hn).mono ?_
      rintro e w' ⟨rfl, rfl⟩
      exact ⟨A, c, rfl, h, ⟨rfl, rfl, rfl, Nat.le_refl _, fun _ _ _ _ => rfl⟩, .inl rfl⟩
    · simp only [if_neg (show ¬ (false = true) by decide), if_neg hl]
      refine (feed_ok g n c A u A2 m c2 l w h r (by omega)).mono ?_
      rintro e w' ⟨A', c', rfl, hp, tk, hA⟩
      rw [obk_eq] at tk hA
      rw [obk_eq] at hA
      exact ⟨A', c', rfl, hp, tk, hA⟩
def RfQ (n : Nat) (YA : Option Addr) (u : List UInt8) (br : Bool) (er : Int) (w : World) (e : Ending) (w' : World) : Prop := ∃ (Y' : Option Addr) (c' : Nat), e = .returned (.tuple #[.agg #[.slice Y' n c', .bool br], .int .i64 er]) ∧ Rd w' w'.heap.size Y' n c' u ∧ (Y' = YA ∨ ∀ k, obk Y' = some k → w.heap.size ≤ k ∧ k < w'.heap.size) ∧ Below w.heap.size w w'
theorem rfeed_any (n c : Nat) (A : Option Addr) (u : List UInt8) (br : Bool) (A2 : Option Addr) (m c2 : Nat) (l : List UInt8) (w : World) (h : Rd w w.heap.size A n c u) (r : Rd w w.heap.size A2 m c2 l) (hn : n + m ≤ 9223372036854775807) :
    Calls Try.prog 37 #[.agg #[.slice A n c, .bool br], .slice A2 m c2] w (RfQ (fdN n m br) A (fdU n m u l br) br (fdE n m br) w) := by
  unfold fdN fdU fdE
  cases br with
  | true =>
    refine (rfeed_broken A n c A2 m c2 w).mono ?_
    rintro e w' ⟨rfl, b⟩
    exact ⟨A, c, rfl, h.step b, .inl rfl, b⟩
  | false =>
    by_cases hl : 65536 < n + m
    · simp only [if_neg (show ¬ (false = true) by decide), if_pos hl]
      refine (rfeed_long A n c A2 m c2 w hl hn).mono ?_
      rintro e w' ⟨rfl, b⟩
      exact ⟨A, c, rfl, h.step b, .inl rfl, b⟩
    · simp only [if_neg (show ¬ (false = true) by decide), if_neg hl]
      refine (rfeed_ok A n c u A2 m c2 l w h r (by omega)).mono ?_
      rintro e w' ⟨A', c', rfl, o, b⟩
      exact ⟨A', c', rfl, o.rd, .inr fun k hk => World.ownsRow.lt o k (by rw [obk_eq]; exact hk), b⟩
theorem fdN_le {n m : Nat} {br : Bool} (h : n ≤ 65536) : fdN n m br ≤ 65536 := by
  unfold fdN
  split
  · exact h
  · split <;> omega
theorem Kp.of_two' {w w' : World} {g : Nat} {A : Option Addr} (h : TwoK w w' g (obk A)) : Kp w w' (fun k => k = g ∨ obk A = some k) := ⟨h.os, h.tape, h.output, h.size, fun k hk hg => h.block k hk (fun e => hg (.inl e)) (fun e => hg (.inr e.symm))⟩
/-- The state of the law between two pieces. -/
def FdR (g gy B3 : Nat) (w3 : World) (wr : World) : Prop := ∃ (A YA : Option Addr) (n c yc : Nat) (u : List UInt8) (br : Bool), DrS g gy A YA n c yc u br wr ∧ n ≤ 65536 ∧ Kp w3 wr (FG g gy) ∧ ∀ k, obk A = some k → B3 ≤ k
theorem Own.kpO {w w' : World} {B n c : Nat} {A : Option Addr} {l : List UInt8} (h : Own w B A n c l) {G : Nat → Prop} (hk : Kp w w' G) (hG : ∀ k, obk A = some k → ¬ G k) : Own w' B A n c l := Oz.kp (z := 1) h hk hG
theorem Own.obk {w : World} {B n c : Nat} {A : Option Addr} {l : List UInt8} (h : Own w B A n c l) : ∀ k, obk A = some k → B ≤ k ∧ k < w.heap.size := fun k hk => World.ownsRow.lt h k (by rw [obk_eq]; exact hk)
set_option maxRecDepth 100000 in
set_option maxHeartbeats 16000000 in
theorem walk_parseFeeds (A0 : Option Addr) (n0 c0 : Nat) (L : List Pc) (w : World) (r0 : Rz w w.heap.size 1 A0 n0 c0 (L.map pcV) ∧ ∀ p ∈ L, Rd w w.heap.size p.1 p.2.1 p.2.2.1 p.2.2.2) (s0 : ∀ p ∈ L, p.2.2.1 ≤ 140737488351232) :
    Calls Try.prog 5 #[.slice A0 n0 c0] w fun e w' => e = .returned (.bool true) ∧ Below w.heap.size w w' := by
  have hP : Pcs w w.heap.size A0 n0 c0 L := ⟨r0.1, fun p hp => ⟨r0.2 p hp, s0 p hp⟩⟩
  have HP := Lib.hid hP
  clear r0 s0 hP
  go_enter Try.func5, Try.ntmps5
  go_wp2_with fail
  refine (wakes20 w).mono ?_
  rintro e w1 ⟨rfl, b⟩
  go_wp2_with fail
  refine (new_any w1).mono ?_
  rintro e w2 ⟨rfl, hp, b1⟩
  have hge := b.size
  replace b := below_step b b1
  clear b1
  generalize hgg : w1.heap.size = g at hp hge ⊢
  clear hgg
  go_upto_region 5 with fail
  have ky := Blk.new w2 #[.slice none 0 0, .bool false] 47
  have ba := below_a1' (Below.refl w2.heap.size w2) (.cells #[.slice none 0 0, .bool false] 47)
  have hgy := hp.lt
  replace hp := hp.step ba
  replace b := below_step b ba
  clear ba
  generalize w2.alloc (.cells #[.slice none 0 0, .bool false] 47) = W2 at hp ky b ⊢
  generalize w2.heap.size = gy at ky hgy ⊢
  go_wp2_with fail
  refine (cut_any A0 n0 c0 L W2 (HP.out.step b)).mono ?_
  rintro e w3 ⟨k, OA, oc, hk, rfl, oz, b1⟩
  have hsz1 := b1.size
  replace hp := hp.step b1
  have hoB : gy < W2.heap.size := ky.lt
  replace ky := ky.step b1
  replace b := below_step b b1
  have hszz := hsz1
  clear b1
  have hD : FdR g gy w3.heap.size w3 w3 := ⟨none, none, 0, 0, 0, [], false, ⟨hp, ky, DrS.nofd, by simp [obk]⟩, Nat.zero_le _, Kp.refl _ _, fun k h => by cases h⟩
  have HB := Lib.hid b
  have HOZ := Lib.hid oz
  have HG : Hid (w.heap.size ≤ g ∧ g < gy ∧ gy < W2.heap.size ∧ W2.heap.size ≤ w3.heap.size) := Lib.hid ⟨hge, hgy, hoB, hszz⟩
  clear b oz hp ky hge hgy hoB
  go_wp2_with fail
  go_loopw [5, 6, 7, 8, 9, 10, 11, 19] (fun s5 s6 s7 s8 s9 s10 s11 s19 wr => ∃ j : Nat, j ≤ k ∧ s19 = .int .i64 (j : Nat) ∧ FdR g gy w3.heap.size w3 wr) (fun _ _ _ _ _ _ _ s19 _ => k - (intOf s19).toNat)
  case atStart => exact ⟨0, Nat.zero_le _, rfl, hD⟩
  case round =>
    clear hD
    obtain ⟨j, hj, rfl, A, YA, n, c, yc, u, br, ⟨hp, ky, rY, hA⟩, hn, hK, hQ⟩ := hrel
    have bw : Below w.heap.size w wr := HB.out.trans (hK.below (fun k h => by have := HG.out; unfold FG at h; omega) HB.out.size)
    by_cases hlt : j < k
    · have rOZ := HOZ.out.kp hK (fun b hb h => by have := (HOZ.out.at' b (by rw [obk_eq]; exact hb)).1; have := HG.out; unfold FG at h; omega)
      obtain ⟨ad, p, hAD, hpj, hcell⟩ := pc_at (L := L.take k) rOZ.rz hlt
      subst hAD
      have hpL : p ∈ L := List.mem_of_mem_take (List.mem_of_getElem? hpj)
      obtain ⟨PA, pn, pk, l⟩ := p
      have HRP : Hid (∀ W, Below w.heap.size w W → Rd W W.heap.size PA pn pk l) := Lib.hid (fun W b => ((HP.out.2 _ hpL).1.below b).more b.size)
      have rp := HRP.out wr bw
      have hpk := (HP.out.2 _ hpL).2
      simp only at hcell rp hpk
      have hpc := rp.cap
      have hll := rp.len
      have hlt' : ((j : Int) < (k : Int)) = True := eq_true (by omega)
      have W1 : IntKind.i64.wrap ((pn : Int) + 2) = (pn : Int) + 2 := IntWalk.i64_in _ (by omega)
      have HLT : Hid (j + 1 ≤ k) := Lib.hid (by omega)
      have HJP : Hid (IntKind.i64.wrap ((j : Int) + 1) = (j : Int) + 1) := Lib.hid (IntWalk.i64_in _ (by have := HOZ.out.rz.cap; have := HOZ.out.rz.max; unfold maxLen at this; omega))
      have HL := Lib.hid hll
      have HPN : Hid (pn ≤ 140737488351232) := Lib.hid (by omega)
      clear hlt hpj hpL rOZ hpc hll hj
      obtain ⟨BI, hBI⟩ : ∃ BI, BI = wr.heap.size := ⟨_, rfl⟩
      have hlp : g < BI ∧ gy < BI ∧ ∀ b, obk A = some b → b < BI := by rw [hBI]; exact ⟨hp.lt, ky.lt, fun b hb => (hp.2.owner b (by rw [obk_eq]; exact hb)).2⟩
      have HBI := Lib.hid hBI
      have HLP := Lib.hid hlp
      have HQH := Lib.hid hQ
      have HKS := Lib.hid hK.size
      have rY2 : RdF wr (fun b => FD g gy A b ∨ BI ≤ b) YA n yc u := rY.weak (fun b hb h => h.elim id (fun h => by omega))
      clear rY hlp hBI
      go_wp2_with (refine wpList_mkc8 _ rfl _ _ rfl BI (pn + 2) ((pn : Int) + 2) rfl rfl (by push_cast; rfl) (by have := HPN.out; omega) (by rw [HBI.out]; exact Nat.le_refl _) ?_)
      intro w4 o4 b4
      have hb4 : BI ≤ w4.heap.size := by rw [HBI.out]; exact b4.size
      have rp4 : Rd w4 w4.heap.size PA pn pk l := (rp.below (by rw [HBI.out] at b4; exact b4)).more (by rw [HBI.out] at b4; exact b4.size)
      go_wp2_with (at_builtin; refine wpList_app8 _ rfl _ _ rfl BI _ 0 (pn + 2) [] rfl o4 _ PA pn pk l rfl rp4 (by have := HPN.out; omega) hb4 ?_)
      intro A5 c5 w5 o5 b5
      have b15 : Below BI wr w5 := b4.trans b5
      have hb5 : BI ≤ w5.heap.size := Nat.le_trans hb4 b5.size
      clear b4 b5 o4 rp4 hb4
      have o5a := Own.alloc o5 (.cells #[.int .u8 7] 5)
      have r7 := Rd.one w5 (.int .u8 7) 7 rfl
      have b15a := below_a1 b15 (by rw [HBI.out]; exact Nat.le_refl _) (.cells #[.int .u8 7] 5)
      go_wp2_with (at_builtin; refine wpList_app8 _ rfl _ _ rfl BI A5 pn c5 l rfl (by simpa using o5a) _ _ 1 1 [7] rfl r7 (by have := HPN.out; omega) (by rw [World.size_alloc]; omega) ?_)
      intro A6 c6 w6 o6 b6
      have bw6 : Below BI wr w6 := b15a.trans b6
      clear b15 b15a b6 o5 o5a r7 hb5
      obtain ⟨go, rfl, hgo1, hgo2⟩ := own_row o6
      obtain ⟨U, hU⟩ : ∃ U, U = w6.heap.size := ⟨_, rfl⟩
      have HU := Lib.hid hU
      clear hU
      have bw6' : Below wr.heap.size wr w6 := by rw [← HBI.out]; exact bw6
      replace hp := hp.step bw6'
      replace ky := ky.step bw6'
      replace rY2 := rY2.kp (Kp.of_below bw6' (fun _ => False)) (fun _ _ h => h.elim) (fun _ _ h => h)
      replace hK := hK.trans (Kp.of_below bw6' (FG g gy))
      replace bw := below_step bw bw6'
      have HGO : Hid (BI ≤ go ∧ go < U) := Lib.hid ⟨hgo1, by rw [HU.out]; exact hgo2⟩
      have HUB : Hid (BI ≤ U ∧ w3.heap.size ≤ BI) := Lib.hid ⟨by rw [HU.out, HBI.out]; exact bw6'.size, by rw [HBI.out]; exact HKS.out⟩
      clear bw6 bw6' rp hgo1 hgo2
      obtain ⟨X, cx, HX, hX⟩ := slc_h o6.rd pn (pn : Int) rfl (by omega)
      have rX := hX _ _ o6.rd
      have e7 : (l ++ [7]).take pn = l := (by rw [← HL.out]; exact List.take_left)
      rw [e7] at rX
      clear hX e7
      have HPF : Hid (Calls Try.prog 36 #[.pointer (some ⟨g, 0, none⟩), .slice X pn cx] w6 (PfQ g (fdN n pn br) A (fdU n pn u l br) br (fdE n pn br) w6)) := Lib.hid (pfeed_any g n c A u br X pn cx l w6 hp rX (by have := HPN.out; omega))
      have HRF : Hid (∀ W, Rd W W.heap.size YA n yc u → Rd W W.heap.size PA pn pk l → Calls Try.prog 37 #[.agg #[.slice YA n yc, .bool br], .slice PA pn pk] W (RfQ (fdN n pn br) YA (fdU n pn u l br) br (fdE n pn br) W)) := Lib.hid (fun W h r => rfeed_any n yc YA u br PA pn pk l W h r (by have := HPN.out; omega))
      have HN' : Hid (fdN n pn br ≤ 65536) := Lib.hid (fdN_le hn)
      generalize fdN n pn br = N' at HPF HRF HN'
      generalize fdU n pn u l br = u' at HPF HRF
      generalize fdE n pn br = er at HPF HRF
      go_wp2_with fail
      refine HPF.out.mono ?_
      rintro e w7 ⟨A', c', rfl, hp', tk, hA'⟩
      clear hp HX rX HPF
      have hk7 := Kp.of_two' tk
      have hky7 : ¬ (gy = g ∨ obk A = some gy) := fun h => h.elim (fun h => by have := HG.out; omega) hA
      replace ky := hk7.blk ky hky7
      replace o6 := o6.kpO hk7 (fun b hb h => by have hb : go = b := Option.some.inj hb; have h1 := HGO.out; have h2 := HLP.out; rcases h with h | h; omega; have := h2.2.2 b h; omega)
      replace rY2 := rY2.kp hk7 (fun b _ h => .inl (h.elim .inl (fun h => .inr (.inr h)))) (fun _ _ h => h)
      replace bw := bw.trans (hk7.below (fun k h => h.elim (fun h => by have := HG.out; omega) (fun h => by have := HQH.out k h; have := HG.out; omega)) bw.size)
      replace hK : Kp w3 w7 (FG g gy) := hK.after hk7 (fun k hk h => h.elim .inl (fun h => by have := HQH.out k h; omega))
      have hUs : U ≤ w7.heap.size := by rw [HU.out]; exact tk.size
      have hA2 : ∀ b, obk A' = some b → obk A = some b ∨ b = U := fun b hb => by rw [HU.out]; rcases hA' with h | h; exact .inl (by rw [← h]; exact hb); exact .inr (by rw [h] at hb; injection hb with hb; exact hb.symm)
      have hAy : obk A' ≠ some gy := fun h => (hA2 gy h).elim hA (fun h => by have := HLP.out; have := HUB.out; omega)
      have HA2 := Lib.hid hA2
      have HAL : Hid (∀ b, obk A' = some b → b < w7.heap.size) := Lib.hid (fun b hb => (hp'.2.owner b (by rw [obk_eq]; exact hb)).2)
      clear tk hA' hk7 hky7 hA2 hA
      have hp := hp'
      clear hp'
      obtain ⟨z0, z1⟩ := box2 ky
      go_wp2_with fail
      refine (HRF.out w7 rY2.1 (HRP.out w7 bw)).mono ?_
      rintro e w8 ⟨Y', y', rfl, rdY, hY, b8⟩
      have rF : RdF w8 (fun b => FD g gy A' b ∨ (BI ≤ b ∧ b < U)) Y' N' y' u' := by
        refine ⟨rdY, fun b hb => ?_⟩
        rcases hY with e | e
        · subst e
          have h1 := rY2.2 b hb
          refine ⟨Nat.lt_of_lt_of_le h1.1 b8.size, fun h => h1.2 ?_⟩
          rcases h with h | h
          · rcases h with h | h | h
            · exact .inl (.inl h)
            · exact .inl (.inr (.inl h))
            · rcases HA2.out b h with h | h
              · exact .inl (.inr (.inr h))
              · exact .inr (by have := HUB.out; omega)
          · exact .inr h.1
        · have h1 := e b hb
          refine ⟨h1.2, fun h => ?_⟩
          rcases h with h | h
          · rcases h with h | h | h
            · have := HLP.out; have := HUB.out; omega
            · have := HLP.out; have := HUB.out; omega
            · have := HAL.out b h; omega
          · omega
      clear rdY hY rY2 HRF HAL z0 z1
      replace hp := hp.step b8
      replace ky := ky.step b8
      replace o6 := Own.step o6 b8
      replace bw := below_step bw b8
      replace hK := hK.trans (Kp.of_below b8 (FG g gy))
      have hU8 : U ≤ w8.heap.size := Nat.le_trans hUs b8.size
      clear b8 hUs
      go_upto_region 11 with fail
      have k9 := Blk.new w8 #[.slice Y' N' y', .bool br] 47
      have ba := below_a1' (Below.refl w8.heap.size w8) (.cells #[.slice Y' N' y', .bool br] 47)
      replace hp := hp.step ba
      replace ky := ky.step ba
      replace o6 := Own.step o6 ba
      replace bw := below_step bw ba
      replace hK := hK.trans (Kp.of_below ba (FG g gy))
      replace rF := rF.kp (Kp.of_below ba (fun _ => False)) (fun _ _ h => h.elim) (fun _ _ h => h)
      clear ba
      have hg9 : gy < w8.heap.size := by have := HLP.out; have := HUB.out; omega
      generalize w8.alloc (.cells #[.slice Y' N' y', .bool br] 47) = W9 at hp ky o6 bw hK rF k9 ⊢
      generalize w8.heap.size = g9 at k9 hU8 hg9 ⊢
      obtain ⟨z0, z1⟩ := box2 ky
      obtain ⟨v0, v1⟩ := box2 k9
      have y0 := ky.frozen 0
      have y1 := ky.frozen 1
      go_upto_region 12 with fail
      have gs := grown_set2 W9 gy (.slice Y' N' y') (.bool br)
      replace hp := hp.offy gs (by have := HG.out; omega) hAy
      replace o6 := o6.kept gs HLP.out.2.1
      replace rF := rF.kp (Kp.of_grown gs) (fun _ _ h => .inl (.inr (.inl h))) (fun _ _ h => h)
      replace bw := bw.trans (below_grown gs (by have := HG.out; omega) ky.lt)
      replace hK := hK.after (Kp.of_grown gs) (fun _ _ h => .inr h)
      have kyN := blk_set2 ky (.slice Y' N' y') (.bool br)
      clear gs ky k9 z0 z1 v0 v1 y0 y1 hg9 hU8
      generalize (W9.setCell ⟨gy, 0, none⟩ (.slice Y' N' y')).setCell ⟨gy, 1, none⟩ (.bool br) = W10 at hp kyN o6 bw hK rF ⊢
      go_wp2_with fail
      go_loopw [11, 47] (fun s11 s47 wr => ∃ (i : Nat) (lo : List UInt8), i ≤ pn ∧ s47 = .int .i64 (i : Nat) ∧ Own wr BI (some ⟨go, 0, none⟩) (pn + 1) c6 lo ∧ (∀ t, i ≤ t → lo[t]? = (l ++ [7])[t]?) ∧ Kp W10 wr (fun b => BI ≤ b ∧ b < U)) (fun _ s47 _ => pn - (intOf s47).toNat)
      case atStart => exact ⟨0, l ++ [7], Nat.zero_le _, rfl, o6, fun _ _ => rfl, Kp.refl _ _⟩
      case round =>
        clear o6
        obtain ⟨i, lo, hi, rfl, o6, hlo, hKy⟩ := hrel
        have HLO := Lib.hid hlo
        clear hlo
        by_cases hlt : i < pn
        · have o6 : Own wr.drew BI (some ⟨go, 0, none⟩) (pn + 1) c6 lo := o6
          have hKy : Kp W10 wr.drew (fun b => BI ≤ b ∧ b < U) := hKy.trans (Kp.of_below (Below.refl _ _).drew _)
          have bwy := bw.trans (hKy.below (fun k h => by have := HUB.out; have := HG.out; omega) bw.size)
          obtain ⟨x, hx, hc1⟩ := Own.cellAt o6 (j := i) (by omega)
          obtain ⟨ad2, x2, hPA, -, hx2, hc2⟩ := (HRP.out wr.drew bwy).at_ hlt
          subst hPA
          have hxx : x = x2 := by have h := HLO.out i (Nat.le_refl _); rw [hx, List.getElem?_append_left (by rw [HL.out]; exact hlt), hx2] at h; injection h
          subst hxx
          have hfz := Own.frozenAt o6 i
          have hst := o6.stored i 238
          rw [show cb 238 = Value.int .u8 238 from rfl] at hst
          have HR : Hid (∃ (i' : Nat) (lo' : List UInt8), i' ≤ pn ∧ Value.int .i64 ((i : Int) + 1) = .int .i64 (i' : Nat) ∧ Own (wr.drew.setCell ⟨go, i, none⟩ (.int .u8 238)) BI (some ⟨go, 0, none⟩) (pn + 1) c6 lo' ∧ (∀ t, i' ≤ t → lo'[t]? = (l ++ [7])[t]?) ∧ Kp W10 (wr.drew.setCell ⟨go, i, none⟩ (.int .u8 238)) (fun b => BI ≤ b ∧ b < U)) := Lib.hid ⟨i + 1, lo.set i 238, hlt, rfl, hst, fun t ht => by rw [List.getElem?_set_ne (by omega)]; exact HLO.out t (by omega), kp_set hKy HGO.out o6.base.2 i _⟩
          have HIL : Hid (i < pn) := Lib.hid hlt
          have hlt' : ((i : Int) < (pn : Int)) = True := eq_true (by omega)
          have hip : ((i : Int) < (pn : Int) + 1) = True := eq_true (by omega)
          have W2 : IntKind.i64.wrap ((i : Int) + 1) = (i : Int) + 1 := IntWalk.i64_in _ (by have := HPN.out; omega)
          have hpn1 : (i : Int) < ((pn + 1 : Nat) : Int) := by push_cast; omega
          clear hx hx2 hst hlt hi bwy
          go_upto_region 15 with fail
          refine wp_region_noPanic ?_
          refine region_T (fun wx => wx.cell? ⟨go, i, none⟩ = some (.int .u8 (x.toNat : Int)) ∧ wx.cell? (ad2.add i) = some (.int .u8 (x.toNat : Int))) 9 (by kernel_rfl) ?_
          have hHeld := (show wr.drew.cell? ⟨go, i, none⟩ = some (.int .u8 (x.toNat : Int)) ∧ wr.drew.cell? (ad2.add i) = some (.int .u8 (x.toNat : Int)) from ⟨hc1, hc2⟩)
          refine takeT (i := 0) (v := ?_) rfl (by kernel_rfl) (by kernel_rfl) (by decide) (by kernel_rfl) (by kernel_rfl) (fun _ _ _ h => h) (Or.inl ⟨by rfl, ?_⟩) hHeld ?_
          rotate_left
          · (intro wx hSw; obtain ⟨q1, q2⟩ := hSw; go_simp; try (with_reducible rfl))
          try simp only [Act.put, List.setIfInBounds_toArray, List.set_cons_zero, List.set_cons_succ]
          refine takeT (i := 1) (v := ?_) rfl (by kernel_rfl) (by kernel_rfl) (by decide) (by kernel_rfl) (by kernel_rfl) (fun _ _ _ h => h) (Or.inl ⟨by rfl, ?_⟩) hHeld ?_
          rotate_left
          · (intro wx hSw; obtain ⟨q1, q2⟩ := hSw; go_simp; try (with_reducible rfl))
          try simp only [Act.put, List.setIfInBounds_toArray, List.set_cons_zero, List.set_cons_succ]
          refine takeT (i := 2) (v := ?_) rfl (by kernel_rfl) (by kernel_rfl) (by decide) (by kernel_rfl) (by kernel_rfl) (fun _ _ _ h => h) (Or.inl ⟨by rfl, ?_⟩) hHeld ?_
          rotate_left
          · (intro wx hSw; obtain ⟨q1, q2⟩ := hSw; go_simp; try (with_reducible rfl))
          try simp only [Act.put, List.setIfInBounds_toArray, List.set_cons_zero, List.set_cons_succ]
          refine takeT (i := 3) (v := ?_) rfl (by kernel_rfl) (by kernel_rfl) (by decide) (by kernel_rfl) (by kernel_rfl) (fun _ _ _ h => h) (Or.inl ⟨by rfl, ?_⟩) hHeld ?_
          rotate_left
          · (intro wx hSw; obtain ⟨q1, q2⟩ := hSw; go_simp; try (with_reducible rfl))
          try simp only [Act.put, List.setIfInBounds_toArray, List.set_cons_zero, List.set_cons_succ]
          refine takeT (i := 4) (v := ?_) rfl (by kernel_rfl) (by kernel_rfl) (by decide) (by kernel_rfl) (by kernel_rfl) (fun _ _ _ h => h) (Or.inl ⟨by rfl, ?_⟩) hHeld ?_
          rotate_left
          · (intro wx hSw; obtain ⟨q1, q2⟩ := hSw; go_simp; try (with_reducible rfl))
          try simp only [Act.put, List.setIfInBounds_toArray, List.set_cons_zero, List.set_cons_succ]
          refine takeT (i := 5) (v := ?_) rfl (by kernel_rfl) (by kernel_rfl) (by decide) (by kernel_rfl) (by kernel_rfl) (fun _ _ _ h => h) (Or.inl ⟨by rfl, ?_⟩) hHeld ?_
          rotate_left
          · (intro wx hSw; obtain ⟨q1, q2⟩ := hSw; go_simp; try (with_reducible rfl))
          try simp only [Act.put, List.setIfInBounds_toArray, List.set_cons_zero, List.set_cons_succ]
          refine takeT (i := 6) (v := ?_) rfl (by kernel_rfl) (by kernel_rfl) (by decide) (by kernel_rfl) (by kernel_rfl) (fun _ _ _ h => h) (Or.inl ⟨by rfl, ?_⟩) hHeld ?_
          rotate_left
          · (intro wx hSw; obtain ⟨q1, q2⟩ := hSw; go_simp; try (with_reducible rfl))
          try simp only [Act.put, List.setIfInBounds_toArray, List.set_cons_zero, List.set_cons_succ]
          refine takeT (i := 7) (v := ?_) rfl (by kernel_rfl) (by kernel_rfl) (by decide) (by kernel_rfl) (by kernel_rfl) (fun _ _ _ h => h) (Or.inl ⟨by rfl, ?_⟩) hHeld ?_
          rotate_left
          · (intro wx hSw; obtain ⟨q1, q2⟩ := hSw; go_simp; try (with_reducible rfl))
          try simp only [Act.put, List.setIfInBounds_toArray, List.set_cons_zero, List.set_cons_succ]
          refine takeT (i := 8) (v := ?_) rfl (by kernel_rfl) (by kernel_rfl) (by decide) (by kernel_rfl) (by kernel_rfl) (fun _ _ _ h => h) (Or.inl ⟨by rfl, ?_⟩) hHeld ?_
          rotate_left
          · (intro wx hSw; obtain ⟨q1, q2⟩ := hSw; go_simp; try (with_reducible rfl))
          try simp only [Act.put, List.setIfInBounds_toArray, List.set_cons_zero, List.set_cons_succ]
          refine doneT (by kernel_rfl) ?_ _
          refine NoPanic.normal ?_
          clear hHeld
          go_wp2_with fail
          go_roundw
          case rel => exact HR.out
          case measure => have := HIL.out; simp [intOf]; omega
        · obtain rfl : i = pn := by omega
          have hlt' : ((i : Int) < (i : Int)) = False := eq_false (by omega)
          obtain ⟨x, hx, hc7⟩ := Own.cellAt o6 (j := i) (by omega)
          have h7 := HLO.out i (Nat.le_refl _)
          rw [hx, List.getElem?_append_right (by rw [HL.out]; exact Nat.le_refl _), HL.out, Nat.sub_self] at h7
          have h7 : x = 7 := Option.some.inj h7
          subst h7
          have bw2 := bw.trans (hKy.below (fun k h => by have := HUB.out; have := HG.out; omega) bw.size)
          have hp2 := hp.kp hKy (fun h => by have := HLP.out; omega) (fun k hk h => by have h1 := HA2.out k hk; have h2 := HLP.out; rcases h1 with h1 | h1; have := h2.2.2 k h1; omega; omega)
          have ky2 := hKy.blk kyN (fun h => by have := HLP.out; omega)
          have rF2 : RdF wr (FD g gy A') Y' N' y' u' := (rF.kp hKy (fun b _ h => .inr h) (fun _ _ h => h)).weak (fun b _ h => .inl h)
          have hK2 : Kp w3 wr (FG g gy) := hK.after hKy (fun k hk h => by have := HUB.out; omega)
          have HS : Hid (DrS g gy A' Y' N' c' y' u' br wr.drew ∧ Below w.heap.size w wr.drew ∧ Kp w3 wr.drew (FG g gy)) := Lib.hid ⟨⟨hp2.step (Below.refl _ _).drew, ky2.step (Below.refl _ _).drew, rF2.kp (Kp.of_below (Below.refl _ _).drew (fun _ => False)) (fun _ _ h => h.elim) (fun _ _ h => h), hAy⟩, bw2.drew, hK2.trans (Kp.of_below (Below.refl _ _).drew _)⟩
          have hip : ((i : Int) < (i : Int) + 1) = True := eq_true (by omega)
          clear hp kyN rF bw hK hKy o6 hx hlt hi bw2 rF2 hK2
          go_upto_region 19 with fail
          refine wp_region_noPanic ?_
          refine region_T (fun wx => PrsA wx g A' N' c' u' br ∧ Blk wx gy #[.slice Y' N' y', .bool br] 47 ∧ wx.cell? ⟨go, i, none⟩ = some (.int .u8 7)) 19 (by kernel_rfl) ?_
          have hHeld := (show PrsA wr.drew g A' N' c' u' br ∧ Blk wr.drew gy #[.slice Y' N' y', .bool br] 47 ∧ wr.drew.cell? ⟨go, i, none⟩ = some (.int .u8 7) from ⟨HS.out.1.1, HS.out.1.2.1, hc7⟩)
          clear hp2 ky2 hc7
          generalize wr.drew = Y0 at hHeld HS ⊢
          refine takeT (i := 0) (v := ?_) rfl (by kernel_rfl) (by kernel_rfl) (by decide) (by kernel_rfl) (by kernel_rfl) (fun _ _ _ h => h) (Or.inl ⟨by rfl, ?_⟩) hHeld ?_
          rotate_left
          · (intro wx hSw; obtain ⟨sa, sb, q2⟩ := hSw; obtain ⟨q0, q1⟩ := box2 sb; go_simp; try (with_reducible rfl))
          try simp only [Act.put, List.setIfInBounds_toArray, List.set_cons_zero, List.set_cons_succ]
          refine takeT (i := 1) (v := ?_) rfl (by kernel_rfl) (by kernel_rfl) (by decide) (by kernel_rfl) (by kernel_rfl) (fun _ _ _ h => h) (Or.inl ⟨by rfl, ?_⟩) hHeld ?_
          rotate_left
          · (intro wx hSw; obtain ⟨sa, sb, q2⟩ := hSw; obtain ⟨q0, q1⟩ := box2 sb; go_simp; try (with_reducible rfl))
          try simp only [Act.put, List.setIfInBounds_toArray, List.set_cons_zero, List.set_cons_succ]
          refine takeT (i := 2) (v := ?_) rfl (by kernel_rfl) (by kernel_rfl) (by decide) (by kernel_rfl) (by kernel_rfl) (fun _ _ _ h => h) (Or.inl ⟨by rfl, ?_⟩) hHeld ?_
          rotate_left
          · (intro wx hSw; obtain ⟨sa, sb, q2⟩ := hSw; obtain ⟨q0, q1⟩ := box2 sb; go_simp; try (with_reducible rfl))
          try simp only [Act.put, List.setIfInBounds_toArray, List.set_cons_zero, List.set_cons_succ]
          refine takeT (i := 3) (v := ?_) rfl (by kernel_rfl) (by kernel_rfl) (by decide) (by kernel_rfl) (by kernel_rfl) (fun _ _ _ h => h) (Or.inl ⟨by rfl, ?_⟩) hHeld ?_
          rotate_left
          · (intro wx hSw; obtain ⟨sa, sb, q2⟩ := hSw; obtain ⟨q0, q1⟩ := box2 sb; go_simp; try (with_reducible rfl))
          try simp only [Act.put, List.setIfInBounds_toArray, List.set_cons_zero, List.set_cons_succ]
          refine takeT (i := 4) (v := ?_) rfl (by kernel_rfl) (by kernel_rfl) (by decide) (by kernel_rfl) (by kernel_rfl) (fun _ _ _ h => h) (Or.inl ⟨by rfl, ?_⟩) hHeld ?_
          rotate_left
          · (intro wx hSw; obtain ⟨sa, sb, q2⟩ := hSw; obtain ⟨q0, q1⟩ := box2 sb; go_simp; try (with_reducible rfl))
          try simp only [Act.put, List.setIfInBounds_toArray, List.set_cons_zero, List.set_cons_succ]
          refine takeT (i := 5) (v := ?_) rfl (by kernel_rfl) (by kernel_rfl) (by decide) (by kernel_rfl) (by kernel_rfl) (fun _ _ _ h => h) (Or.inl ⟨by rfl, ?_⟩) hHeld ?_
          rotate_left
          · (intro wx hSw; obtain ⟨sa, sb, q2⟩ := hSw; obtain ⟨q0, q1⟩ := box2 sb; go_simp; try (with_reducible rfl))
          try simp only [Act.put, List.setIfInBounds_toArray, List.set_cons_zero, List.set_cons_succ]
          refine takeT (i := 6) (v := ?_) rfl (by kernel_rfl) (by kernel_rfl) (by decide) (by kernel_rfl) (by kernel_rfl) (fun _ _ _ h => h) (Or.inl ⟨by rfl, ?_⟩) hHeld ?_
          rotate_left
          · (intro wx hSw; obtain ⟨sa, sb, q2⟩ := hSw; obtain ⟨q0, q1⟩ := box2 sb; go_simp; try (with_reducible rfl))
          try simp only [Act.put, List.setIfInBounds_toArray, List.set_cons_zero, List.set_cons_succ]
          refine takeT (i := 7) (v := ?_) rfl (by kernel_rfl) (by kernel_rfl) (by decide) (by kernel_rfl) (by kernel_rfl) (fun _ _ _ h => h) (Or.inl ⟨by rfl, ?_⟩) hHeld ?_
          rotate_left
          · (intro wx hSw; obtain ⟨sa, sb, q2⟩ := hSw; obtain ⟨q0, q1⟩ := box2 sb; go_simp; try (with_reducible rfl))
          try simp only [Act.put, List.setIfInBounds_toArray, List.set_cons_zero, List.set_cons_succ]
          refine takeT (i := 8) (v := ?_) rfl (by kernel_rfl) (by kernel_rfl) (by decide) (by kernel_rfl) (by kernel_rfl) (fun _ _ _ h => h) (Or.inl ⟨by rfl, ?_⟩) hHeld ?_
          rotate_left
          · (intro wx hSw; obtain ⟨sa, sb, q2⟩ := hSw; obtain ⟨q0, q1⟩ := box2 sb; go_simp; try (with_reducible rfl))
          try simp only [Act.put, List.setIfInBounds_toArray, List.set_cons_zero, List.set_cons_succ]
          refine takeT (i := 9) (v := ?_) rfl (by kernel_rfl) (by kernel_rfl) (by decide) (by kernel_rfl) (by kernel_rfl) (fun _ _ _ h => h) (Or.inl ⟨by rfl, ?_⟩) hHeld ?_
          rotate_left
          · (intro wx hSw; obtain ⟨sa, sb, q2⟩ := hSw; obtain ⟨q0, q1⟩ := box2 sb; go_simp; try (with_reducible rfl))
          try simp only [Act.put, List.setIfInBounds_toArray, List.set_cons_zero, List.set_cons_succ]
          refine takeT (i := 10) (v := ?_) rfl (by kernel_rfl) (by kernel_rfl) (by decide) (by kernel_rfl) (by kernel_rfl) (fun _ _ _ h => h) (Or.inl ⟨by rfl, ?_⟩) hHeld ?_
          rotate_left
          · (intro wx hSw; obtain ⟨sa, sb, q2⟩ := hSw; obtain ⟨q0, q1⟩ := box2 sb; go_simp; try (with_reducible rfl))
          try simp only [Act.put, List.setIfInBounds_toArray, List.set_cons_zero, List.set_cons_succ]
          refine takeT (i := 11) (v := ?_) rfl (by kernel_rfl) (by kernel_rfl) (by decide) (by kernel_rfl) (by kernel_rfl) (fun _ _ _ h => h) (Or.inl ⟨by rfl, ?_⟩) hHeld ?_
          rotate_left
          · (intro wx hSw; obtain ⟨sa, sb, q2⟩ := hSw; obtain ⟨q0, q1⟩ := box2 sb; go_simp; try (with_reducible rfl))
          try simp only [Act.put, List.setIfInBounds_toArray, List.set_cons_zero, List.set_cons_succ]
          refine takeT (i := 12) (v := ?_) rfl (by kernel_rfl) (by kernel_rfl) (by decide) (by kernel_rfl) (by kernel_rfl) (fun _ _ _ h => h) (Or.inl ⟨by rfl, ?_⟩) hHeld ?_
          rotate_left
          · (intro wx hSw; obtain ⟨sa, sb, q2⟩ := hSw; obtain ⟨q0, q1⟩ := box2 sb; go_simp; try (with_reducible rfl))
          try simp only [Act.put, List.setIfInBounds_toArray, List.set_cons_zero, List.set_cons_succ]
          refine takeQ (i := 13) (v := .int .i64 (N' : Nat)) rfl (by kernel_rfl) (by kernel_rfl) (by decide) (by kernel_rfl) (by kernel_rfl) (fun _ _ _ h => h) ⟨by rfl, fun wx hSw => ⟨38, #[.pointer (some ⟨g, 0, none⟩)], ?_, held_any g N' c' A' u' br wx hSw.1⟩⟩ hHeld ?_
          · go_simp
          try simp only [Act.put, List.setIfInBounds_toArray, List.set_cons_zero, List.set_cons_succ]
          refine takeT (i := 14) (v := ?_) rfl (by kernel_rfl) (by kernel_rfl) (by decide) (by kernel_rfl) (by kernel_rfl) (fun _ _ _ h => h) (Or.inl ⟨by rfl, ?_⟩) hHeld ?_
          rotate_left
          · (intro wx hSw; obtain ⟨sa, sb, q2⟩ := hSw; obtain ⟨q0, q1⟩ := box2 sb; go_simp; try (with_reducible rfl))
          try simp only [Act.put, List.setIfInBounds_toArray, List.set_cons_zero, List.set_cons_succ]
          refine takeT (i := 15) (v := ?_) rfl (by kernel_rfl) (by kernel_rfl) (by decide) (by kernel_rfl) (by kernel_rfl) (fun _ _ _ h => h) (Or.inl ⟨by rfl, ?_⟩) hHeld ?_
          rotate_left
          · (intro wx hSw; obtain ⟨sa, sb, q2⟩ := hSw; obtain ⟨q0, q1⟩ := box2 sb; go_simp; try (with_reducible rfl))
          try simp only [Act.put, List.setIfInBounds_toArray, List.set_cons_zero, List.set_cons_succ]
          refine takeT (i := 16) (v := ?_) rfl (by kernel_rfl) (by kernel_rfl) (by decide) (by kernel_rfl) (by kernel_rfl) (fun _ _ _ h => h) (Or.inl ⟨by rfl, ?_⟩) hHeld ?_
          rotate_left
          · (intro wx hSw; obtain ⟨sa, sb, q2⟩ := hSw; obtain ⟨q0, q1⟩ := box2 sb; go_simp; try (with_reducible rfl))
          try simp only [Act.put, List.setIfInBounds_toArray, List.set_cons_zero, List.set_cons_succ]
          refine takeT (i := 17) (v := ?_) rfl (by kernel_rfl) (by kernel_rfl) (by decide) (by kernel_rfl) (by kernel_rfl) (fun _ _ _ h => h) (Or.inl ⟨by rfl, ?_⟩) hHeld ?_
          rotate_left
          · (intro wx hSw; obtain ⟨sa, sb, q2⟩ := hSw; obtain ⟨q0, q1⟩ := box2 sb; go_simp; try (with_reducible rfl))
          try simp only [Act.put, List.setIfInBounds_toArray, List.set_cons_zero, List.set_cons_succ]
          refine takeT (i := 18) (v := ?_) rfl (by kernel_rfl) (by kernel_rfl) (by decide) (by kernel_rfl) (by kernel_rfl) (fun _ _ _ h => h) (Or.inl ⟨by rfl, ?_⟩) hHeld ?_
          rotate_left
          · (intro wx hSw; obtain ⟨sa, sb, q2⟩ := hSw; obtain ⟨q0, q1⟩ := box2 sb; go_simp; try (with_reducible rfl))
          try simp only [Act.put, List.setIfInBounds_toArray, List.set_cons_zero, List.set_cons_succ]
          refine doneT (by kernel_rfl) ?_ _
          refine NoPanic.normal ?_
          clear hHeld
          have HDR : Hid (Calls Try.prog 39 #[.pointer (some ⟨g, 0, none⟩), .pointer (some ⟨gy, 0, none⟩)] Y0 (DrQ g gy (fun b => w3.heap.size ≤ b) Y0)) := Lib.hid (drain_any g gy A' Y' N' c' y' u' br Y0 HS.out.1 HN'.out (by have := HG.out; omega) _ (fun b hb => by have h1 := HA2.out b hb; rcases h1 with h1 | h1; exact HQH.out b h1; have := HUB.out; omega))
          have hj1 := HJP.out
          by_cases h3 : j % 3 = 2
          · have e3 : (((j : Int) % 3) != 2) = false := bne_eq_false_iff_eq.2 (by omega)
            clear h3
            go_wp2_with fail
            go_roundw
            case rel => exact ⟨j + 1, HLT.out, by first | rfl | go_num, A', Y', N', c', y', u', br, HS.out.1, HN'.out, HS.out.2.2, fun b hb => by have h1 := HA2.out b hb; rcases h1 with h1 | h1; exact HQH.out b h1; have := HUB.out; omega⟩
            case measure => have := HLT.out; simp [intOf]; omega
          · have e3 : (((j : Int) % 3) != 2) = true := bne_iff_ne.2 (by omega)
            clear h3
            go_wp2_with fail
            refine HDR.out.mono ?_
            rintro e Y1 ⟨rfl, A4, Y4, n4, c4, y4, u4, br4, hD4, hK4, hn4, hQ4⟩
            have HR4 : Hid (FdR g gy w3.heap.size w3 Y1) := Lib.hid ⟨A4, Y4, n4, c4, y4, u4, br4, hD4, hn4, HS.out.2.2.trans hK4, hQ4⟩
            clear hD4 hK4 hn4 hQ4
            go_wp2_with fail
            go_roundw
            case rel => exact ⟨j + 1, HLT.out, by first | rfl | go_num, HR4.out⟩
            case measure => have := HLT.out; simp [intOf]; omega
    · have hlt' : ((j : Int) < (k : Int)) = False := eq_false (by omega)
      have HS : Hid (DrS g gy A YA n c yc u br wr ∧ Below w.heap.size w wr) := Lib.hid ⟨⟨hp, ky, rY, hA⟩, bw⟩
      have HN' := Lib.hid hn
      clear hp ky rY hA bw hlt hn hK hQ
      go_wp2_with fail
      refine (drain_any g gy A YA n c yc u br wr HS.out.1 HN'.out (by have := HG.out; omega) (fun _ => True) (fun _ _ => trivial)).mono ?_
      rintro e Y1 ⟨rfl, A4, Y4, n4, c4, y4, u4, br4, hD4, hK4, hn4, hQ4⟩
      have HS4 := Lib.hid (And.intro hD4 hn4)
      have bw4 : Below w.heap.size w Y1 := HS.out.2.trans (hK4.below (fun k h => by have := HG.out; unfold FG at h; omega) HS.out.2.size)
      clear hD4 hn4 hK4 hQ4
      go_wp2_with fail
      refine (drain_any g gy A4 Y4 n4 c4 y4 u4 br4 Y1 HS4.out.1 HS4.out.2 (by have := HG.out; omega) (fun _ => True) (fun _ _ => trivial)).mono ?_
      rintro e Y2 ⟨rfl, A5, Y5, n5, c5, y5, u5, br5, hD5, hK5, hn5, hQ5⟩
      have bw5 : Below w.heap.size w Y2 := bw4.trans (hK5.below (fun k h => by have := HG.out; unfold FG at h; omega) bw4.size)
      clear hD5 hn5 hK5 hQ5 bw4
      go_wp2_with fail
      go_ret
      exact ⟨rfl, bw5⟩


set_option maxRecDepth 100000 in
theorem lifted_parseFeeds (os : Os) (started : os.Started) (H : Type) (enc : TypeId × Value → H) :
    ReturnsInHanded {} Try.checked os 5 .any (Rows.parseFeedsSpec.pre6 enc Try.prog Try.f5 Rows.parseFeedsRow.domain false) (Rows.parseFeedsSpec.post enc Try.prog Try.f5 false true false false) := by
  refine returnsInHanded_of_change_sized (C := Try.checked) own started (by kernel_rfl) Try.func5
    (ChangeSpec.witness6 (enc := enc) (C := Try.checked) false ⟨#[], #[.slice none 0 0], []⟩ 8 (by kernel_rfl) (by kernel_rfl) (by kernel_rfl) (by kernel_rfl)) ?_
  intro W base args ds gs before hval0 hW hcnd hsz0 _
  have hval : ∀ (j : Nat) t v, Try.f5.params[j]? = some t → args[j]? = some v → Value.okWide Try.prog W .any base t v := hval0
  have hsz : (DataW.weightsEach Try.prog (Try.f5.params.toList ++ Rows.parseFeedsSpec.plain.varTypes Try.prog) (ds ++ gs)).all (· ≤ reachBytes) = true := hsz0
  have hW' := hW
  obtain ⟨p, q, hA0, hV, rfl, hfz, hnd⟩ := hW
  have hA : DataW.TrodAll enc Try.prog W 0 (fun _ => true) true Try.f5.params.toList args.toList ds p := hA0
  rw [Try.params5] at hA hval hsz
  obtain ⟨v0, vs0, d0, ds0, p0, q0, hargs, rfl, rfl, h0, t0⟩ := trodAll_cons hA
  obtain ⟨rfl, rfl, rfl⟩ := trodAll_nil t0
  obtain rfl : args = #[v0] := by cases args; simp_all
  obtain ⟨rfl, rfl⟩ := trodVars_none hV
  have k0 := h0
  obtain ⟨A0, n0, c0, L0, rfl, r0, y0⟩ := open_pieces (hval 0 43 v0 rfl rfl) h0
  have s0 := y0 (weights_of hsz (j := 0) rfl rfl)
  clear hA0 hval0
  refine (walk_parseFeeds A0 n0 c0 L0 W r0 s0).mono fun e W' ⟨he, bel⟩ => ?_
  subst he
  exact ⟨_, rfl, _, _, _, [], _, [], hW', trodAll_mk1 (shut_bool Try.underlying4 _), (trodAll_cons_mk (Below.trod laidOut (by kernel_rfl) (of_decide_eq_true (by kernel_rfl)) k0 bel (trod_places k0)) trodAll_mk0), rfl, bel.frame _, fun h => by cases h⟩

theorem closed_parseFeeds : joinedFacts Try.pinned.checked.prog 5 Try.f5 Rows.parseFeedsSpec Rows.parseFeedsRow = true := by
  unfold joinedFacts
  rw [clo_heard, clo_may, clo_lifts, clo_make]
  kernel_rfl
theorem over_parseFeeds : Rows.parseFeedsRow.holds Try.pinned (OpenSpec.ofChange Rows.parseFeedsSpec) :=
  OpenClaim.holds_of_wide 5 Try.f5 rfl rfl rfl rfl rfl rfl rfl ⟨rfl, rfl, rfl, rfl, rfl⟩ rfl rfl rfl rfl rfl (by kernel_rfl) Try.func5 closed_parseFeeds
    (of_decide_eq_true (by kernel_rfl)) (by unfold Func.isWrapper; first | (rw [if_pos (by decide +kernel)]; kernel_rfl) | (rw [if_neg (by decide +kernel)]; exact ⟨rfl, rfl⟩))
    (fun os started H enc _ => lifted_parseFeeds os started H enc)

/-- The statement. -/
theorem parseFeeds_holds : Rows.ParseFeedsSaid := over_parseFeeds
#print axioms parseFeeds_holds

end Go.Proofs.Ytnghmgbmflcngaa

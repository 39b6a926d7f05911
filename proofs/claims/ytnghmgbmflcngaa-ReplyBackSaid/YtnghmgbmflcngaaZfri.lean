/- Merged texts: Fri, Frn, Fro, Frq, Frs, Frt, Fru. Conditions: typed in each theorem. -/
import Derived.Test.YtnghmgbmflcngaaZfre
import Derived.StillTailTactics
import Derived.Test.YtnghmgbmflcngaaZhld
import Derived.Deep.RegionHeld3
namespace Go.Proofs.Ytnghmgbmflcngaa
set_option linter.unusedVariables false
section
open Go.RowKit

theorem fld_one {l : List UInt8} {o : Nat} {x : UInt8} (h : l[o]? = some x) : fld l o 1 = x.toNat := by
  unfold fld
  obtain ⟨h1, h2⟩ := List.getElem?_eq_some_iff.1 h
  rw [List.drop_eq_getElem_cons h1, h2]
  simp [numB]
theorem rd_byte {w : World} {B n c : Nat} {a : Addr} {l : List UInt8} (h : Rd w B (some a) n c l) (o : Nat) (ho : o < n) : w.cell? (a.add o) = some (.int .u8 (fld l o 1 : Nat)) := by
  obtain ⟨ad, x, e, -, hx, hc⟩ := h.at_ ho
  obtain rfl : a = ad := by injection e
  rw [hc, fld_one hx]
theorem number_at {W : World} {B n c : Nat} {a : Addr} {l : List UInt8} (h : Rd W B (some a) n c l) (i k : Nat) (hk : k ≤ 8) (hi : 0 < i) (hj : i + k ≤ n) (hc : i < c) (v : Nat) (hv : v = fld l i k) :
    Calls Try.prog 107 #[.slice (some ⟨a.block, a.off + i, none⟩) k (c - i)] W fun e w' => e = .returned (.int .u64 (v : Nat)) ∧ W = w' := by
  have hh := h.cut (i := i) (j := i + k) (by omega) hj
  rw [if_neg (by omega), List.drop_take, Nat.add_sub_cancel_left] at hh
  have ea : (some a).map (·.add i) = some ⟨a.block, a.off + i, none⟩ := by
    show some (a.add i) = _
    unfold Addr.add
    rw [if_neg (by omega)]
  rw [ea] at hh
  have := number_any _ k (c - i) B _ W hh
  rw [numQ_small (by rw [List.length_take]; omega)] at this
  rw [hv]
  exact this
set_option maxRecDepth 100000 in
set_option maxHeartbeats 4000000 in
theorem read19_any (A : Option Addr) (n c : Nat) (l : List UInt8) (w : World) (h : Rd w w.heap.size A n c l) (hn : 24 ≤ n) :
    Calls Try.prog 118 #[.slice A n c] w (BoxQ (hdV (fld l 0 1) (fld l 1 1) (fld l 2 2) (fld l 4 1) (fld l 5 1) (fld l 6 2) (fld l 8 4) (fld l 12 4) (fld l 16 8)) w) := by
  have hF := hdF_of l
  have hcap := h.cap
  have hmax := h.max
  unfold maxLen at hmax
  obtain ⟨a, x, rfl, halt, -, -⟩ := h.at_ (i := 0) (by omega)
  have k0 := Blk.new w #[.int .u8 0, .int .u8 0, .int .u16 0, .int .u8 0, .int .u8 0, .int .u16 0, .int .u32 0, .int .u32 0, .int .u64 0] 59
  have b0 : Below w.heap.size w (w.alloc (.cells #[.int .u8 0, .int .u8 0, .int .u16 0, .int .u8 0, .int .u8 0, .int .u16 0, .int .u32 0, .int .u32 0, .int .u64 0] 59)) := below_a1' (Below.refl _ _) _
  have r0 := h.below b0
  go_enter Try.func118, Try.ntmps118
  go_wp2_with fail
  generalize w.alloc (.cells #[.int .u8 0, .int .u8 0, .int .u16 0, .int .u8 0, .int .u8 0, .int .u16 0, .int .u32 0, .int .u32 0, .int .u64 0] 59) = W0 at k0 b0 r0 ⊢
  have rd : Rd W0.drew w.heap.size (some a) n c l := r0.drewN 1
  have k1 : Blk W0.drew w.heap.size #[.int .u8 0, .int .u8 0, .int .u16 0, .int .u8 0, .int .u8 0, .int .u16 0, .int .u32 0, .int .u32 0, .int .u64 0] 59 := k0
  have b1 : Below w.heap.size w W0.drew := b0.drew
  refine wp_region_still_tail 32 (by kernel_rfl) (by kernel_rfl) ?_
  change wpStill _ _ W0.drew (fun a' => wpList _ _ _ _ a' W0.drew) _ _
  generalize W0.drew = W1 at rd k1 b1 ⊢
  clear k0 b0 r0
  have qmg : W1.cell? a = some (.int .u8 (fld l 0 1 : Nat)) := rd_byte rd 0 (by omega)
  have qop : W1.cell? ⟨a.block, a.off + 1, none⟩ = some (.int .u8 (fld l 1 1 : Nat)) := rd_byte rd 1 (by omega)
  have qel : W1.cell? ⟨a.block, a.off + 4, none⟩ = some (.int .u8 (fld l 4 1 : Nat)) := rd_byte rd 4 (by omega)
  have qty : W1.cell? ⟨a.block, a.off + 5, none⟩ = some (.int .u8 (fld l 5 1 : Nat)) := rd_byte rd 5 (by omega)
  have Ckl := Lib.hid (number_at rd 2 2 (by omega) (by omega) (by omega) (by omega) (fld l 2 2) rfl)
  have Cst := Lib.hid (number_at rd 6 2 (by omega) (by omega) (by omega) (by omega) (fld l 6 2) rfl)
  have Cbl := Lib.hid (number_at rd 8 4 (by omega) (by omega) (by omega) (by omega) (fld l 8 4) rfl)
  have Coq := Lib.hid (number_at rd 12 4 (by omega) (by omega) (by omega) (by omega) (fld l 12 4) rfl)
  have Ccas := Lib.hid (number_at rd 16 8 (by omega) (by omega) (by omega) (by omega) (fld l 16 8) rfl)
  generalize emg : fld l 0 1 = mg at hF qmg
  have Emg := Lib.hid emg
  clear emg
  generalize eop : fld l 1 1 = op at hF qop
  have Eop := Lib.hid eop
  clear eop
  generalize ekl : fld l 2 2 = kl at hF Ckl
  have Ekl := Lib.hid ekl
  clear ekl
  generalize eel : fld l 4 1 = el at hF qel
  have Eel := Lib.hid eel
  clear eel
  generalize ety : fld l 5 1 = ty at hF qty
  have Ety := Lib.hid ety
  clear ety
  generalize est : fld l 6 2 = st at hF Cst
  have Est := Lib.hid est
  clear est
  generalize ebl : fld l 8 4 = bl at hF Cbl
  have Ebl := Lib.hid ebl
  clear ebl
  generalize eoq : fld l 12 4 = oq at hF Coq
  have Eoq := Lib.hid eoq
  clear eoq
  generalize ecas : fld l 16 8 = cas at hF Ccas
  have Ecas := Lib.hid ecas
  clear ecas
  obtain ⟨f0, f1, f2, f3, f4, f5, f6, f7, f8⟩ := hF
  have Wkl : IntKind.u16.wrap (kl : Int) = (kl : Int) := IntWalk.u16_in _ (by omega)
  have Wst : IntKind.u16.wrap (st : Int) = (st : Int) := IntWalk.u16_in _ (by omega)
  have Wbl : IntKind.u32.wrap (bl : Int) = (bl : Int) := IntWalk.u32_in _ (by omega)
  have Woq : IntKind.u32.wrap (oq : Int) = (oq : Int) := IntWalk.u32_in _ (by omega)
  have j0 : 0 < n := by omega
  have i0 : (0 : Int) < (n : Int) := by omega
  have j1 : 1 < n := by omega
  have i1 : (1 : Int) < (n : Int) := by omega
  have j4 : 4 < n := by omega
  have i4 : (4 : Int) < (n : Int) := by omega
  have j5 : 5 < n := by omega
  have i5 : (5 : Int) < (n : Int) := by omega
  have d2 : c ≠ 2 := by omega
  have d4 : c ≠ 4 := by omega
  have d6 : c ≠ 6 := by omega
  have d8 : c ≠ 8 := by omega
  have d12 : c ≠ 12 := by omega
  have d16 : c ≠ 16 := by omega
  have l4 : (4 : Int) ≤ (c : Int) := by omega
  have l8 : (8 : Int) ≤ (c : Int) := by omega
  have l12 : (12 : Int) ≤ (c : Int) := by omega
  have l16 : (16 : Int) ≤ (c : Int) := by omega
  have l24 : (24 : Int) ≤ (c : Int) := by omega
  have hg := grown_set9 W1 w.heap.size (.int .u8 (mg : Nat)) (.int .u8 (op : Nat)) (.int .u16 (kl : Nat)) (.int .u8 (el : Nat)) (.int .u8 (ty : Nat)) (.int .u16 (st : Nat)) (.int .u32 (bl : Nat)) (.int .u32 (oq : Nat)) (.int .u64 (cas : Nat))
  have bff := b1.trans (below_grown hg (Nat.le_refl _) k1.lt)
  have kf := blk_set9 k1 (.int .u8 (mg : Nat)) (.int .u8 (op : Nat)) (.int .u16 (kl : Nat)) (.int .u8 (el : Nat)) (.int .u8 (ty : Nat)) (.int .u16 (st : Nat)) (.int .u32 (bl : Nat)) (.int .u32 (oq : Nat)) (.int .u64 (cas : Nat))
  obtain ⟨z0, z1, z2, z3, z4, z5, z6, z7, z8⟩ := box9 k1
  obtain ⟨t0, t1, t2, t3, t4, t5, t6, t7, t8⟩ := box9 kf
  have y0 := k1.frozen 0
  have y1 := k1.frozen 1
  have y2 := k1.frozen 2
  have y3 := k1.frozen 3
  have y4 := k1.frozen 4
  have y5 := k1.frozen 5
  have y6 := k1.frozen 6
  have y7 := k1.frozen 7
  have y8 := k1.frozen 8
  have HBF := Lib.hid bff
  clear rd h hg kf bff k1 b1
  simp only [List.take_succ_cons, List.take_zero, List.drop_succ_cons, List.drop_zero]
  repeat still_step
  still_call (Ckl.out.mono fun _ _ h => ⟨h.1, h.2.symm⟩)
  repeat still_step
  still_call (Cst.out.mono fun _ _ h => ⟨h.1, h.2.symm⟩)
  repeat still_step
  still_call (Cbl.out.mono fun _ _ h => ⟨h.1, h.2.symm⟩)
  repeat still_step
  still_call (Coq.out.mono fun _ _ h => ⟨h.1, h.2.symm⟩)
  repeat still_step
  still_call (Ccas.out.mono fun _ _ h => ⟨h.1, h.2.symm⟩)
  repeat still_step
  refine wpStill_nil ?_
  go_wp2_with fail
  refine bodyPost_ret (v := .agg #[.int .u8 (mg : Nat), .int .u8 (op : Nat), .int .u16 (kl : Nat), .int .u8 (el : Nat), .int .u8 (ty : Nat), .int .u16 (st : Nat), .int .u32 (bl : Nat), .int .u32 (oq : Nat), .int .u64 (cas : Nat)]) (by simp [results, Try.results118, go_sem, t0, t1, t2, t3, t4, t5, t6, t7, t8]) rfl ?_
  exact ⟨by rw [Emg.out, Eop.out, Ekl.out, Eel.out, Ety.out, Est.out, Ebl.out, Eoq.out, Ecas.out]; rfl, HBF.out⟩
end
section
open Go.RowKit

/-- The error and the number that Need tells. -/
def needE (l : List UInt8) : Int := if l.length < 24 then 9 else if mayB (fld l 0 1) (fld l 2 2) (fld l 4 1) (fld l 8 4) = true then (if 2048 < fld l 8 4 then 3 else 0) else 290
def needN (l : List UInt8) : Nat := if needE l = 0 then 24 + fld l 8 4 else 0
def NeedQ (k : Int) (err : Int) (w : World) (e : Ending) (w' : World) : Prop := e = .returned (.tuple #[.int .i64 k, .int .i64 err]) ∧ Below w.heap.size w w'
set_option maxRecDepth 100000 in
theorem need_short (A : Option Addr) (n c : Nat) (w : World) (hn : n < 24) : Calls Try.prog 96 #[.slice A n c] w (NeedQ 0 9 w) := by
  go_enter Try.func96, Try.ntmps96
  go_wp2_with fail
  refine (gh_short A n c hn _).mono ?_
  rintro e w1 ⟨rfl, b1⟩
  unfold zeroHd
  go_wp2_with fail
  go_ret2
  exact ⟨rfl, below_a1' b1 _⟩
set_option maxRecDepth 100000 in
theorem need_bad (A : Option Addr) (n c : Nat) (l : List UInt8) (w : World) (h : Rd w w.heap.size A n c l) (hn : 24 ≤ n) (hm : mayB (fld l 0 1) (fld l 2 2) (fld l 4 1) (fld l 8 4) = false) : Calls Try.prog 96 #[.slice A n c] w (NeedQ 0 290 w) := by
  have HG := Lib.hid (gh_bad A n c l w h hn hm)
  clear hm
  go_enter Try.func96, Try.ntmps96
  go_wp2_with fail
  refine HG.out.mono ?_
  rintro e w1 ⟨rfl, b1⟩
  unfold zeroHd
  go_wp2_with fail
  go_ret2
  exact ⟨rfl, below_a1' b1 _⟩
set_option maxRecDepth 100000 in
set_option maxHeartbeats 1000000 in
theorem need_long (A : Option Addr) (n c : Nat) (l : List UInt8) (w : World) (h : Rd w w.heap.size A n c l) (hn : 24 ≤ n) (hm : mayB (fld l 0 1) (fld l 2 2) (fld l 4 1) (fld l 8 4) = true) (hb : 2048 < fld l 8 4) : Calls Try.prog 96 #[.slice A n c] w (NeedQ 0 3 w) := by
  have hG := gh_ok A n c l w h hn hm
  generalize fld l 8 4 = a6 at hG hb
  have HG := Lib.hid hG
  clear hm hG
  go_enter Try.func96, Try.ntmps96
  go_wp2_with fail
  refine HG.out.mono ?_
  rintro e w1 ⟨rfl, b1⟩
  unfold hdV
  go_wp2_with fail
  go_ret2
  exact ⟨rfl, below_a1' b1 _⟩
set_option maxRecDepth 100000 in
set_option maxHeartbeats 1000000 in
theorem need_ok (A : Option Addr) (n c : Nat) (l : List UInt8) (w : World) (h : Rd w w.heap.size A n c l) (hn : 24 ≤ n) (hm : mayB (fld l 0 1) (fld l 2 2) (fld l 4 1) (fld l 8 4) = true) (hb : ¬ 2048 < fld l 8 4) : Calls Try.prog 96 #[.slice A n c] w (NeedQ (24 + (fld l 8 4 : Nat)) 0 w) := by
  have hG := gh_ok A n c l w h hn hm
  generalize fld l 8 4 = a6 at hG hb ⊢
  have HG := Lib.hid hG
  clear hm hG
  go_enter Try.func96, Try.ntmps96
  go_wp2_with fail
  refine HG.out.mono ?_
  rintro e w1 ⟨rfl, b1⟩
  unfold hdV
  go_wp2_with fail
  go_ret2
  exact ⟨rfl, below_a1' b1 _⟩
set_option maxRecDepth 100000 in
theorem rneed_short (A : Option Addr) (n c : Nat) (w : World) (hn : n < 24) : Calls Try.prog 127 #[.slice A n c] w (NeedQ 0 9 w) := by
  go_enter Try.func127, Try.ntmps127
  go_wp2_with fail
  go_ret2
  exact ⟨rfl, Below.refl _ _⟩
theorem need_any (A : Option Addr) (n c : Nat) (l : List UInt8) (w : World) (h : Rd w w.heap.size A n c l) : Calls Try.prog 96 #[.slice A n c] w (NeedQ (needN l : Nat) (needE l) w) := by
  have hl := h.len
  by_cases hn : n < 24
  · have e1 : needE l = 9 := by unfold needE; rw [if_pos (by omega)]
    have e2 : needN l = 0 := by unfold needN; rw [e1]; rfl
    rw [e1, e2]
    exact need_short A n c w hn
  by_cases hm : mayB (fld l 0 1) (fld l 2 2) (fld l 4 1) (fld l 8 4) = true
  · by_cases hb : 2048 < fld l 8 4
    · have e1 : needE l = 3 := by unfold needE; rw [if_neg (by omega), if_pos hm, if_pos hb]
      have e2 : needN l = 0 := by unfold needN; rw [e1]; rfl
      rw [e1, e2]
      exact need_long A n c l w h (by omega) hm hb
    · have e1 : needE l = 0 := by unfold needE; rw [if_neg (by omega), if_pos hm, if_neg hb]
      have e2 : needN l = 24 + fld l 8 4 := by unfold needN; rw [if_pos e1]
      rw [e1, e2, Int.natCast_add]
      exact need_ok A n c l w h (by omega) hm hb
  · have e1 : needE l = 290 := by unfold needE; rw [if_neg (by omega), if_neg hm]
    have e2 : needN l = 0 := by unfold needN; rw [e1]; rfl
    rw [e1, e2]
    exact need_bad A n c l w h (by omega) (by simpa using hm)
end
section
open Go.RowKit

set_option maxRecDepth 100000 in
set_option maxHeartbeats 1000000 in
theorem rneed_bad (A : Option Addr) (n c : Nat) (l : List UInt8) (w : World) (h : Rd w w.heap.size A n c l) (hn : 24 ≤ n) (hm : mayB (fld l 0 1) (fld l 2 2) (fld l 4 1) (fld l 8 4) = false)  : Calls Try.prog 127 #[.slice A n c] w (NeedQ 0 290 w) := by
  have hR := fun W => right19_any (fld l 0 1) (fld l 1 1) (fld l 2 2) (fld l 4 1) (fld l 5 1) (fld l 6 2) (fld l 8 4) (fld l 12 4) (fld l 16 8) (hdF_of l) W
  rw [hm] at hR
  have hRD := read19_any A n c l w h hn
  have hF := (hdF_of l).2.2.2.2.2.2.1
  clear hm
  generalize fld l 0 1 = a0 at hR hRD
  generalize fld l 1 1 = a1 at hR hRD
  generalize fld l 2 2 = a2 at hR hRD
  generalize fld l 4 1 = a3 at hR hRD
  generalize fld l 5 1 = a4 at hR hRD
  generalize fld l 6 2 = a5 at hR hRD
  generalize fld l 8 4 = a6 at hR hRD hF
  generalize fld l 12 4 = a7 at hR hRD
  generalize fld l 16 8 = a8 at hR hRD
  unfold hdV at hR hRD
  have HR := Lib.hid hR
  have HRD := Lib.hid hRD
  clear hR hRD
  go_enter Try.func127, Try.ntmps127
  go_wp2_with fail
  refine HRD.out.mono ?_
  rintro e w1 ⟨rfl, b1⟩
  have k1 := Blk.new w1 #[.int .u8 (a0 : Nat), .int .u8 (a1 : Nat), .int .u16 (a2 : Nat), .int .u8 (a3 : Nat), .int .u8 (a4 : Nat), .int .u16 (a5 : Nat), .int .u32 (a6 : Nat), .int .u32 (a7 : Nat), .int .u64 (a8 : Nat)] 59
  go_wp2_with fail
  refine (HR.out _).mono ?_
  rintro e w2 ⟨rfl, b2⟩
  replace k1 := k1.step b2
  obtain ⟨q0, q1, q2, q3, q4, q5, q6, q7, q8⟩ := box9 k1
  have b := below_step (below_a1' b1 _) b2
  go_wp2_with fail
  go_ret2
  exact ⟨rfl, b⟩
set_option maxRecDepth 100000 in
set_option maxHeartbeats 1000000 in
theorem rneed_long (A : Option Addr) (n c : Nat) (l : List UInt8) (w : World) (h : Rd w w.heap.size A n c l) (hn : 24 ≤ n) (hm : mayB (fld l 0 1) (fld l 2 2) (fld l 4 1) (fld l 8 4) = true) (hb : 2048 < fld l 8 4) : Calls Try.prog 127 #[.slice A n c] w (NeedQ 0 3 w) := by
  have hR := fun W => right19_any (fld l 0 1) (fld l 1 1) (fld l 2 2) (fld l 4 1) (fld l 5 1) (fld l 6 2) (fld l 8 4) (fld l 12 4) (fld l 16 8) (hdF_of l) W
  rw [hm] at hR
  have hRD := read19_any A n c l w h hn
  have hF := (hdF_of l).2.2.2.2.2.2.1
  clear hm
  generalize fld l 0 1 = a0 at hR hRD
  generalize fld l 1 1 = a1 at hR hRD
  generalize fld l 2 2 = a2 at hR hRD
  generalize fld l 4 1 = a3 at hR hRD
  generalize fld l 5 1 = a4 at hR hRD
  generalize fld l 6 2 = a5 at hR hRD
  generalize fld l 8 4 = a6 at hR hRD hF hb
  generalize fld l 12 4 = a7 at hR hRD
  generalize fld l 16 8 = a8 at hR hRD
  unfold hdV at hR hRD
  have HR := Lib.hid hR
  have HRD := Lib.hid hRD
  clear hR hRD
  go_enter Try.func127, Try.ntmps127
  go_wp2_with fail
  refine HRD.out.mono ?_
  rintro e w1 ⟨rfl, b1⟩
  have k1 := Blk.new w1 #[.int .u8 (a0 : Nat), .int .u8 (a1 : Nat), .int .u16 (a2 : Nat), .int .u8 (a3 : Nat), .int .u8 (a4 : Nat), .int .u16 (a5 : Nat), .int .u32 (a6 : Nat), .int .u32 (a7 : Nat), .int .u64 (a8 : Nat)] 59
  go_wp2_with fail
  refine (HR.out _).mono ?_
  rintro e w2 ⟨rfl, b2⟩
  replace k1 := k1.step b2
  obtain ⟨q0, q1, q2, q3, q4, q5, q6, q7, q8⟩ := box9 k1
  have b := below_step (below_a1' b1 _) b2
  go_wp2_with fail
  go_ret2
  exact ⟨rfl, b⟩
set_option maxRecDepth 100000 in
set_option maxHeartbeats 1000000 in
theorem rneed_ok (A : Option Addr) (n c : Nat) (l : List UInt8) (w : World) (h : Rd w w.heap.size A n c l) (hn : 24 ≤ n) (hm : mayB (fld l 0 1) (fld l 2 2) (fld l 4 1) (fld l 8 4) = true) (hb : ¬ 2048 < fld l 8 4) : Calls Try.prog 127 #[.slice A n c] w (NeedQ (24 + (fld l 8 4 : Nat)) 0 w) := by
  have hR := fun W => right19_any (fld l 0 1) (fld l 1 1) (fld l 2 2) (fld l 4 1) (fld l 5 1) (fld l 6 2) (fld l 8 4) (fld l 12 4) (fld l 16 8) (hdF_of l) W
  rw [hm] at hR
  have hRD := read19_any A n c l w h hn
  have hF := (hdF_of l).2.2.2.2.2.2.1
  clear hm
  generalize fld l 0 1 = a0 at hR hRD
  generalize fld l 1 1 = a1 at hR hRD
  generalize fld l 2 2 = a2 at hR hRD
  generalize fld l 4 1 = a3 at hR hRD
  generalize fld l 5 1 = a4 at hR hRD
  generalize fld l 6 2 = a5 at hR hRD
  generalize fld l 8 4 = a6 at hR hRD hF hb ⊢
  generalize fld l 12 4 = a7 at hR hRD
  generalize fld l 16 8 = a8 at hR hRD
  unfold hdV at hR hRD
  have HR := Lib.hid hR
  have HRD := Lib.hid hRD
  clear hR hRD
  go_enter Try.func127, Try.ntmps127
  go_wp2_with fail
  refine HRD.out.mono ?_
  rintro e w1 ⟨rfl, b1⟩
  have k1 := Blk.new w1 #[.int .u8 (a0 : Nat), .int .u8 (a1 : Nat), .int .u16 (a2 : Nat), .int .u8 (a3 : Nat), .int .u8 (a4 : Nat), .int .u16 (a5 : Nat), .int .u32 (a6 : Nat), .int .u32 (a7 : Nat), .int .u64 (a8 : Nat)] 59
  go_wp2_with fail
  refine (HR.out _).mono ?_
  rintro e w2 ⟨rfl, b2⟩
  replace k1 := k1.step b2
  obtain ⟨q0, q1, q2, q3, q4, q5, q6, q7, q8⟩ := box9 k1
  have b := below_step (below_a1' b1 _) b2
  go_wp2_with fail
  go_ret2
  exact ⟨rfl, b⟩
theorem rneed_any (A : Option Addr) (n c : Nat) (l : List UInt8) (w : World) (h : Rd w w.heap.size A n c l) : Calls Try.prog 127 #[.slice A n c] w (NeedQ (needN l : Nat) (needE l) w) := by
  have hl := h.len
  by_cases hn : n < 24
  · have e1 : needE l = 9 := by unfold needE; rw [if_pos (by omega)]
    have e2 : needN l = 0 := by unfold needN; rw [e1]; rfl
    rw [e1, e2]
    exact rneed_short A n c w hn
  by_cases hm : mayB (fld l 0 1) (fld l 2 2) (fld l 4 1) (fld l 8 4) = true
  · by_cases hb : 2048 < fld l 8 4
    · have e1 : needE l = 3 := by unfold needE; rw [if_neg (by omega), if_pos hm, if_pos hb]
      have e2 : needN l = 0 := by unfold needN; rw [e1]; rfl
      rw [e1, e2]
      exact rneed_long A n c l w h (by omega) hm hb
    · have e1 : needE l = 0 := by unfold needE; rw [if_neg (by omega), if_pos hm, if_neg hb]
      have e2 : needN l = 24 + fld l 8 4 := by unfold needN; rw [if_pos e1]
      rw [e1, e2, Int.natCast_add]
      exact rneed_ok A n c l w h (by omega) hm hb
  · have e1 : needE l = 290 := by unfold needE; rw [if_neg (by omega), if_neg hm]
    have e2 : needN l = 0 := by unfold needN; rw [e1]; rfl
    rw [e1, e2]
    exact rneed_bad A n c l w h (by omega) (by simpa using hm)
end
section
open Go.RowKit

theorem neInt' {x : Int} (h : x ≠ 0) : (x != 0) = true := by rw [bne_iff_ne]; exact h
def GetNo (err : Int) (w : World) (e : Ending) (w' : World) : Prop := e = .returned (.tuple #[zeroFr, .int .i64 0, .int .i64 err]) ∧ Below w.heap.size w w'
set_option maxRecDepth 100000 in
set_option maxHeartbeats 2000000 in
theorem get_no (A : Option Addr) (n c : Nat) (l : List UInt8) (w : World) (h : Rd w w.heap.size A n c l) (he : needE l ≠ 0) : Calls Try.prog 51 #[.slice A n c] w (GetNo (needE l) w) := by
  have k0 := Blk.new w #[.int .u8 0, .int .u8 0, .int .u16 0, .int .u8 0, .int .u8 0, .int .u16 0, .int .u32 0, .int .u32 0, .int .u64 0, .slice none 0 0, .slice none 0 0, .slice none 0 0] 61
  have b0 : Below w.heap.size w (w.alloc (.cells #[.int .u8 0, .int .u8 0, .int .u16 0, .int .u8 0, .int .u8 0, .int .u16 0, .int .u32 0, .int .u32 0, .int .u64 0, .slice none 0 0, .slice none 0 0, .slice none 0 0] 61)) := below_a1' (Below.refl _ _) _
  have hN := fun W (r : Rd W W.heap.size A n c l) => need_any A n c l W r
  have e2 : needN l = 0 := by unfold needN; rw [if_neg he]
  rw [e2] at hN
  have tn := neInt' he
  generalize needE l = er at hN tn ⊢
  have HN := Lib.hid hN
  clear he hN e2
  go_enter Try.func51, Try.ntmps51
  go_wp2_with fail
  generalize w.alloc (.cells #[.int .u8 0, .int .u8 0, .int .u16 0, .int .u8 0, .int .u8 0, .int .u16 0, .int .u32 0, .int .u32 0, .int .u64 0, .slice none 0 0, .slice none 0 0, .slice none 0 0] 61) = W0 at k0 b0 ⊢
  refine (HN.out _ ((h.below b0).more b0.size)).mono ?_
  rintro e w1 ⟨rfl, b1⟩
  have kx := k0.step b1
  have b := below_step b0 b1
  obtain ⟨z0, z1, z2, z3, z4, z5, z6, z7, z8, z9, z10, z11⟩ := box12 kx
  have y0 := kx.frozen 0
  have y1 := kx.frozen 1
  have y2 := kx.frozen 2
  have y3 := kx.frozen 3
  have y4 := kx.frozen 4
  have y5 := kx.frozen 5
  have y6 := kx.frozen 6
  have y7 := kx.frozen 7
  have y8 := kx.frozen 8
  have y9 := kx.frozen 9
  have y10 := kx.frozen 10
  have y11 := kx.frozen 11
  have kf := blk_set12 kx (.int .u8 0) (.int .u8 0) (.int .u16 0) (.int .u8 0) (.int .u8 0) (.int .u16 0) (.int .u32 0) (.int .u32 0) (.int .u64 0) (.slice none 0 0) (.slice none 0 0) (.slice none 0 0)
  have hg := grown_set12 w1 w.heap.size (.int .u8 0) (.int .u8 0) (.int .u16 0) (.int .u8 0) (.int .u8 0) (.int .u16 0) (.int .u32 0) (.int .u32 0) (.int .u64 0) (.slice none 0 0) (.slice none 0 0) (.slice none 0 0)
  have bff := b.trans (below_grown hg (Nat.le_refl _) kx.lt)
  obtain ⟨t0, t1, t2, t3, t4, t5, t6, t7, t8, t9, t10, t11⟩ := box12 kf
  clear hg kf kx k0 b1
  go_wp2_with fail
  refine bodyPost_ret (v := .tuple #[.agg #[.int .u8 0, .int .u8 0, .int .u16 0, .int .u8 0, .int .u8 0, .int .u16 0, .int .u32 0, .int .u32 0, .int .u64 0, .slice none 0 0, .slice none 0 0, .slice none 0 0], .int .i64 0, .int .i64 er]) (by simp [results, Try.results51, go_sem, t0, t1, t2, t3, t4, t5, t6, t7, t8, t9, t10, t11]) rfl ?_
  exact ⟨rfl, bff⟩
set_option maxRecDepth 100000 in
set_option maxHeartbeats 2000000 in
theorem get_short (A : Option Addr) (n c : Nat) (l : List UInt8) (w : World) (h : Rd w w.heap.size A n c l) (he : needE l = 0) (hs : n < needN l) : Calls Try.prog 51 #[.slice A n c] w (GetNo 9 w) := by
  have k0 := Blk.new w #[.int .u8 0, .int .u8 0, .int .u16 0, .int .u8 0, .int .u8 0, .int .u16 0, .int .u32 0, .int .u32 0, .int .u64 0, .slice none 0 0, .slice none 0 0, .slice none 0 0] 61
  have b0 : Below w.heap.size w (w.alloc (.cells #[.int .u8 0, .int .u8 0, .int .u16 0, .int .u8 0, .int .u8 0, .int .u16 0, .int .u32 0, .int .u32 0, .int .u64 0, .slice none 0 0, .slice none 0 0, .slice none 0 0] 61)) := below_a1' (Below.refl _ _) _
  have hN := fun W (r : Rd W W.heap.size A n c l) => need_any A n c l W r
  rw [he] at hN
  generalize needN l = N at hN hs
  have HN := Lib.hid hN
  clear he hN
  go_enter Try.func51, Try.ntmps51
  go_wp2_with fail
  generalize w.alloc (.cells #[.int .u8 0, .int .u8 0, .int .u16 0, .int .u8 0, .int .u8 0, .int .u16 0, .int .u32 0, .int .u32 0, .int .u64 0, .slice none 0 0, .slice none 0 0, .slice none 0 0] 61) = W0 at k0 b0 ⊢
  refine (HN.out _ ((h.below b0).more b0.size)).mono ?_
  rintro e w1 ⟨rfl, b1⟩
  have kx := k0.step b1
  have b := below_step b0 b1
  obtain ⟨z0, z1, z2, z3, z4, z5, z6, z7, z8, z9, z10, z11⟩ := box12 kx
  have y0 := kx.frozen 0
  have y1 := kx.frozen 1
  have y2 := kx.frozen 2
  have y3 := kx.frozen 3
  have y4 := kx.frozen 4
  have y5 := kx.frozen 5
  have y6 := kx.frozen 6
  have y7 := kx.frozen 7
  have y8 := kx.frozen 8
  have y9 := kx.frozen 9
  have y10 := kx.frozen 10
  have y11 := kx.frozen 11
  have kf := blk_set12 kx (.int .u8 0) (.int .u8 0) (.int .u16 0) (.int .u8 0) (.int .u8 0) (.int .u16 0) (.int .u32 0) (.int .u32 0) (.int .u64 0) (.slice none 0 0) (.slice none 0 0) (.slice none 0 0)
  have hg := grown_set12 w1 w.heap.size (.int .u8 0) (.int .u8 0) (.int .u16 0) (.int .u8 0) (.int .u8 0) (.int .u16 0) (.int .u32 0) (.int .u32 0) (.int .u64 0) (.slice none 0 0) (.slice none 0 0) (.slice none 0 0)
  have bff := b.trans (below_grown hg (Nat.le_refl _) kx.lt)
  obtain ⟨t0, t1, t2, t3, t4, t5, t6, t7, t8, t9, t10, t11⟩ := box12 kf
  clear hg kf kx k0 b1
  go_wp2_with fail
  refine bodyPost_ret (v := .tuple #[.agg #[.int .u8 0, .int .u8 0, .int .u16 0, .int .u8 0, .int .u8 0, .int .u16 0, .int .u32 0, .int .u32 0, .int .u64 0, .slice none 0 0, .slice none 0 0, .slice none 0 0], .int .i64 0, .int .i64 9]) (by simp [results, Try.results51, go_sem, t0, t1, t2, t3, t4, t5, t6, t7, t8, t9, t10, t11]) rfl ?_
  exact ⟨rfl, bff⟩
set_option maxRecDepth 100000 in
set_option maxHeartbeats 2000000 in
theorem rget_no (A : Option Addr) (n c : Nat) (l : List UInt8) (w : World) (h : Rd w w.heap.size A n c l) (he : needE l ≠ 0) : Calls Try.prog 106 #[.slice A n c] w (GetNo (needE l) w) := by
  have k0 := Blk.new w #[.int .u8 0, .int .u8 0, .int .u16 0, .int .u8 0, .int .u8 0, .int .u16 0, .int .u32 0, .int .u32 0, .int .u64 0, .slice none 0 0, .slice none 0 0, .slice none 0 0] 61
  have b0 : Below w.heap.size w (w.alloc (.cells #[.int .u8 0, .int .u8 0, .int .u16 0, .int .u8 0, .int .u8 0, .int .u16 0, .int .u32 0, .int .u32 0, .int .u64 0, .slice none 0 0, .slice none 0 0, .slice none 0 0] 61)) := below_a1' (Below.refl _ _) _
  have hN := fun W (r : Rd W W.heap.size A n c l) => rneed_any A n c l W r
  have e2 : needN l = 0 := by unfold needN; rw [if_neg he]
  rw [e2] at hN
  have tn := neInt' he
  generalize needE l = er at hN tn ⊢
  have HN := Lib.hid hN
  clear he hN e2
  go_enter Try.func106, Try.ntmps106
  go_wp2_with fail
  generalize w.alloc (.cells #[.int .u8 0, .int .u8 0, .int .u16 0, .int .u8 0, .int .u8 0, .int .u16 0, .int .u32 0, .int .u32 0, .int .u64 0, .slice none 0 0, .slice none 0 0, .slice none 0 0] 61) = W0 at k0 b0 ⊢
  refine (HN.out _ ((h.below b0).more b0.size)).mono ?_
  rintro e w1 ⟨rfl, b1⟩
  have kx := k0.step b1
  have b := below_step b0 b1
  obtain ⟨z0, z1, z2, z3, z4, z5, z6, z7, z8, z9, z10, z11⟩ := box12 kx
  have y0 := kx.frozen 0
  have y1 := kx.frozen 1
  have y2 := kx.frozen 2
  have y3 := kx.frozen 3
  have y4 := kx.frozen 4
  have y5 := kx.frozen 5
  have y6 := kx.frozen 6
  have y7 := kx.frozen 7
  have y8 := kx.frozen 8
  have y9 := kx.frozen 9
  have y10 := kx.frozen 10
  have y11 := kx.frozen 11
  have kf := blk_set12 kx (.int .u8 0) (.int .u8 0) (.int .u16 0) (.int .u8 0) (.int .u8 0) (.int .u16 0) (.int .u32 0) (.int .u32 0) (.int .u64 0) (.slice none 0 0) (.slice none 0 0) (.slice none 0 0)
  have hg := grown_set12 w1 w.heap.size (.int .u8 0) (.int .u8 0) (.int .u16 0) (.int .u8 0) (.int .u8 0) (.int .u16 0) (.int .u32 0) (.int .u32 0) (.int .u64 0) (.slice none 0 0) (.slice none 0 0) (.slice none 0 0)
  have bff := b.trans (below_grown hg (Nat.le_refl _) kx.lt)
  obtain ⟨t0, t1, t2, t3, t4, t5, t6, t7, t8, t9, t10, t11⟩ := box12 kf
  clear hg kf kx k0 b1
  go_wp2_with fail
  refine bodyPost_ret (v := .tuple #[.agg #[.int .u8 0, .int .u8 0, .int .u16 0, .int .u8 0, .int .u8 0, .int .u16 0, .int .u32 0, .int .u32 0, .int .u64 0, .slice none 0 0, .slice none 0 0, .slice none 0 0], .int .i64 0, .int .i64 er]) (by simp [results, Try.results106, go_sem, t0, t1, t2, t3, t4, t5, t6, t7, t8, t9, t10, t11]) rfl ?_
  exact ⟨rfl, bff⟩
set_option maxRecDepth 100000 in
set_option maxHeartbeats 2000000 in
theorem rget_short (A : Option Addr) (n c : Nat) (l : List UInt8) (w : World) (h : Rd w w.heap.size A n c l) (he : needE l = 0) (hs : n < needN l) : Calls Try.prog 106 #[.slice A n c] w (GetNo 9 w) := by
  have k0 := Blk.new w #[.int .u8 0, .int .u8 0, .int .u16 0, .int .u8 0, .int .u8 0, .int .u16 0, .int .u32 0, .int .u32 0, .int .u64 0, .slice none 0 0, .slice none 0 0, .slice none 0 0] 61
  have b0 : Below w.heap.size w (w.alloc (.cells #[.int .u8 0, .int .u8 0, .int .u16 0, .int .u8 0, .int .u8 0, .int .u16 0, .int .u32 0, .int .u32 0, .int .u64 0, .slice none 0 0, .slice none 0 0, .slice none 0 0] 61)) := below_a1' (Below.refl _ _) _
  have hN := fun W (r : Rd W W.heap.size A n c l) => rneed_any A n c l W r
  rw [he] at hN
  generalize needN l = N at hN hs
  have HN := Lib.hid hN
  clear he hN
  go_enter Try.func106, Try.ntmps106
  go_wp2_with fail
  generalize w.alloc (.cells #[.int .u8 0, .int .u8 0, .int .u16 0, .int .u8 0, .int .u8 0, .int .u16 0, .int .u32 0, .int .u32 0, .int .u64 0, .slice none 0 0, .slice none 0 0, .slice none 0 0] 61) = W0 at k0 b0 ⊢
  refine (HN.out _ ((h.below b0).more b0.size)).mono ?_
  rintro e w1 ⟨rfl, b1⟩
  have kx := k0.step b1
  have b := below_step b0 b1
  obtain ⟨z0, z1, z2, z3, z4, z5, z6, z7, z8, z9, z10, z11⟩ := box12 kx
  have y0 := kx.frozen 0
  have y1 := kx.frozen 1
  have y2 := kx.frozen 2
  have y3 := kx.frozen 3
  have y4 := kx.frozen 4
  have y5 := kx.frozen 5
  have y6 := kx.frozen 6
  have y7 := kx.frozen 7
  have y8 := kx.frozen 8
  have y9 := kx.frozen 9
  have y10 := kx.frozen 10
  have y11 := kx.frozen 11
  have kf := blk_set12 kx (.int .u8 0) (.int .u8 0) (.int .u16 0) (.int .u8 0) (.int .u8 0) (.int .u16 0) (.int .u32 0) (.int .u32 0) (.int .u64 0) (.slice none 0 0) (.slice none 0 0) (.slice none 0 0)
  have hg := grown_set12 w1 w.heap.size (.int .u8 0) (.int .u8 0) (.int .u16 0) (.int .u8 0) (.int .u8 0) (.int .u16 0) (.int .u32 0) (.int .u32 0) (.int .u64 0) (.slice none 0 0) (.slice none 0 0) (.slice none 0 0)
  have bff := b.trans (below_grown hg (Nat.le_refl _) kx.lt)
  obtain ⟨t0, t1, t2, t3, t4, t5, t6, t7, t8, t9, t10, t11⟩ := box12 kf
  clear hg kf kx k0 b1
  go_wp2_with fail
  refine bodyPost_ret (v := .tuple #[.agg #[.int .u8 0, .int .u8 0, .int .u16 0, .int .u8 0, .int .u8 0, .int .u16 0, .int .u32 0, .int .u32 0, .int .u64 0, .slice none 0 0, .slice none 0 0, .slice none 0 0], .int .i64 0, .int .i64 9]) (by simp [results, Try.results106, go_sem, t0, t1, t2, t3, t4, t5, t6, t7, t8, t9, t10, t11]) rfl ?_
  exact ⟨rfl, bff⟩
end
section
open Go.RowKit

/-- What Get tells where a frame stands. -/
def GetOk (l : List UInt8) (w : World) (e : Ending) (w' : World) : Prop := ∃ X cx K ck V cv, e = .returned (.tuple #[frV (fld l 0 1) (fld l 1 1) (fld l 2 2) (fld l 4 1) (fld l 5 1) (fld l 6 2) (fld l 8 4) (fld l 12 4) (fld l 16 8) (.slice X (fld l 4 1) cx) (.slice K (fld l 2 2) ck) (.slice V (fld l 8 4 - (fld l 4 1 + fld l 2 2)) cv), .int .i64 (24 + fld l 8 4 : Nat), .int .i64 0]) ∧
  Rd w' w'.heap.size X (fld l 4 1) cx ((l.drop 24).take (fld l 4 1)) ∧ Rd w' w'.heap.size K (fld l 2 2) ck (((l.drop 24).drop (fld l 4 1)).take (fld l 2 2)) ∧
  Rd w' w'.heap.size V (fld l 8 4 - (fld l 4 1 + fld l 2 2)) cv (((l.drop 24).take (fld l 8 4)).drop (fld l 4 1 + fld l 2 2)) ∧ Below w.heap.size w w'
theorem rd_drew {w : World} {A : Option Addr} {n c : Nat} {l : List UInt8} (h : Rd w w.heap.size A n c l) : Rd w.drew w.drew.heap.size A n c l := h
theorem need_0 {l : List UInt8} (h : needE l = 0) : 24 ≤ l.length ∧ mayB (fld l 0 1) (fld l 2 2) (fld l 4 1) (fld l 8 4) = true ∧ ¬ 2048 < fld l 8 4 := by
  unfold needE at h
  split at h
  · cases h
  · split at h
    · split at h
      · cases h
      · exact ⟨by omega, by assumption, by assumption⟩
    · cases h
theorem cut24 {w : World} {B n c bl : Nat} {a : Addr} {l : List UInt8} (h : Rd w B (some a) n c l) (hb : 24 + bl ≤ n) : Rd w B (if c = 24 then some a else some ⟨a.block, a.off + 24, none⟩) bl (c - 24) ((l.drop 24).take bl) := by
  have hh := h.cut (i := 24) (j := 24 + bl) (by omega) hb
  rw [List.drop_take, Nat.add_sub_cancel_left] at hh
  have ea : (some a).map (·.add 24) = some ⟨a.block, a.off + 24, none⟩ := by
    show some (a.add 24) = _
    unfold Addr.add
    rw [if_neg (by omega)]
  rw [ea] at hh
  exact hh
theorem mayB_le {m kl el bl : Nat} (h : mayB m kl el bl = true) : kl + el ≤ bl := by
  unfold mayB at h
  rw [Bool.and_eq_true] at h
  exact of_decide_eq_true h.2
set_option maxRecDepth 100000 in
set_option maxHeartbeats 4000000 in
theorem get_ok (A : Option Addr) (n c : Nat) (l : List UInt8) (w : World) (hA : Rd w w.heap.size A n c l) (he : needE l = 0) (hs : needN l ≤ n) : Calls Try.prog 51 #[.slice A n c] w (GetOk l w) := by
  have k0 := Blk.new w #[.int .u8 0, .int .u8 0, .int .u16 0, .int .u8 0, .int .u8 0, .int .u16 0, .int .u32 0, .int .u32 0, .int .u64 0, .slice none 0 0, .slice none 0 0, .slice none 0 0] 61
  have b0 : Below w.heap.size w (w.alloc (.cells #[.int .u8 0, .int .u8 0, .int .u16 0, .int .u8 0, .int .u8 0, .int .u16 0, .int .u32 0, .int .u32 0, .int .u64 0, .slice none 0 0, .slice none 0 0, .slice none 0 0] 61)) := below_a1' (Below.refl _ _) _
  obtain ⟨hn, hm, hb⟩ := need_0 he
  have e2 : needN l = 24 + fld l 8 4 := by unfold needN; rw [if_pos he]
  rw [e2] at hs
  have hle := mayB_le hm
  have hl := hA.len
  have hcap := hA.cap
  have hmax := hA.max
  unfold maxLen at hmax
  have hN := fun W (r : Rd W W.heap.size A n c l) => need_ok A n c l W r (by omega) hm hb
  have hG := fun W (r : Rd W W.heap.size A n c l) => gh_ok A n c l W r (by omega) hm
  obtain ⟨a, x, rfl, halt, -, -⟩ := hA.at_ (i := 0) (by omega)
  have HQ := Lib.hid (show ∀ e w', GetOk l w e w' ↔ GetOk l w e w' from fun _ _ => Iff.rfl)
  unfold GetOk at HQ ⊢
  have hel := fld_lt l 4 1
  have hkl := fld_lt l 2 2
  generalize fld l 0 1 = mg at hN hG ⊢
  generalize fld l 1 1 = op at hN hG ⊢
  generalize fld l 2 2 = kl at hN hG hle hkl ⊢
  generalize fld l 4 1 = el at hN hG hle hel ⊢
  generalize fld l 5 1 = ty at hN hG ⊢
  generalize fld l 6 2 = st at hN hG ⊢
  generalize fld l 8 4 = bl at hN hG hle hb hs ⊢
  generalize fld l 12 4 = oq at hN hG ⊢
  generalize fld l 16 8 = cas at hN hG ⊢
  have HN := Lib.hid hN
  have HG := Lib.hid hG
  clear he hN hG hm e2 HQ
  have hl24 : 24 ≤ n := by omega
  clear hn
  go_enter Try.func51, Try.ntmps51
  go_wp2_with fail
  generalize w.alloc (.cells #[.int .u8 0, .int .u8 0, .int .u16 0, .int .u8 0, .int .u8 0, .int .u16 0, .int .u32 0, .int .u32 0, .int .u64 0, .slice none 0 0, .slice none 0 0, .slice none 0 0] 61) = W0 at k0 b0 ⊢
  refine (HN.out _ ((hA.below b0).more b0.size)).mono ?_
  rintro e w1 ⟨rfl, b1⟩
  replace k0 := k0.step b1
  replace b0 := below_step b0 b1
  clear b1 HN
  go_wp2_with fail
  refine (HG.out _ ((hA.below b0).more b0.size)).mono ?_
  rintro e w2 ⟨rfl, b2⟩
  replace k0 := k0.step b2
  replace b0 := below_step b0 b2
  clear b2 HG
  have k1 := Blk.new w2 #[.int .u8 (mg : Nat), .int .u8 (op : Nat), .int .u16 (kl : Nat), .int .u8 (el : Nat), .int .u8 (ty : Nat), .int .u16 (st : Nat), .int .u32 (bl : Nat), .int .u32 (oq : Nat), .int .u64 (cas : Nat)] 59
  replace k0 := k0.alloc (.cells #[.int .u8 (mg : Nat), .int .u8 (op : Nat), .int .u16 (kl : Nat), .int .u8 (el : Nat), .int .u8 (ty : Nat), .int .u16 (st : Nat), .int .u32 (bl : Nat), .int .u32 (oq : Nat), .int .u64 (cas : Nat)] 59)
  replace b0 := below_a1' b0 (.cells #[.int .u8 (mg : Nat), .int .u8 (op : Nat), .int .u16 (kl : Nat), .int .u8 (el : Nat), .int .u8 (ty : Nat), .int .u16 (st : Nat), .int .u32 (bl : Nat), .int .u32 (oq : Nat), .int .u64 (cas : Nat)] 59)
  unfold hdV
  go_wp2_with fail
  case inl =>
    have rc := (cut24 hA hs).below b0
    rw [if_pos h, show c - 24 = 0 from by omega] at rc
    refine (clone_any _ bl _ _ _ _ rc b0.size (by omega)).mono ?_
    rintro e w3 ⟨A3, c3, rfl, o3, b3⟩
    have k1' := k0
    replace k0 := k0.step b3
    replace k1 := k1.step b3
    replace b0 := below_step b0 b3
    obtain ⟨q0, q1, q2, q3, q4, q5, q6, q7, q8⟩ := box9 k1
    clear rc b3
    go_wp2_with fail
    go_quiet (fail)
    go_wp2_with fail
    have k0d : Blk (w3.drewN nq) w.heap.size _ _ := k0
    have k1d : Blk (w3.drewN nq) w2.heap.size _ _ := k1
    have b0d : Below w.heap.size w (w3.drewN nq) := below_dN b0 nq
    have o3d : Own (w3.drewN nq) _ A3 bl c3 _ := o3
    have hB3 := k1'.lt
    clear q0 q1 q2 q3 q4 q5 q6 q7 q8 k0 k1 b0 o3
    generalize w3.drewN nq = W1 at k0d k1d b0d o3d ⊢
    obtain ⟨q0, q1, q2, q3, q4, q5, q6, q7, q8⟩ := box9 k1d
    obtain ⟨X, cx, HX, rX⟩ := slc_hm o3d.rd el (by omega)
    obtain ⟨K, ck, HK, rK⟩ := slc_lhm o3d.rd el (el + kl) (el : Int) ((el : Int) + (kl : Int)) rfl (by omega) (by omega) (by omega)
    obtain ⟨V, cv, HV, rV⟩ := slc_l o3d.rd (el + kl) ((el : Int) + (kl : Int)) (by omega) (by omega)
    rw [Nat.add_sub_cancel_left] at HK rK
    obtain ⟨z0, z1, z2, z3, z4, z5, z6, z7, z8, z9, z10, z11⟩ := box12 k0d
    have y0 := k0d.frozen 0
    have y1 := k0d.frozen 1
    have y2 := k0d.frozen 2
    have y3 := k0d.frozen 3
    have y4 := k0d.frozen 4
    have y5 := k0d.frozen 5
    have y6 := k0d.frozen 6
    have y7 := k0d.frozen 7
    have y8 := k0d.frozen 8
    have y9 := k0d.frozen 9
    have y10 := k0d.frozen 10
    have y11 := k0d.frozen 11
    have kf := blk_set12 k0d (.int .u8 (mg : Nat)) (.int .u8 (op : Nat)) (.int .u16 (kl : Nat)) (.int .u8 (el : Nat)) (.int .u8 (ty : Nat)) (.int .u16 (st : Nat)) (.int .u32 (bl : Nat)) (.int .u32 (oq : Nat)) (.int .u64 (cas : Nat)) (.slice X el cx) (.slice K kl ck) (.slice V (bl - (el + kl)) cv)
    have hg := grown_set12 W1 w.heap.size (.int .u8 (mg : Nat)) (.int .u8 (op : Nat)) (.int .u16 (kl : Nat)) (.int .u8 (el : Nat)) (.int .u8 (ty : Nat)) (.int .u16 (st : Nat)) (.int .u32 (bl : Nat)) (.int .u32 (oq : Nat)) (.int .u64 (cas : Nat)) (.slice X el cx) (.slice K kl ck) (.slice V (bl - (el + kl)) cv)
    have bff := b0d.trans (below_grown hg (Nat.le_refl _) k0d.lt)
    obtain ⟨t0, t1, t2, t3, t4, t5, t6, t7, t8, t9, t10, t11⟩ := box12 kf
    have o3f := o3d.kept hg hB3
    have gX := rX _ _ o3f.rd
    have gK := rK _ _ o3f.rd
    have gV := rV _ _ o3f.rd
    rw [List.take_take, Nat.min_eq_left (by omega)] at gX
    rw [List.take_take, Nat.min_eq_left (by omega), List.drop_take, Nat.add_sub_cancel_left] at gK
    clear kf hg o3d o3f rX rK rV
    go_region
    go_wp2_with fail
    refine bodyPost_ret (v := .tuple #[.agg #[.int .u8 (mg : Nat), .int .u8 (op : Nat), .int .u16 (kl : Nat), .int .u8 (el : Nat), .int .u8 (ty : Nat), .int .u16 (st : Nat), .int .u32 (bl : Nat), .int .u32 (oq : Nat), .int .u64 (cas : Nat), .slice X el cx, .slice K kl ck, .slice V (bl - (el + kl)) cv], .int .i64 (24 + (bl : Int)), .int .i64 0]) (by simp [results, Try.results51, go_sem, t0, t1, t2, t3, t4, t5, t6, t7, t8, t9, t10, t11]) rfl ?_
    exact ⟨X, cx, K, ck, V, cv, rfl, rd_drew gX, rd_drew gK, rd_drew gV, bff.drew⟩
  case inr =>
    have rc := (cut24 hA hs).below b0
    rw [if_neg h] at rc
    refine (clone_any _ bl _ _ _ _ rc b0.size (by omega)).mono ?_
    rintro e w3 ⟨A3, c3, rfl, o3, b3⟩
    have k1' := k0
    replace k0 := k0.step b3
    replace k1 := k1.step b3
    replace b0 := below_step b0 b3
    obtain ⟨q0, q1, q2, q3, q4, q5, q6, q7, q8⟩ := box9 k1
    clear rc b3
    go_wp2_with fail
    go_quiet (fail)
    go_wp2_with fail
    have k0d : Blk (w3.drewN nq) w.heap.size _ _ := k0
    have k1d : Blk (w3.drewN nq) w2.heap.size _ _ := k1
    have b0d : Below w.heap.size w (w3.drewN nq) := below_dN b0 nq
    have o3d : Own (w3.drewN nq) _ A3 bl c3 _ := o3
    have hB3 := k1'.lt
    clear q0 q1 q2 q3 q4 q5 q6 q7 q8 k0 k1 b0 o3
    generalize w3.drewN nq = W1 at k0d k1d b0d o3d ⊢
    obtain ⟨q0, q1, q2, q3, q4, q5, q6, q7, q8⟩ := box9 k1d
    obtain ⟨X, cx, HX, rX⟩ := slc_hm o3d.rd el (by omega)
    obtain ⟨K, ck, HK, rK⟩ := slc_lhm o3d.rd el (el + kl) (el : Int) ((el : Int) + (kl : Int)) rfl (by omega) (by omega) (by omega)
    obtain ⟨V, cv, HV, rV⟩ := slc_l o3d.rd (el + kl) ((el : Int) + (kl : Int)) (by omega) (by omega)
    rw [Nat.add_sub_cancel_left] at HK rK
    obtain ⟨z0, z1, z2, z3, z4, z5, z6, z7, z8, z9, z10, z11⟩ := box12 k0d
    have y0 := k0d.frozen 0
    have y1 := k0d.frozen 1
    have y2 := k0d.frozen 2
    have y3 := k0d.frozen 3
    have y4 := k0d.frozen 4
    have y5 := k0d.frozen 5
    have y6 := k0d.frozen 6
    have y7 := k0d.frozen 7
    have y8 := k0d.frozen 8
    have y9 := k0d.frozen 9
    have y10 := k0d.frozen 10
    have y11 := k0d.frozen 11
    have kf := blk_set12 k0d (.int .u8 (mg : Nat)) (.int .u8 (op : Nat)) (.int .u16 (kl : Nat)) (.int .u8 (el : Nat)) (.int .u8 (ty : Nat)) (.int .u16 (st : Nat)) (.int .u32 (bl : Nat)) (.int .u32 (oq : Nat)) (.int .u64 (cas : Nat)) (.slice X el cx) (.slice K kl ck) (.slice V (bl - (el + kl)) cv)
    have hg := grown_set12 W1 w.heap.size (.int .u8 (mg : Nat)) (.int .u8 (op : Nat)) (.int .u16 (kl : Nat)) (.int .u8 (el : Nat)) (.int .u8 (ty : Nat)) (.int .u16 (st : Nat)) (.int .u32 (bl : Nat)) (.int .u32 (oq : Nat)) (.int .u64 (cas : Nat)) (.slice X el cx) (.slice K kl ck) (.slice V (bl - (el + kl)) cv)
    have bff := b0d.trans (below_grown hg (Nat.le_refl _) k0d.lt)
    obtain ⟨t0, t1, t2, t3, t4, t5, t6, t7, t8, t9, t10, t11⟩ := box12 kf
    have o3f := o3d.kept hg hB3
    have gX := rX _ _ o3f.rd
    have gK := rK _ _ o3f.rd
    have gV := rV _ _ o3f.rd
    rw [List.take_take, Nat.min_eq_left (by omega)] at gX
    rw [List.take_take, Nat.min_eq_left (by omega), List.drop_take, Nat.add_sub_cancel_left] at gK
    clear kf hg o3d o3f rX rK rV
    go_region
    go_wp2_with fail
    refine bodyPost_ret (v := .tuple #[.agg #[.int .u8 (mg : Nat), .int .u8 (op : Nat), .int .u16 (kl : Nat), .int .u8 (el : Nat), .int .u8 (ty : Nat), .int .u16 (st : Nat), .int .u32 (bl : Nat), .int .u32 (oq : Nat), .int .u64 (cas : Nat), .slice X el cx, .slice K kl ck, .slice V (bl - (el + kl)) cv], .int .i64 (24 + (bl : Int)), .int .i64 0]) (by simp [results, Try.results51, go_sem, t0, t1, t2, t3, t4, t5, t6, t7, t8, t9, t10, t11]) rfl ?_
    exact ⟨X, cx, K, ck, V, cv, rfl, rd_drew gX, rd_drew gK, rd_drew gV, bff.drew⟩
end
section
open Go.RowKit

def BothQ (n : Nat) (l : List UInt8) (w : World) (e : Ending) (w' : World) : Prop := ∃ A' c', e = .returned (.slice A' n c') ∧ Own w' w.heap.size A' n c' l ∧ Below w.heap.size w w'
theorem both_nil (A : Option Addr) (n c B : Nat) (l : List UInt8) (w : World) (h : Rd w B A n c l) (hB : B ≤ w.heap.size) (hn : n ≤ 140737488355328) : Calls Try.prog 82 #[.slice A n c, .slice none 0 0] w (BothQ n l w) := by
  refine (both_any A none n c 0 0 B l [] w h (Rd.nil w B) hB (by omega)).mono ?_
  rintro e w' ⟨A', c', rfl, o, b⟩
  rw [Nat.add_zero, List.append_nil] at o
  exact ⟨A', c', by rw [Nat.add_zero], o, b⟩
set_option maxRecDepth 100000 in
set_option maxHeartbeats 4000000 in
theorem rget_ok (A : Option Addr) (n c : Nat) (l : List UInt8) (w : World) (hA : Rd w w.heap.size A n c l) (he : needE l = 0) (hs : needN l ≤ n) : Calls Try.prog 106 #[.slice A n c] w (GetOk l w) := by
  have k0 := Blk.new w #[.int .u8 0, .int .u8 0, .int .u16 0, .int .u8 0, .int .u8 0, .int .u16 0, .int .u32 0, .int .u32 0, .int .u64 0, .slice none 0 0, .slice none 0 0, .slice none 0 0] 61
  have b0 : Below w.heap.size w (w.alloc (.cells #[.int .u8 0, .int .u8 0, .int .u16 0, .int .u8 0, .int .u8 0, .int .u16 0, .int .u32 0, .int .u32 0, .int .u64 0, .slice none 0 0, .slice none 0 0, .slice none 0 0] 61)) := below_a1' (Below.refl _ _) _
  obtain ⟨hn, hm, hb⟩ := need_0 he
  have e2 : needN l = 24 + fld l 8 4 := by unfold needN; rw [if_pos he]
  rw [e2] at hs
  have hle := mayB_le hm
  have hl := hA.len
  have hN := fun W (r : Rd W W.heap.size A n c l) => rneed_ok A n c l W r (by omega) hm hb
  have hG := fun W (r : Rd W W.heap.size A n c l) => read19_any A n c l W r (by omega)
  unfold GetOk
  have hel := fld_lt l 4 1
  have hkl := fld_lt l 2 2
  generalize fld l 0 1 = mg at hN hG ⊢
  generalize fld l 1 1 = op at hN hG ⊢
  generalize fld l 2 2 = kl at hN hG hle hkl ⊢
  generalize fld l 4 1 = el at hN hG hle hel ⊢
  generalize fld l 5 1 = ty at hN hG ⊢
  generalize fld l 6 2 = st at hN hG ⊢
  generalize fld l 8 4 = bl at hN hG hle hb hs ⊢
  generalize fld l 12 4 = oq at hN hG ⊢
  generalize fld l 16 8 = cas at hN hG ⊢
  have HN := Lib.hid hN
  have HG := Lib.hid hG
  clear he hN hG hm e2
  have hl24 : 24 ≤ n := by omega
  clear hn
  obtain ⟨X, cx, HX, rX⟩ := slc_lh hA 24 (24 + el) 24 (24 + (el : Int)) rfl (by omega) (by omega) (by omega)
  obtain ⟨K, ck, HK, rK⟩ := slc_lh hA (24 + el) (24 + el + kl) (24 + (el : Int)) (24 + (el : Int) + (kl : Int)) (by omega) (by omega) (by omega) (by omega)
  obtain ⟨V, cv, HV, rV⟩ := slc_lh hA (24 + el + kl) (24 + bl) (24 + (el : Int) + (kl : Int)) (24 + (bl : Int)) (by omega) (by omega) (by omega) (by omega)
  have e24 : ∀ k : Nat, 24 + k - 24 = k := fun k => by omega
  rw [show 24 + el - 24 = el from by omega] at HX rX
  rw [show 24 + el + kl - (24 + el) = kl from by omega] at HK rK
  rw [show 24 + bl - (24 + el + kl) = bl - (el + kl) from by omega] at HV rV
  have eX : (l.take (24 + el)).drop 24 = (l.drop 24).take el := by rw [List.drop_take, Nat.add_sub_cancel_left]
  have eK : (l.take (24 + el + kl)).drop (24 + el) = ((l.drop 24).drop el).take kl := by rw [List.drop_take, Nat.add_sub_cancel_left, List.drop_drop]
  have eV : (l.take (24 + bl)).drop (24 + el + kl) = ((l.drop 24).take bl).drop (el + kl) := by
    rw [List.drop_take, List.drop_take, List.drop_drop, show 24 + (el + kl) = 24 + el + kl from by omega, show 24 + bl - (24 + el + kl) = bl - (el + kl) from by omega]
  rw [eX] at rX
  rw [eK] at rK
  rw [eV] at rV
  have RX := Lib.hid rX
  have RK := Lib.hid rK
  have RV := Lib.hid rV
  clear eX eK eV rX rK rV e24
  go_enter Try.func106, Try.ntmps106
  go_wp2_with fail
  generalize w.alloc (.cells #[.int .u8 0, .int .u8 0, .int .u16 0, .int .u8 0, .int .u8 0, .int .u16 0, .int .u32 0, .int .u32 0, .int .u64 0, .slice none 0 0, .slice none 0 0, .slice none 0 0] 61) = W0 at k0 b0 ⊢
  refine (HN.out _ ((hA.below b0).more b0.size)).mono ?_
  rintro e w1 ⟨rfl, b1⟩
  replace k0 := k0.step b1
  replace b0 := below_step b0 b1
  clear b1 HN
  go_wp2_with fail
  refine (HG.out _ ((hA.below b0).more b0.size)).mono ?_
  rintro e w2 ⟨rfl, b2⟩
  replace k0 := k0.step b2
  replace b0 := below_step b0 b2
  clear b2 HG
  have hne : w.heap.size < w2.heap.size := k0.lt
  have k1 := Blk.new w2 #[.int .u8 (mg : Nat), .int .u8 (op : Nat), .int .u16 (kl : Nat), .int .u8 (el : Nat), .int .u8 (ty : Nat), .int .u16 (st : Nat), .int .u32 (bl : Nat), .int .u32 (oq : Nat), .int .u64 (cas : Nat)] 59
  replace k0 := k0.alloc (.cells #[.int .u8 (mg : Nat), .int .u8 (op : Nat), .int .u16 (kl : Nat), .int .u8 (el : Nat), .int .u8 (ty : Nat), .int .u16 (st : Nat), .int .u32 (bl : Nat), .int .u32 (oq : Nat), .int .u64 (cas : Nat)] 59)
  replace b0 := below_a1' b0 (.cells #[.int .u8 (mg : Nat), .int .u8 (op : Nat), .int .u16 (kl : Nat), .int .u8 (el : Nat), .int .u8 (ty : Nat), .int .u16 (st : Nat), .int .u32 (bl : Nat), .int .u32 (oq : Nat), .int .u64 (cas : Nat)] 59)
  unfold hdV
  go_wp2_with fail
  generalize w2.alloc (.cells #[.int .u8 (mg : Nat), .int .u8 (op : Nat), .int .u16 (kl : Nat), .int .u8 (el : Nat), .int .u8 (ty : Nat), .int .u16 (st : Nat), .int .u32 (bl : Nat), .int .u32 (oq : Nat), .int .u64 (cas : Nat)] 59) = W1 at k0 k1 b0 ⊢
  have k0d : Blk W1.drew w.heap.size _ _ := k0
  have k1d : Blk W1.drew w2.heap.size _ _ := k1
  have b0d : Below w.heap.size w W1.drew := b0.drew
  have r0 : Rd W1.drew w.heap.size X el cx ((l.drop 24).take el) := RX.out _ _ (hA.below b0d)
  have s0 : w.heap.size ≤ W1.drew.heap.size := b0d.size
  clear k0 k1 b0
  obtain ⟨q0, q1, q2, q3, q4, q5, q6, q7, q8⟩ := box9 k1d
  go_region_held3 (fun w' => w'.cell? ⟨w2.heap.size, 0, none⟩ = some (.int .u8 (mg : Nat)) ∧ w'.cell? ⟨w2.heap.size, 1, none⟩ = some (.int .u8 (op : Nat)) ∧ w'.cell? ⟨w2.heap.size, 2, none⟩ = some (.int .u16 (kl : Nat)) ∧ w'.cell? ⟨w2.heap.size, 3, none⟩ = some (.int .u8 (el : Nat)) ∧ w'.cell? ⟨w2.heap.size, 4, none⟩ = some (.int .u8 (ty : Nat)) ∧ w'.cell? ⟨w2.heap.size, 5, none⟩ = some (.int .u16 (st : Nat)) ∧ w'.cell? ⟨w2.heap.size, 6, none⟩ = some (.int .u32 (bl : Nat)) ∧ w'.cell? ⟨w2.heap.size, 7, none⟩ = some (.int .u32 (oq : Nat)) ∧ w'.cell? ⟨w2.heap.size, 8, none⟩ = some (.int .u64 (cas : Nat))) (first | with_reducible exact ⟨q0, q1, q2, q3, q4, q5, q6, q7, q8⟩ | with_reducible exact ⟨p0, p1, p2, p3, p4, p5, p6, p7, p8⟩ | fail)
    (first
      | (go_at_call 82
         with_reducible refine (both_nil X el cx _ _ _ r0 s0 (by omega)).mono ?_
         rintro e w3 ⟨A3, c3, rfl, o3, b3⟩
         have hB3 := k0d.lt
         have k0 := k0d.step b3
         have k1 := k1d.step b3
         have b0 := below_step b0d b3
         clear q0 q1 q2 q3 q4 q5 q6 q7 q8 k0d k1d b0d r0 s0
         have r0 := RK.out _ _ (hA.below b0)
         obtain ⟨q0, q1, q2, q3, q4, q5, q6, q7, q8⟩ := box9 k1)
      | (go_at_call 82
         with_reducible refine (both_nil K kl ck _ _ _ r0 b0.size (by omega)).mono ?_
         rintro e w4 ⟨A4, c4, rfl, o4, b4⟩
         have hB4 := k0.lt
         replace k0 := k0.step b4
         replace k1 := k1.step b4
         replace b0 := below_step b0 b4
         replace o3 := o3.below b4
         clear q0 q1 q2 q3 q4 q5 q6 q7 q8 r0
         have r0 := RV.out _ _ (hA.below b0)
         obtain ⟨q0, q1, q2, q3, q4, q5, q6, q7, q8⟩ := box9 k1)
      | (go_at_call 82
         with_reducible refine (both_nil V (bl - (el + kl)) cv _ _ _ r0 b0.size (by omega)).mono ?_
         rintro e w5 ⟨A5, c5, rfl, o5, b5⟩
         have hB5 := k0.lt
         replace k0 := k0.step b5
         replace k1 := k1.step b5
         replace b0 := below_step b0 b5
         replace o3 := o3.below b5
         replace o4 := o4.below b5
         clear q0 q1 q2 q3 q4 q5 q6 q7 q8 r0
         obtain ⟨q0, q1, q2, q3, q4, q5, q6, q7, q8⟩ := box9 k1
         obtain ⟨z0, z1, z2, z3, z4, z5, z6, z7, z8, z9, z10, z11⟩ := box12 k0
         have y0 := k0.frozen 0
         have y1 := k0.frozen 1
         have y2 := k0.frozen 2
         have y3 := k0.frozen 3
         have y4 := k0.frozen 4
         have y5 := k0.frozen 5
         have y6 := k0.frozen 6
         have y7 := k0.frozen 7
         have y8 := k0.frozen 8
         have y9 := k0.frozen 9
         have y10 := k0.frozen 10
         have y11 := k0.frozen 11
         have kf := blk_set12 k0 (.int .u8 (mg : Nat)) (.int .u8 (op : Nat)) (.int .u16 (kl : Nat)) (.int .u8 (el : Nat)) (.int .u8 (ty : Nat)) (.int .u16 (st : Nat)) (.int .u32 (bl : Nat)) (.int .u32 (oq : Nat)) (.int .u64 (cas : Nat)) (.slice A3 el c3) (.slice A4 kl c4) (.slice A5 (bl - (el + kl)) c5)
         have hg := grown_set12 w5 w.heap.size (.int .u8 (mg : Nat)) (.int .u8 (op : Nat)) (.int .u16 (kl : Nat)) (.int .u8 (el : Nat)) (.int .u8 (ty : Nat)) (.int .u16 (st : Nat)) (.int .u32 (bl : Nat)) (.int .u32 (oq : Nat)) (.int .u64 (cas : Nat)) (.slice A3 el c3) (.slice A4 kl c4) (.slice A5 (bl - (el + kl)) c5)
         have kh : Blk _ w2.heap.size _ _ := (hg.block _ k1.lt (fun e => by injection e with e; omega)).trans k1
         have bff := b0.trans (below_grown hg (Nat.le_refl _) k0.lt)
         obtain ⟨p0, p1, p2, p3, p4, p5, p6, p7, p8⟩ := box9 kh
         obtain ⟨t0, t1, t2, t3, t4, t5, t6, t7, t8, t9, t10, t11⟩ := box12 kf
         clear kh)
      | fail)
  have gX := (o3.kept hg hB3).rd
  have gK := (o4.kept hg hB4).rd
  have gV := (o5.kept hg hB5).rd
  clear kf hg o3 o4 o5 p0 p1 p2 p3 p4 p5 p6 p7 p8 q0 q1 q2 q3 q4 q5 q6 q7 q8
  go_wp2_with fail
  refine bodyPost_ret (v := .tuple #[.agg #[.int .u8 (mg : Nat), .int .u8 (op : Nat), .int .u16 (kl : Nat), .int .u8 (el : Nat), .int .u8 (ty : Nat), .int .u16 (st : Nat), .int .u32 (bl : Nat), .int .u32 (oq : Nat), .int .u64 (cas : Nat), .slice A3 el c3, .slice A4 kl c4, .slice A5 (bl - (el + kl)) c5], .int .i64 (24 + (bl : Int)), .int .i64 0]) (by simp [results, Try.results106, go_sem, t0, t1, t2, t3, t4, t5, t6, t7, t8, t9, t10, t11]) rfl ?_
  exact ⟨A3, c3, A4, c4, A5, c5, rfl, gX, gK, gV, bff⟩
end
section
open Go.RowKit

/-- What a Get tells: a frame, how many bytes, an error. -/
def GetP (mg op kl el ty st bl oq cas nx nk nv : Nat) (lx lk lv : List UInt8) (N : Nat) (err : Int) (w : World) (e : Ending) (w' : World) : Prop := ∃ X cx K ck V cv, e = .returned (.tuple #[frV mg op kl el ty st bl oq cas (.slice X nx cx) (.slice K nk ck) (.slice V nv cv), .int .i64 (N : Int), .int .i64 err]) ∧
  Rd w' w'.heap.size X nx cx lx ∧ Rd w' w'.heap.size K nk ck lk ∧ Rd w' w'.heap.size V nv cv lv ∧ Below w.heap.size w w'
theorem getP_no {err : Int} {w : World} {e : Ending} {w' : World} (h : GetNo err w e w') : GetP 0 0 0 0 0 0 0 0 0 0 0 0 [] [] [] 0 err w e w' := by
  obtain ⟨rfl, b⟩ := h
  exact ⟨none, 0, none, 0, none, 0, rfl, Rd.nil _ _, Rd.nil _ _, Rd.nil _ _, b⟩
theorem getP_ok {l : List UInt8} {w : World} {e : Ending} {w' : World} (h : GetOk l w e w') : GetP (fld l 0 1) (fld l 1 1) (fld l 2 2) (fld l 4 1) (fld l 5 1) (fld l 6 2) (fld l 8 4) (fld l 12 4) (fld l 16 8) (fld l 4 1) (fld l 2 2) (fld l 8 4 - (fld l 4 1 + fld l 2 2)) ((l.drop 24).take (fld l 4 1)) (((l.drop 24).drop (fld l 4 1)).take (fld l 2 2)) (((l.drop 24).take (fld l 8 4)).drop (fld l 4 1 + fld l 2 2)) (24 + fld l 8 4) 0 w e w' := h
theorem gets_any (l : List UInt8) : ∃ (mg op kl el ty st bl oq cas nx nk nv : Nat) (lx lk lv : List UInt8) (N : Nat) (err : Int),
    (∀ A n c w, Rd w w.heap.size A n c l → Calls Try.prog 51 #[.slice A n c] w (GetP mg op kl el ty st bl oq cas nx nk nv lx lk lv N err w)) ∧
    (∀ A n c w, Rd w w.heap.size A n c l → Calls Try.prog 106 #[.slice A n c] w (GetP mg op kl el ty st bl oq cas nx nk nv lx lk lv N err w)) := by
  by_cases he : needE l = 0
  · by_cases hs : l.length < needN l
    · refine ⟨0, 0, 0, 0, 0, 0, 0, 0, 0, 0, 0, 0, [], [], [], 0, 9, fun A n c w r => ?_, fun A n c w r => ?_⟩
      · exact (get_short A n c l w r he (by rw [← r.len]; exact hs)).mono fun e w' h => getP_no h
      · exact (rget_short A n c l w r he (by rw [← r.len]; exact hs)).mono fun e w' h => getP_no h
    · exact ⟨_, _, _, _, _, _, _, _, _, _, _, _, _, _, _, _, _, fun A n c w r => (get_ok A n c l w r he (by rw [← r.len]; omega)).mono fun e w' h => getP_ok h, fun A n c w r => (rget_ok A n c l w r he (by rw [← r.len]; omega)).mono fun e w' h => getP_ok h⟩
  · refine ⟨0, 0, 0, 0, 0, 0, 0, 0, 0, 0, 0, 0, [], [], [], 0, needE l, fun A n c w r => ?_, fun A n c w r => ?_⟩
    · exact (get_no A n c l w r he).mono fun e w' h => getP_no h
    · exact (rget_no A n c l w r he).mono fun e w' h => getP_no h
end
end Go.Proofs.Ytnghmgbmflcngaa

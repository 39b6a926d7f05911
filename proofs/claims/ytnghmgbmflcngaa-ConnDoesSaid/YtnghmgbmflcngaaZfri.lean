/- Merged texts: Fri, Frn, Fro, Frq, Frs, Frt, Fru. Conditions: typed in each theorem. -/
import Derived.Test.YtnghmgbmflcngaaZfre
import Derived.StillTailTactics
import Derived.Test.YtnghmgbmflcngaaZhld
import Derived.Deep.RegionHeld3
namespace Go.Proofs.Ytnghmgbmflcngaa
set_option linter.unusedVariables false
section
open Go.RowKit
theorem fld_one {l : List UInt8} {o : Nat} {x : UInt8} (h : l[o]? = some x) : fld l o 1 = x.toNat := by
  unfold fld
  obtain ⟨h1, h2⟩ := List.getElem?_eq_some_iff.1 h
  rw [List.drop_eq_getElem_cons h1, h2]
  simp [numB]
theorem rd_byte {w : World} {B n c : Nat} {a : Addr} {l : List UInt8} (h : Rd w B (some a) n c l) (o : Nat) (ho : o < n) : w.cell? (a.add o) = some (.int .u8 (fld l o 1 : Nat)) := by
  obtain ⟨ad, x, e, -, hx, hc⟩ := h.at_ ho
  obtain rfl : a = ad := by injection e
  rw [hc, fld_one hx]
theorem number_at {W : World} {B n c : Nat} {a : Addr} {l : List UInt8} (h : Rd W B (some a) n c l) (i k : Nat) (hk : k ≤ 8) (hi : 0 < i) (hj : i + k ≤ n) (hc : i < c) (v : Nat) (hv : v = fld l i k) :
    Calls Try.prog 107 #[.slice (some ⟨a.block, a.off + i, none⟩) k (c - i)] W fun e w' => e = .returned (.int .u64 (v : Nat)) ∧ W = w' := by
  have hh := h.cut (i := i) (j := i + k) (by omega) hj
  rw [if_neg (by omega), List.drop_take, Nat.add_sub_cancel_left] at hh
  have ea : (some a).map (·.add i) = some ⟨a.block, a.off + i, none⟩ := by
    show some (a.add i) = _
    unfold Addr.add
    rw [if_neg (by omega)]
  rw [ea] at hh
  have := number_any _ k (c - i) B _ W hh
  rw [numQ_small (by rw [List.length_take]; omega)] at this
  rw [hv]
  exact this
set_option maxRecDepth 100000 in
set_option maxHeartbeats 4000000 in
theorem read19_any (A : Option Addr) (n c : Nat) (l : List UInt8) (w : World) (h : Rd w w.heap.size A n c l) (hn : 24 ≤ n) :
    Calls Try.prog 118 #[.slice A n c] w (BoxQ (hdV (fld l 0 1) (fld l 1 1) (fld l 2 2) (fld l 4 1) (fld l 5 1) (fld l 6 2) (fld l 8 4) (fld l 12 4) (fld l 16 8)) w) := by
  have hF := hdF_of l
  have hcap := h.cap
  have hmax := h.max
  unfold maxLen at hmax
  obtain ⟨a, x, rfl, halt, -, -⟩ := h.at_ (i := 0) (by omega)
  have k0 := Blk.new w #[.int .u8 0, .int .u8 0, .int .u16 0, .int .u8 0, .int .u8 0, .int .u16 0, .int .u32 0, .int .u32 0, .int .u64 0] 59
  have b0 : Below w.heap.size w (w.alloc (.cells #[.int .u8 0, .int .u8 0, .int .u16 0, .int .u8 0, .int .u8 0, .int .u16 0, .int .u32 0, .int .u32 0, .int .u64 0] 59)) := below_a1' (Below.refl _ _) _
  have r0 := h.below b0
  go_enter Try.func118, Try.ntmps118
  go_wp2_with fail
  generalize w.alloc (.cells #[.int .u8 0, .int .u8 0, .int .u16 0, .int .u8 0, .int .u8 0, .int .u16 0, .int .u32 0, .int .u32 0, .int .u64 0] 59) = W0 at k0 b0 r0 ⊢
  have rd : Rd W0.drew w.heap.size (some a) n c l := r0.drewN 1
  have k1 : Blk W0.drew w.heap.size #[.int .u8 0, .int .u8 0, .int .u16 0, .int .u8 0, .int .u8 0, .int .u16 0, .int .u32 0, .int .u32 0, .int .u64 0] 59 := k0
  have b1 : Below w.heap.size w W0.drew := b0.drew
  refine wp_region_still_tail 32 (by kernel_rfl) (by kernel_rfl) ?_
  change wpStill _ _ W0.drew (fun a' => wpList _ _ _ _ a' W0.drew) _ _
  generalize W0.drew = W1 at rd k1 b1 ⊢
  clear k0 b0 r0
  have qmg : W1.cell? a = some (.int .u8 (fld l 0 1 : Nat)) := rd_byte rd 0 (by omega)
  have qop : W1.cell? ⟨a.block, a.off + 1, none⟩ = some (.int .u8 (fld l 1 1 : Nat)) := rd_byte rd 1 (by omega)
  have qel : W1.cell? ⟨a.block, a.off + 4, none⟩ = some (.int .u8 (fld l 4 1 : Nat)) := rd_byte rd 4 (by omega)
  have qty : W1.cell? ⟨a.block, a.off + 5, none⟩ = some (.int .u8 (fld l 5 1 : Nat)) := rd_byte rd 5 (by omega)
  have Ckl := Lib.hid (number_at rd 2 2 (by omega) (by omega) (by omega) (by omega) (fld l 2 2) rfl)
  have Cst := Lib.hid (number_at rd 6 2 (by omega) (by omega) (by omega) (by omega) (fld l 6 2) rfl)
  have Cbl := Lib.hid (number_at rd 8 4 (by omega) (by omega) (by omega) (by omega) (fld l 8 4) rfl)
  have Coq := Lib.hid (number_at rd 12 4 (by omega) (by omega) (by omega) (by omega) (fld l 12 4) rfl)
  have Ccas := Lib.hid (number_at rd 16 8 (by omega) (by omega) (by omega) (by omega) (fld l 16 8) rfl)
  generalize emg : fld l 0 1 = mg at hF qmg
  have Emg := Lib.hid emg
  clear emg
  generalize eop : fld l 1 1 = op at hF qop
  have Eop := Lib.hid eop
  clear eop
  generalize ekl : fld l 2 2 = kl at hF Ckl
  have Ekl := Lib.hid ekl
  clear ekl
  generalize eel : fld l 4 1 = el at hF qel
  have Eel := Lib.hid eel
  clear eel
  generalize ety : fld l 5 1 = ty at hF qty
  have Ety := Lib.hid ety
  clear ety
  generalize est : fld l 6 2 = st at hF Cst
  have Est := Lib.hid est
  clear est
  generalize ebl : fld l 8 4 = bl at hF Cbl
  have Ebl := Lib.hid ebl
  clear ebl
  generalize eoq : fld l 12 4 = oq at hF Coq
  have Eoq := Lib.hid eoq
  clear eoq
  generalize ecas : fld l 16 8 = cas at hF Ccas
  have Ecas := Lib.hid ecas
  clear ecas
  obtain ⟨f0, f1, f2, f3, f4, f5, f6, f7, f8⟩ := hF
  have Wkl : IntKind.u16.wrap (kl : Int) = (kl : Int) := IntWalk.u16_in _ (by omega)
  have Wst : IntKind.u16.wrap (st : Int) = (st : Int) := IntWalk.u16_in _ (by omega)
  have Wbl : IntKind.u32.wrap (bl : Int) = (bl : Int) := IntWalk.u32_in _ (by omega)
  have Woq : IntKind.u32.wrap (oq : Int) = (oq : Int) := IntWalk.u32_in _ (by omega)
  have j0 : 0 < n := by omega
  have i0 : (0 : Int) < (n : Int) := by omega
  have j1 : 1 < n := by omega
  have i1 : (1 : Int) < (n : Int) := by omega
  have j4 : 4 < n := by omega
  have i4 : (4 : Int) < (n : Int) := by omega
  have j5 : 5 < n := by omega
  have i5 : (5 : Int) < (n : Int) := by omega
  have d2 : c ≠ 2 := by omega
  have d4 : c ≠ 4 := by omega
  have d6 : c ≠ 6 := by omega
  have d8 : c ≠ 8 := by omega
  have d12 : c ≠ 12 := by omega
  have d16 : c ≠ 16 := by omega
  have l4 : (4 : Int) ≤ (c : Int) := by omega
  have l8 : (8 : Int) ≤ (c : Int) := by omega
  have l12 : (12 : Int) ≤ (c : Int) := by omega
  have l16 : (16 : Int) ≤ (c : Int) := by omega
  have l24 : (24 : Int) ≤ (c : Int) := by omega
  have hg := grown_set9 W1 w.heap.size (.int .u8 (mg : Nat)) (.int .u8 (op : Nat)) (.int .u16 (kl : Nat)) (.int .u8 (el : Nat)) (.int .u8 (ty : Nat)) (.int .u16 (st : Nat)) (.int .u32 (bl : Nat)) (.int .u32 (oq : Nat)) (.int .u64 (cas : Nat))
  have bff := b1.trans (below_grown hg (Nat.le_refl _) k1.lt)
  have kf := blk_set9 k1 (.int .u8 (mg : Nat)) (.int .u8 (op : Nat)) (.int .u16 (kl : Nat)) (.int .u8 (el : Nat)) (.int .u8 (ty : Nat)) (.int .u16 (st : Nat)) (.int .u32 (bl : Nat)) (.int .u32 (oq : Nat)) (.int .u64 (cas : Nat))
  obtain ⟨z0, z1, z2, z3, z4, z5, z6, z7, z8⟩ := box9 k1
  obtain ⟨t0, t1, t2, t3, t4, t5, t6, t7, t8⟩ := box9 kf
  have y0 := k1.frozen 0
  have y1 := k1.frozen 1
  have y2 := k1.frozen 2
  have y3 := k1.frozen 3
  have y4 := k1.frozen 4
  have y5 := k1.frozen 5
  have y6 := k1.frozen 6
  have y7 := k1.frozen 7
  have y8 := k1.frozen 8
  have HBF := Lib.hid bff
  clear rd h hg kf bff k1 b1
  simp only [List.take_succ_cons, List.take_zero, List.drop_succ_cons, List.drop_zero]
  repeat still_step
  still_call (Ckl.out.mono fun _ _ h => ⟨h.1, h.2.symm⟩)
  repeat still_step
  still_call (Cst.out.mono fun _ _ h => ⟨h.1, h.2.symm⟩)
  repeat still_step
  still_call (Cbl.out.mono fun _ _ h => ⟨h.1, h.2.symm⟩)
  repeat still_step
  still_call (Coq.out.mono fun _ _ h => ⟨h.1, h.2.symm⟩)
  repeat still_step
  still_call (Ccas.out.mono fun _ _ h => ⟨h.1, h.2.symm⟩)
  repeat still_step
  refine wpStill_nil ?_
  go_wp2_with fail
  refine bodyPost_ret (v := .agg #[.int .u8 (mg : Nat), .int .u8 (op : Nat), .int .u16 (kl : Nat), .int .u8 (el : Nat), .int .u8 (ty : Nat), .int .u16 (st : Nat), .int .u32 (bl : Nat), .int .u32 (oq : Nat), .int .u64 (cas : Nat)]) (by simp [results, Try.results118, go_sem, t0, t1, t2, t3, t4, t5, t6, t7, t8]) rfl ?_
  exact ⟨by rw [Emg.out, Eop.out, Ekl.out, Eel.out, Ety.out, Est.out, Ebl.out, Eoq.out, Ecas.out]; rfl, HBF.out⟩
end
section
open Go.RowKit
def needE (l : List UInt8) : Int := if l.length < 24 then 9 else if mayB (fld l 0 1) (fld l 2 2) (fld l 4 1) (fld l 8 4) = true then (if 2048 < fld l 8 4 then 3 else 0) else 290
def needN (l : List UInt8) : Nat := if needE l = 0 then 24 + fld l 8 4 else 0
def NeedQ (k : Int) (err : Int) (w : World) (e : Ending) (w' : World) : Prop := e = .returned (.tuple #[.int .i64 k, .int .i64 err]) ∧ Below w.heap.size w w'
set_option maxRecDepth 100000 in
theorem need_short (A : Option Addr) (n c : Nat) (w : World) (hn : n < 24) : Calls Try.prog 96 #[.slice A n c] w (NeedQ 0 9 w) := by
  go_enter Try.func96, Try.ntmps96
  go_wp2_with fail
  refine (gh_short A n c hn _).mono ?_
  rintro e w1 ⟨rfl, b1⟩
  unfold zeroHd
  go_wp2_with fail
  go_ret2
  exact ⟨rfl, below_a1' b1 _⟩
set_option maxRecDepth 100000 in
theorem need_bad (A : Option Addr) (n c : Nat) (l : List UInt8) (w : World) (h : Rd w w.heap.size A n c l) (hn : 24 ≤ n) (hm : mayB (fld l 0 1) (fld l 2 2) (fld l 4 1) (fld l 8 4) = false) : Calls Try.prog 96 #[.slice A n c] w (NeedQ 0 290 w) := by
  have HG := Lib.hid (gh_bad A n c l w h hn hm)
  clear hm
  go_enter Try.func96, Try.ntmps96
  go_wp2_with fail
  refine HG.out.mono ?_
  rintro e w1 ⟨rfl, b1⟩
  unfold zeroHd
  go_wp2_with fail
  go_ret2
  exact ⟨rfl, below_a1' b1 _⟩
set_option maxRecDepth 100000 in
set_option maxHeartbeats 1000000 in
theorem need_long (A : Option Addr) (n c : Nat) (l : List UInt8) (w : World) (h : Rd w w.heap.size A n c l) (hn : 24 ≤ n) (hm : mayB (fld l 0 1) (fld l 2 2) (fld l 4 1) (fld l 8 4) = true) (hb : 2048 < fld l 8 4) : Calls Try.prog 96 #[.slice A n c] w (NeedQ 0 3 w) := by
  have hG := gh_ok A n c l w h hn hm
  generalize fld l 8 4 = a6 at hG hb
  have HG := Lib.hid hG
  clear hm hG
  go_enter Try.func96, Try.ntmps96
  go_wp2_with fail
  refine HG.out.mono ?_
  rintro e w1 ⟨rfl, b1⟩
  unfold hdV
  go_wp2_with fail
  go_ret2
  exact ⟨rfl, below_a1' b1 _⟩
set_option maxRecDepth 100000 in
set_option maxHeartbeats 1000000 in
theorem need_ok (A : Option Addr) (n c : Nat) (l : List UInt8) (w : World) (h : Rd w w.heap.size A n c l) (hn : 24 ≤ n) (hm : mayB (fld l 0 1) (fld l 2 2) (fld l 4 1) (fld l 8 4) = true) (hb : ¬ 2048 < fld l 8 4) : Calls Try.prog 96 #[.slice A n c] w (NeedQ (24 + (fld l 8 4 : Nat)) 0 w) := by
  have hG := gh_ok A n c l w h hn hm
  generalize fld l 8 4 = a6 at hG hb ⊢
  have HG := Lib.hid hG
  clear hm hG
  go_enter Try.func96, Try.ntmps96
  go_wp2_with fail
  refine HG.out.mono ?_
  rintro e w1 ⟨rfl, b1⟩
  unfold hdV
  go_wp2_with fail
  go_ret2
  exact ⟨rfl, below_a1' b1 _⟩
theorem need_any (A : Option Addr) (n c : Nat) (l : List UInt8) (w : World) (h : Rd w w.heap.size A n c l) : Calls Try.prog 96 #[.slice A n c] w (NeedQ (needN l : Nat) (needE l) w) := by
  have hl := h.len
  by_cases hn : n < 24
  · have e1 : needE l = 9 := by unfold needE; rw [if_pos (by omega)]
    have e2 : needN l = 0 := by unfold needN; rw [e1]; rfl
    rw [e1, e2]
    exact need_short A n c w hn
  by_cases hm : mayB (fld l 0 1) (fld l 2 2) (fld l 4 1) (fld l 8 4) = true
  · by_cases hb : 2048 < fld l 8 4
    · have e1 : needE l = 3 := by unfold needE; rw [if_neg (by omega), if_pos hm, if_pos hb]
      have e2 : needN l = 0 := by unfold needN; rw [e1]; rfl
      rw [e1, e2]
      exact need_long A n c l w h (by omega) hm hb
    · have e1 : needE l = 0 := by unfold needE; rw [if_neg (by omega), if_pos hm, if_neg hb]
      have e2 : needN l = 24 + fld l 8 4 := by unfold needN; rw [if_pos e1]
      rw [e1, e2, Int.natCast_add]
      exact need_ok A n c l w h (by omega) hm hb
  · have e1 : needE l = 290 := by unfold needE; rw [if_neg (by omega), if_neg hm]
    have e2 : needN l = 0 := by unfold needN; rw [e1]; rfl
    rw [e1, e2]
    exact need_bad A n c l w h (by omega) (by simpa using hm)
end
section
open Go.RowKit
end
section
open Go.RowKit
end
section
open Go.RowKit
def GetOk (l : List UInt8) (w : World) (e : Ending) (w' : World) : Prop := ∃ X cx K ck V cv, e = .returned (.tuple #[frV (fld l 0 1) (fld l 1 1) (fld l 2 2) (fld l 4 1) (fld l 5 1) (fld l 6 2) (fld l 8 4) (fld l 12 4) (fld l 16 8) (.slice X (fld l 4 1) cx) (.slice K (fld l 2 2) ck) (.slice V (fld l 8 4 - (fld l 4 1 + fld l 2 2)) cv), .int .i64 (24 + fld l 8 4 : Nat), .int .i64 0]) ∧
  Rd w' w'.heap.size X (fld l 4 1) cx ((l.drop 24).take (fld l 4 1)) ∧ Rd w' w'.heap.size K (fld l 2 2) ck (((l.drop 24).drop (fld l 4 1)).take (fld l 2 2)) ∧
  Rd w' w'.heap.size V (fld l 8 4 - (fld l 4 1 + fld l 2 2)) cv (((l.drop 24).take (fld l 8 4)).drop (fld l 4 1 + fld l 2 2)) ∧ Below w.heap.size w w'
theorem rd_drew {w : World} {A : Option Addr} {n c : Nat} {l : List UInt8} (h : Rd w w.heap.size A n c l) : Rd w.drew w.drew.heap.size A n c l := h
theorem need_0 {l : List UInt8} (h : needE l = 0) : 24 ≤ l.length ∧ mayB (fld l 0 1) (fld l 2 2) (fld l 4 1) (fld l 8 4) = true ∧ ¬ 2048 < fld l 8 4 := by
  unfold needE at h
  split at h
  · cases h
  · split at h
    · split at h
      · cases h
      · exact ⟨by omega, by assumption, by assumption⟩
    · cases h
theorem cut24 {w : World} {B n c bl : Nat} {a : Addr} {l : List UInt8} (h : Rd w B (some a) n c l) (hb : 24 + bl ≤ n) : Rd w B (if c = 24 then some a else some ⟨a.block, a.off + 24, none⟩) bl (c - 24) ((l.drop 24).take bl) := by
  have hh := h.cut (i := 24) (j := 24 + bl) (by omega) hb
  rw [List.drop_take, Nat.add_sub_cancel_left] at hh
  have ea : (some a).map (·.add 24) = some ⟨a.block, a.off + 24, none⟩ := by
    show some (a.add 24) = _
    unfold Addr.add
    rw [if_neg (by omega)]
  rw [ea] at hh
  exact hh
theorem mayB_le {m kl el bl : Nat} (h : mayB m kl el bl = true) : kl + el ≤ bl := by
  unfold mayB at h
  rw [Bool.and_eq_true] at h
  exact of_decide_eq_true h.2
set_option maxRecDepth 100000 in
set_option maxHeartbeats 4000000 in
theorem get_ok (A : Option Addr) (n c : Nat) (l : List UInt8) (w : World) (hA : Rd w w.heap.size A n c l) (he : needE l = 0) (hs : needN l ≤ n) : Calls Try.prog 51 #[.slice A n c] w (GetOk l w) := by
  have k0 := Blk.new w #[.int .u8 0, .int .u8 0, .int .u16 0, .int .u8 0, .int .u8 0, .int .u16 0, .int .u32 0, .int .u32 0, .int .u64 0, .slice none 0 0, .slice none 0 0, .slice none 0 0] 61
  have b0 : Below w.heap.size w (w.alloc (.cells #[.int .u8 0, .int .u8 0, .int .u16 0, .int .u8 0, .int .u8 0, .int .u16 0, .int .u32 0, .int .u32 0, .int .u64 0, .slice none 0 0, .slice none 0 0, .slice none 0 0] 61)) := below_a1' (Below.refl _ _) _
  obtain ⟨hn, hm, hb⟩ := need_0 he
  have e2 : needN l = 24 + fld l 8 4 := by unfold needN; rw [if_pos he]
  rw [e2] at hs
  have hle := mayB_le hm
  have hl := hA.len
  have hcap := hA.cap
  have hmax := hA.max
  unfold maxLen at hmax
  have hN := fun W (r : Rd W W.heap.size A n c l) => need_ok A n c l W r (by omega) hm hb
  have hG := fun W (r : Rd W W.heap.size A n c l) => gh_ok A n c l W r (by omega) hm
  obtain ⟨a, x, rfl, halt, -, -⟩ := hA.at_ (i := 0) (by omega)
  have HQ := Lib.hid (show ∀ e w', GetOk l w e w' ↔ GetOk l w e w' from fun _ _ => Iff.rfl)
  unfold GetOk at HQ ⊢
  have hel := fld_lt l 4 1
  have hkl := fld_lt l 2 2
  generalize fld l 0 1 = mg at hN hG ⊢
  generalize fld l 1 1 = op at hN hG ⊢
  generalize fld l 2 2 = kl at hN hG hle hkl ⊢
  generalize fld l 4 1 = el at hN hG hle hel ⊢
  generalize fld l 5 1 = ty at hN hG ⊢
  generalize fld l 6 2 = st at hN hG ⊢
  generalize fld l 8 4 = bl at hN hG hle hb hs ⊢
  generalize fld l 12 4 = oq at hN hG ⊢
  generalize fld l 16 8 = cas at hN hG ⊢
  have HN := Lib.hid hN
  have HG := Lib.hid hG
  clear he hN hG hm e2 HQ
  have hl24 : 24 ≤ n := by omega
  clear hn
  go_enter Try.func51, Try.ntmps51
  go_wp2_with fail
  generalize w.alloc (.cells #[.int .u8 0, .int .u8 0, .int .u16 0, .int .u8 0, .int .u8 0, .int .u16 0, .int .u32 0, .int .u32 0, .int .u64 0, .slice none 0 0, .slice none 0 0, .slice none 0 0] 61) = W0 at k0 b0 ⊢
  refine (HN.out _ ((hA.below b0).more b0.size)).mono ?_
  rintro e w1 ⟨rfl, b1⟩
  replace k0 := k0.step b1
  replace b0 := below_step b0 b1
  clear b1 HN
  go_wp2_with fail
  refine (HG.out _ ((hA.below b0).more b0.size)).mono ?_
  rintro e w2 ⟨rfl, b2⟩
  replace k0 := k0.step b2
  replace b0 := below_step b0 b2
  clear b2 HG
  have k1 := Blk.new w2 #[.int .u8 (mg : Nat), .int .u8 (op : Nat), .int .u16 (kl : Nat), .int .u8 (el : Nat), .int .u8 (ty : Nat), .int .u16 (st : Nat), .int .u32 (bl : Nat), .int .u32 (oq : Nat), .int .u64 (cas : Nat)] 59
  replace k0 := k0.alloc (.cells #[.int .u8 (mg : Nat), .int .u8 (op : Nat), .int .u16 (kl : Nat), .int .u8 (el : Nat), .int .u8 (ty : Nat), .int .u16 (st : Nat), .int .u32 (bl : Nat), .int .u32 (oq : Nat), .int .u64 (cas : Nat)] 59)
  replace b0 := below_a1' b0 (.cells #[.int .u8 (mg : Nat), .int .u8 (op : Nat), .int .u16 (kl : Nat), .int .u8 (el : Nat), .int .u8 (ty : Nat), .int .u16 (st : Nat), .int .u32 (bl : Nat), .int .u32 (oq : Nat), .int .u64 (cas : Nat)] 59)
  unfold hdV
  go_wp2_with fail
  case inl =>
    have rc := (cut24 hA hs).below b0
    rw [if_pos h, show c - 24 = 0 from by omega] at rc
    refine (clone_any _ bl _ _ _ _ rc b0.size (by omega)).mono ?_
    rintro e w3 ⟨A3, c3, rfl, o3, b3⟩
    have k1' := k0
    replace k0 := k0.step b3
    replace k1 := k1.step b3
    replace b0 := below_step b0 b3
    obtain ⟨q0, q1, q2, q3, q4, q5, q6, q7, q8⟩ := box9 k1
    clear rc b3
    go_wp2_with fail
    go_quiet (fail)
    go_wp2_with fail
    have k0d : Blk (w3.drewN nq) w.heap.size _ _ := k0
    have k1d : Blk (w3.drewN nq) w2.heap.size _ _ := k1
    have b0d : Below w.heap.size w (w3.drewN nq) := below_dN b0 nq
    have o3d : Own (w3.drewN nq) _ A3 bl c3 _ := o3
    have hB3 := k1'.lt
    clear q0 q1 q2 q3 q4 q5 q6 q7 q8 k0 k1 b0 o3
    generalize w3.drewN nq = W1 at k0d k1d b0d o3d ⊢
    obtain ⟨q0, q1, q2, q3, q4, q5, q6, q7, q8⟩ := box9 k1d
    obtain ⟨X, cx, HX, rX⟩ := slc_hm o3d.rd el (by omega)
    obtain ⟨K, ck, HK, rK⟩ := slc_lhm o3d.rd el (el + kl) (el : Int) ((el : Int) + (kl : Int)) rfl (by omega) (by omega) (by omega)
    obtain ⟨V, cv, HV, rV⟩ := slc_l o3d.rd (el + kl) ((el : Int) + (kl : Int)) (by omega) (by omega)
    rw [Nat.add_sub_cancel_left] at HK rK
    obtain ⟨z0, z1, z2, z3, z4, z5, z6, z7, z8, z9, z10, z11⟩ := box12 k0d
    have y0 := k0d.frozen 0
    have y1 := k0d.frozen 1
    have y2 := k0d.frozen 2
    have y3 := k0d.frozen 3
    have y4 := k0d.frozen 4
    have y5 := k0d.frozen 5
    have y6 := k0d.frozen 6
    have y7 := k0d.frozen 7
    have y8 := k0d.frozen 8
    have y9 := k0d.frozen 9
    have y10 := k0d.frozen 10
    have y11 := k0d.frozen 11
    have kf := blk_set12 k0d (.int .u8 (mg : Nat)) (.int .u8 (op : Nat)) (.int .u16 (kl : Nat)) (.int .u8 (el : Nat)) (.int .u8 (ty : Nat)) (.int .u16 (st : Nat)) (.int .u32 (bl : Nat)) (.int .u32 (oq : Nat)) (.int .u64 (cas : Nat)) (.slice X el cx) (.slice K kl ck) (.slice V (bl - (el + kl)) cv)
    have hg := grown_set12 W1 w.heap.size (.int .u8 (mg : Nat)) (.int .u8 (op : Nat)) (.int .u16 (kl : Nat)) (.int .u8 (el : Nat)) (.int .u8 (ty : Nat)) (.int .u16 (st : Nat)) (.int .u32 (bl : Nat)) (.int .u32 (oq : Nat)) (.int .u64 (cas : Nat)) (.slice X el cx) (.slice K kl ck) (.slice V (bl - (el + kl)) cv)
    have bff := b0d.trans (below_grown hg (Nat.le_refl _) k0d.lt)
    obtain ⟨t0, t1, t2, t3, t4, t5, t6, t7, t8, t9, t10, t11⟩ := box12 kf
    have o3f := o3d.kept hg hB3
    have gX := rX _ _ o3f.rd
    have gK := rK _ _ o3f.rd
    have gV := rV _ _ o3f.rd
    rw [List.take_take, Nat.min_eq_left (by omega)] at gX
    rw [List.take_take, Nat.min_eq_left (by omega), List.drop_take, Nat.add_sub_cancel_left] at gK
    clear kf hg o3d o3f rX rK rV
    go_region
    go_wp2_with fail
    refine bodyPost_ret (v := .tuple #[.agg #[.int .u8 (mg : Nat), .int .u8 (op : Nat), .int .u16 (kl : Nat), .int .u8 (el : Nat), .int .u8 (ty : Nat), .int .u16 (st : Nat), .int .u32 (bl : Nat), .int .u32 (oq : Nat), .int .u64 (cas : Nat), .slice X el cx, .slice K kl ck, .slice V (bl - (el + kl)) cv], .int .i64 (24 + (bl : Int)), .int .i64 0]) (by simp [results, Try.results51, go_sem, t0, t1, t2, t3, t4, t5, t6, t7, t8, t9, t10, t11]) rfl ?_
    exact ⟨X, cx, K, ck, V, cv, rfl, rd_drew gX, rd_drew gK, rd_drew gV, bff.drew⟩
  case inr =>
    have rc := (cut24 hA hs).below b0
    rw [if_neg h] at rc
    refine (clone_any _ bl _ _ _ _ rc b0.size (by omega)).mono ?_
    rintro e w3 ⟨A3, c3, rfl, o3, b3⟩
    have k1' := k0
    replace k0 := k0.step b3
    replace k1 := k1.step b3
    replace b0 := below_step b0 b3
    obtain ⟨q0, q1, q2, q3, q4, q5, q6, q7, q8⟩ := box9 k1
    clear rc b3
    go_wp2_with fail
    go_quiet (fail)
    go_wp2_with fail
    have k0d : Blk (w3.drewN nq) w.heap.size _ _ := k0
    have k1d : Blk (w3.drewN nq) w2.heap.size _ _ := k1
    have b0d : Below w.heap.size w (w3.drewN nq) := below_dN b0 nq
    have o3d : Own (w3.drewN nq) _ A3 bl c3 _ := o3
    have hB3 := k1'.lt
    clear q0 q1 q2 q3 q4 q5 q6 q7 q8 k0 k1 b0 o3
    generalize w3.drewN nq = W1 at k0d k1d b0d o3d ⊢
    obtain ⟨q0, q1, q2, q3, q4, q5, q6, q7, q8⟩ := box9 k1d
    obtain ⟨X, cx, HX, rX⟩ := slc_hm o3d.rd el (by omega)
    obtain ⟨K, ck, HK, rK⟩ := slc_lhm o3d.rd el (el + kl) (el : Int) ((el : Int) + (kl : Int)) rfl (by omega) (by omega) (by omega)
    obtain ⟨V, cv, HV, rV⟩ := slc_l o3d.rd (el + kl) ((el : Int) + (kl : Int)) (by omega) (by omega)
    rw [Nat.add_sub_cancel_left] at HK rK
    obtain ⟨z0, z1, z2, z3, z4, z5, z6, z7, z8, z9, z10, z11⟩ := box12 k0d
    have y0 := k0d.frozen 0
    have y1 := k0d.frozen 1
    have y2 := k0d.frozen 2
    have y3 := k0d.frozen 3
    have y4 := k0d.frozen 4
    have y5 := k0d.frozen 5
    have y6 := k0d.frozen 6
    have y7 := k0d.frozen 7
    have y8 := k0d.frozen 8
    have y9 := k0d.frozen 9
    have y10 := k0d.frozen 10
    have y11 := k0d.frozen 11
    have kf := blk_set12 k0d (.int .u8 (mg : Nat)) (.int .u8 (op : Nat)) (.int .u16 (kl : Nat)) (.int .u8 (el : Nat)) (.int .u8 (ty : Nat)) (.int .u16 (st : Nat)) (.int .u32 (bl : Nat)) (.int .u32 (oq : Nat)) (.int .u64 (cas : Nat)) (.slice X el cx) (.slice K kl ck) (.slice V (bl - (el + kl)) cv)
    have hg := grown_set12 W1 w.heap.size (.int .u8 (mg : Nat)) (.int .u8 (op : Nat)) (.int .u16 (kl : Nat)) (.int .u8 (el : Nat)) (.int .u8 (ty : Nat)) (.int .u16 (st : Nat)) (.int .u32 (bl : Nat)) (.int .u32 (oq : Nat)) (.int .u64 (cas : Nat)) (.slice X el cx) (.slice K kl ck) (.slice V (bl - (el + kl)) cv)
    have bff := b0d.trans (below_grown hg (Nat.le_refl _) k0d.lt)
    obtain ⟨t0, t1, t2, t3, t4, t5, t6, t7, t8, t9, t10, t11⟩ := box12 kf
    have o3f := o3d.kept hg hB3
    have gX := rX _ _ o3f.rd
    have gK := rK _ _ o3f.rd
    have gV := rV _ _ o3f.rd
    rw [List.take_take, Nat.min_eq_left (by omega)] at gX
    rw [List.take_take, Nat.min_eq_left (by omega), List.drop_take, Nat.add_sub_cancel_left] at gK
    clear kf hg o3d o3f rX rK rV
    go_region
    go_wp2_with fail
    refine bodyPost_ret (v := .tuple #[.agg #[.int .u8 (mg : Nat), .int .u8 (op : Nat), .int .u16 (kl : Nat), .int .u8 (el : Nat), .int .u8 (ty : Nat), .int .u16 (st : Nat), .int .u32 (bl : Nat), .int .u32 (oq : Nat), .int .u64 (cas : Nat), .slice X el cx, .slice K kl ck, .slice V (bl - (el + kl)) cv], .int .i64 (24 + (bl : Int)), .int .i64 0]) (by simp [results, Try.results51, go_sem, t0, t1, t2, t3, t4, t5, t6, t7, t8, t9, t10, t11]) rfl ?_
    exact ⟨X, cx, K, ck, V, cv, rfl, rd_drew gX, rd_drew gK, rd_drew gV, bff.drew⟩
end
section
open Go.RowKit
end
section
open Go.RowKit
end
end Go.Proofs.Ytnghmgbmflcngaa

/- icehouseref19.Read. Conditions: typed in each theorem. -/
import Derived.Test.YtnghmgbmflcngaaFrg
import Derived.StillTailTactics
namespace Go.Proofs.Ytnghmgbmflcngaa
set_option linter.unusedVariables false
open Go.RowKit

theorem fld_one {l : List UInt8} {o : Nat} {x : UInt8} (h : l[o]? = some x) : fld l o 1 = x.toNat := by
  unfold fld
  obtain ⟨h1, h2⟩ := List.getElem?_eq_some_iff.1 h
  rw [List.drop_eq_getElem_cons h1, h2]
  simp [numB]
theorem rd_byte {w : World} {B n c : Nat} {a : Addr} {l : List UInt8} (h : Rd w B (some a) n c l) (o : Nat) (ho : o < n) : w.cell? (a.add o) = some (.int .u8 (fld l o 1 : Nat)) := by
  obtain ⟨ad, x, e, -, hx, hc⟩ := h.at_ ho
  obtain rfl : a = ad := by injection e
  rw [hc, fld_one hx]
theorem number_at {W : World} {B n c : Nat} {a : Addr} {l : List UInt8} (h : Rd W B (some a) n c l) (i k : Nat) (hk : k ≤ 8) (hi : 0 < i) (hj : i + k ≤ n) (hc : i < c) (v : Nat) (hv : v = fld l i k) :
    Calls Try.prog 107 #[.slice (some ⟨a.block, a.off + i, none⟩) k (c - i)] W fun e w' => e = .returned (.int .u64 (v : Nat)) ∧ W = w' := by
  have hh := h.cut (i := i) (j := i + k) (by omega) hj
  rw [if_neg (by omega), List.drop_take, Nat.add_sub_cancel_left] at hh
  have ea : (some a).map (·.add i) = some ⟨a.block, a.off + i, none⟩ := by
    show some (a.add i) = _
    unfold Addr.add
    rw [if_neg (by omega)]
  rw [ea] at hh
  have := number_any _ k (c - i) B _ W hh
  rw [numQ_small (by rw [List.length_take]; omega)] at this
  rw [hv]
  exact this
set_option maxRecDepth 100000 in
set_option maxHeartbeats 4000000 in
theorem read19_any (A : Option Addr) (n c : Nat) (l : List UInt8) (w : World) (h : Rd w w.heap.size A n c l) (hn : 24 ≤ n) :
    Calls Try.prog 118 #[.slice A n c] w (BoxQ (hdV (fld l 0 1) (fld l 1 1) (fld l 2 2) (fld l 4 1) (fld l 5 1) (fld l 6 2) (fld l 8 4) (fld l 12 4) (fld l 16 8)) w) := by
  have hF := hdF_of l
  have hcap := h.cap
  have hmax := h.max
  unfold maxLen at hmax
  obtain ⟨a, x, rfl, halt, -, -⟩ := h.at_ (i := 0) (by omega)
  have k0 := Blk.new w #[.int .u8 0, .int .u8 0, .int .u16 0, .int .u8 0, .int .u8 0, .int .u16 0, .int .u32 0, .int .u32 0, .int .u64 0] 59
  have b0 : Below w.heap.size w (w.alloc (.cells #[.int .u8 0, .int .u8 0, .int .u16 0, .int .u8 0, .int .u8 0, .int .u16 0, .int .u32 0, .int .u32 0, .int .u64 0] 59)) := below_a1' (Below.refl _ _) _
  have r0 := h.below b0
  go_enter Try.func118, Try.ntmps118
  go_wp2_with fail
  generalize w.alloc (.cells #[.int .u8 0, .int .u8 0, .int .u16 0, .int .u8 0, .int .u8 0, .int .u16 0, .int .u32 0, .int .u32 0, .int .u64 0] 59) = W0 at k0 b0 r0 ⊢
  have rd : Rd W0.drew w.heap.size (some a) n c l := r0.drewN 1
  have k1 : Blk W0.drew w.heap.size #[.int .u8 0, .int .u8 0, .int .u16 0, .int .u8 0, .int .u8 0, .int .u16 0, .int .u32 0, .int .u32 0, .int .u64 0] 59 := k0
  have b1 : Below w.heap.size w W0.drew := b0.drew
  refine wp_region_still_tail 32 (by kernel_rfl) (by kernel_rfl) ?_
  change wpStill _ _ W0.drew (fun a' => wpList _ _ _ _ a' W0.drew) _ _
  generalize W0.drew = W1 at rd k1 b1 ⊢
  clear k0 b0 r0
  have qmg : W1.cell? a = some (.int .u8 (fld l 0 1 : Nat)) := rd_byte rd 0 (by omega)
  have qop : W1.cell? ⟨a.block, a.off + 1, none⟩ = some (.int .u8 (fld l 1 1 : Nat)) := rd_byte rd 1 (by omega)
  have qel : W1.cell? ⟨a.block, a.off + 4, none⟩ = some (.int .u8 (fld l 4 1 : Nat)) := rd_byte rd 4 (by omega)
  have qty : W1.cell? ⟨a.block, a.off + 5, none⟩ = some (.int .u8 (fld l 5 1 : Nat)) := rd_byte rd 5 (by omega)
  have Ckl := Lib.hid (number_at rd 2 2 (by omega) (by omega) (by omega) (by omega) (fld l 2 2) rfl)
  have Cst := Lib.hid (number_at rd 6 2 (by omega) (by omega) (by omega) (by omega) (fld l 6 2) rfl)
  have Cbl := Lib.hid (number_at rd 8 4 (by omega) (by omega) (by omega) (by omega) (fld l 8 4) rfl)
  have Coq := Lib.hid (number_at rd 12 4 (by omega) (by omega) (by omega) (by omega) (fld l 12 4) rfl)
  have Ccas := Lib.hid (number_at rd 16 8 (by omega) (by omega) (by omega) (by omega) (fld l 16 8) rfl)
  generalize emg : fld l 0 1 = mg at hF qmg
  have Emg := Lib.hid emg
  clear emg
  generalize eop : fld l 1 1 = op at hF qop
  have Eop := Lib.hid eop
  clear eop
  generalize ekl : fld l 2 2 = kl at hF Ckl
  have Ekl := Lib.hid ekl
  clear ekl
  generalize eel : fld l 4 1 = el at hF qel
  have Eel := Lib.hid eel
  clear eel
  generalize ety : fld l 5 1 = ty at hF qty
  have Ety := Lib.hid ety
  clear ety
  generalize est : fld l 6 2 = st at hF Cst
  have Est := Lib.hid est
  clear est
  generalize ebl : fld l 8 4 = bl at hF Cbl
  have Ebl := Lib.hid ebl
  clear ebl
  generalize eoq : fld l 12 4 = oq at hF Coq
  have Eoq := Lib.hid eoq
  clear eoq
  generalize ecas : fld l 16 8 = cas at hF Ccas
  have Ecas := Lib.hid ecas
  clear ecas
  obtain ⟨f0, f1, f2, f3, f4, f5, f6, f7, f8⟩ := hF
  have Wkl : IntKind.u16.wrap (kl : Int) = (kl : Int) := IntWalk.u16_in _ (by omega)
  have Wst : IntKind.u16.wrap (st : Int) = (st : Int) := IntWalk.u16_in _ (by omega)
  have Wbl : IntKind.u32.wrap (bl : Int) = (bl : Int) := IntWalk.u32_in _ (by omega)
  have Woq : IntKind.u32.wrap (oq : Int) = (oq : Int) := IntWalk.u32_in _ (by omega)
  have j0 : 0 < n := by omega
  have i0 : (0 : Int) < (n : Int) := by omega
  have j1 : 1 < n := by omega
  have i1 : (1 : Int) < (n : Int) := by omega
  have j4 : 4 < n := by omega
  have i4 : (4 : Int) < (n : Int) := by omega
  have j5 : 5 < n := by omega
  have i5 : (5 : Int) < (n : Int) := by omega
  have d2 : c ≠ 2 := by omega
  have d4 : c ≠ 4 := by omega
  have d6 : c ≠ 6 := by omega
  have d8 : c ≠ 8 := by omega
  have d12 : c ≠ 12 := by omega
  have d16 : c ≠ 16 := by omega
  have l4 : (4 : Int) ≤ (c : Int) := by omega
  have l8 : (8 : Int) ≤ (c : Int) := by omega
  have l12 : (12 : Int) ≤ (c : Int) := by omega
  have l16 : (16 : Int) ≤ (c : Int) := by omega
  have l24 : (24 : Int) ≤ (c : Int) := by omega
  have hg := grown_set9 W1 w.heap.size (.int .u8 (mg : Nat)) (.int .u8 (op : Nat)) (.int .u16 (kl : Nat)) (.int .u8 (el : Nat)) (.int .u8 (ty : Nat)) (.int .u16 (st : Nat)) (.int .u32 (bl : Nat)) (.int .u32 (oq : Nat)) (.int .u64 (cas : Nat))
  have bff := b1.trans (below_grown hg (Nat.le_refl _) k1.lt)
  have kf := blk_set9 k1 (.int .u8 (mg : Nat)) (.int .u8 (op : Nat)) (.int .u16 (kl : Nat)) (.int .u8 (el : Nat)) (.int .u8 (ty : Nat)) (.int .u16 (st : Nat)) (.int .u32 (bl : Nat)) (.int .u32 (oq : Nat)) (.int .u64 (cas : Nat))
  obtain ⟨z0, z1, z2, z3, z4, z5, z6, z7, z8⟩ := box9 k1
  obtain ⟨t0, t1, t2, t3, t4, t5, t6, t7, t8⟩ := box9 kf
  have y0 := k1.frozen 0
  have y1 := k1.frozen 1
  have y2 := k1.frozen 2
  have y3 := k1.frozen 3
  have y4 := k1.frozen 4
  have y5 := k1.frozen 5
  have y6 := k1.frozen 6
  have y7 := k1.frozen 7
  have y8 := k1.frozen 8
  have HBF := Lib.hid bff
  clear rd h hg kf bff k1 b1
  simp only [List.take_succ_cons, List.take_zero, List.drop_succ_cons, List.drop_zero]
  repeat still_step
  still_call (Ckl.out.mono fun _ _ h => ⟨h.1, h.2.symm⟩)
  repeat still_step
  still_call (Cst.out.mono fun _ _ h => ⟨h.1, h.2.symm⟩)
  repeat still_step
  still_call (Cbl.out.mono fun _ _ h => ⟨h.1, h.2.symm⟩)
  repeat still_step
  still_call (Coq.out.mono fun _ _ h => ⟨h.1, h.2.symm⟩)
  repeat still_step
  still_call (Ccas.out.mono fun _ _ h => ⟨h.1, h.2.symm⟩)
  repeat still_step
  refine wpStill_nil ?_
  go_wp2_with fail
  refine bodyPost_ret (v := .agg #[.int .u8 (mg : Nat), .int .u8 (op : Nat), .int .u16 (kl : Nat), .int .u8 (el : Nat), .int .u8 (ty : Nat), .int .u16 (st : Nat), .int .u32 (bl : Nat), .int .u32 (oq : Nat), .int .u64 (cas : Nat)]) (by simp [results, Try.results118, go_sem, t0, t1, t2, t3, t4, t5, t6, t7, t8]) rfl ?_
  exact ⟨by rw [Emg.out, Eop.out, Ekl.out, Eel.out, Ety.out, Est.out, Ebl.out, Eoq.out, Ecas.out]; rfl, HBF.out⟩
end Go.Proofs.Ytnghmgbmflcngaa

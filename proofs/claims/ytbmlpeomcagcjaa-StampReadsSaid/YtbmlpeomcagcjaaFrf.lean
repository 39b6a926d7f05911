/- Frames compared; package icehouselaw19's wakes; how what a frame is made of comes in. Conditions: typed in each theorem. -/
import Derived.Test.YtbmlpeomcagcjaaFreb
import Derived.Test.YtbmlpeomcagcjaaOpen
import Derived.Lib.SlBytesConst
namespace Go.Proofs.Ytbmlpeomcagcjaa
set_option linter.unusedVariables false
open Go.ChangeShapes Go.WideShapes Go.ChangeAt Go.RowKit

theorem eqB_rfl (l : List UInt8) : eqB l l = true := decide_eq_true rfl
theorem Blk.drewN {w : World} {g : Nat} {cs : Array Value} {T : TypeId} (h : Blk w g cs T) (q : Nat) : Blk (w.drewN q) g cs T := h
set_option maxRecDepth 20000 in
set_option maxHeartbeats 2000000 in
theorem fsame_yes (mg op kl el ty st bl oq cas : Nat) (X K V X' K' V' : Option Addr) (nx cx nk ck nv cv nx' cx' nk' ck' nv' cv' : Nat) (lx lk lv : List UInt8) (w : World)
    (rx : Rd w w.heap.size X nx cx lx) (rk : Rd w w.heap.size K nk ck lk) (rv : Rd w w.heap.size V nv cv lv) (rx' : Rd w w.heap.size X' nx' cx' lx) (rk' : Rd w w.heap.size K' nk' ck' lk) (rv' : Rd w w.heap.size V' nv' cv' lv) :
    Calls Try.prog 21 #[frV mg op kl el ty st bl oq cas (.slice X nx cx) (.slice K nk ck) (.slice V nv cv), frV mg op kl el ty st bl oq cas (.slice X' nx' cx') (.slice K' nk' ck') (.slice V' nv' cv')] w (BoxQ (.bool true) w) := by
  have k0 : Blk _ _ (frC mg op kl el ty st bl oq cas (.slice X nx cx) (.slice K nk ck) (.slice V nv cv)) _ := Blk.new w _ 29
  have k1 := Blk.new (w.alloc (.cells (frC mg op kl el ty st bl oq cas (.slice X nx cx) (.slice K nk ck) (.slice V nv cv)) 29)) (frC mg op kl el ty st bl oq cas (.slice X' nx' cx') (.slice K' nk' ck') (.slice V' nv' cv')) 29
  have b : Below w.heap.size w ((w.alloc (.cells (frC mg op kl el ty st bl oq cas (.slice X nx cx) (.slice K nk ck) (.slice V nv cv)) 29)).alloc (.cells (frC mg op kl el ty st bl oq cas (.slice X' nx' cx') (.slice K' nk' ck') (.slice V' nv' cv')) 29)) := below_a1' (below_a1' (Below.refl _ _) _) _
  replace k0 := k0.alloc (.cells (frC mg op kl el ty st bl oq cas (.slice X' nx' cx') (.slice K' nk' ck') (.slice V' nv' cv')) 29)
  simp only [World.size_alloc] at k1
  unfold frV
  unfold frC at *
  go_enter Try.func21, Try.ntmps21
  go_wp2_with fail
  refine (same_any X X' nx cx nx' cx' w.heap.size lx lx _ (rx.below b) (rx'.below b)).mono ?_
  rintro e w1 ⟨rfl, hq⟩
  have bq := quiet_self hq
  clear hq
  replace k0 := k0.step bq
  replace k1 := k1.step bq
  replace b := below_step b bq
  clear bq
  obtain ⟨z0, z1, z2, z3, z4, z5, z6, z7, z8, z9, z10, z11⟩ := box12 k0
  obtain ⟨y0, y1, y2, y3, y4, y5, y6, y7, y8, y9, y10, y11⟩ := box12 k1
  rw [eqB_rfl]
  go_wp2_with fail
  refine (same_any K K' nk ck nk' ck' w.heap.size lk lk _ (rk.below b) (rk'.below b)).mono ?_
  rintro e w2 ⟨rfl, hq⟩
  have bq := quiet_self hq
  clear hq z0 z1 z2 z3 z4 z5 z6 z7 z8 z9 z10 z11 y0 y1 y2 y3 y4 y5 y6 y7 y8 y9 y10 y11
  replace k0 := k0.step bq
  replace k1 := k1.step bq
  replace b := below_step b bq
  clear bq
  obtain ⟨z0, z1, z2, z3, z4, z5, z6, z7, z8, z9, z10, z11⟩ := box12 k0
  obtain ⟨y0, y1, y2, y3, y4, y5, y6, y7, y8, y9, y10, y11⟩ := box12 k1
  rw [eqB_rfl]
  go_wp2_with fail
  refine (same_any V V' nv cv nv' cv' w.heap.size lv lv _ (rv.below b) (rv'.below b)).mono ?_
  rintro e w3 ⟨rfl, hq⟩
  have bq := quiet_self hq
  replace b := below_step b bq
  rw [eqB_rfl]
  clear hq bq
  go_wp2_with fail
  go_ret
  exact ⟨rfl, b⟩

section
variable {H : Type} {enc : TypeId × Value → H} {W : World}
theorem cells_made : Try.prog.cellsOf 39 = 6 := by kernel_rfl
def mdV (mg op oq : Nat) (X K V : Value) : Value := .agg #[.int .u8 mg, .int .u8 op, .int .u32 oq, X, K, V]
def Mad (W : World) (mg op oq : Nat) (AX : Option Addr) (nx cx : Nat) (lx : List UInt8) (AK : Option Addr) (nk ck : Nat) (lk : List UInt8) (AV : Option Addr) (nv cv : Nat) (lv : List UInt8) : Prop :=
  mg < 256 ∧ op < 256 ∧ oq < 4294967296 ∧ Rd W W.heap.size AX nx cx lx ∧ Rd W W.heap.size AK nk ck lk ∧ Rd W W.heap.size AV nv cv lv
set_option maxRecDepth 100000 in
theorem trod_made {fuel : Nat} {cs : List Value} {x : DataW H × List MemPlace} (h : DataW.trod enc Try.prog W 0 (fun _ => true) true fuel 39 cs = some x) :
    ∃ (mg op oq : Nat) (AX : Option Addr) (nx cx : Nat) (lx : List UInt8) (AK : Option Addr) (nk ck : Nat) (lk : List UInt8) (AV : Option Addr) (nv cv : Nat) (lv : List UInt8),
      cs = (mdV mg op oq (.slice AX nx cx) (.slice AK nk ck) (.slice AV nv cv)).cells.toList ∧ Mad W mg op oq AX nx cx lx AK nk ck lk AV nv cv lv ∧
      ((∀ m ∈ x.1.weights Try.prog 39, m ≤ reachBytes) → cx ≤ 140737488351232 ∧ ck ≤ 140737488351232 ∧ cv ≤ 140737488351232) := by
  obtain ⟨n, hl, hf⟩ := trod_fields Try.underlying39 h
  rw [cells_made] at hl
  obtain ⟨c0, c1, c2, c3, c4, c5, rfl⟩ := list6 hl
  obtain ⟨y0, t0, w0⟩ := hf 0 5 0 rfl
  obtain ⟨y1, t1, w1⟩ := hf 1 5 1 rfl
  obtain ⟨y2, t2, w2⟩ := hf 2 23 2 rfl
  obtain ⟨y3, t3, w3⟩ := hf 3 27 3 rfl
  obtain ⟨y4, t4, w4⟩ := hf 4 27 4 rfl
  obtain ⟨y5, t5, w5⟩ := hf 5 27 5 rfl
  simp only [cells_u8s, cells_u32, cells_u8, List.drop_zero, List.drop_succ_cons, List.take_succ_cons, List.take_zero] at t0 t1 t2 t3 t4 t5
  obtain ⟨z0, rfl, f0⟩ := trod_int1 Try.underlying5 t0
  obtain ⟨z1, rfl, f1⟩ := trod_int1 Try.underlying5 t1
  obtain ⟨z2, rfl, f2⟩ := trod_int1 Try.underlying23 t2
  obtain ⟨AX, nx, cx, lx, rfl, r3, s3⟩ := trod_bytes1 t3
  obtain ⟨AK, nk, ck, lk, rfl, r4, s4⟩ := trod_bytes1 t4
  obtain ⟨AV, nv, cv, lv, rfl, r5, s5⟩ := trod_bytes1 t5
  obtain ⟨mg, rfl, g0⟩ := wf_nat (M := 255) f0 rfl rfl
  obtain ⟨op, rfl, g1⟩ := wf_nat (M := 255) f1 rfl rfl
  obtain ⟨oq, rfl, g2⟩ := wf_nat (M := 4294967295) f2 rfl rfl
  exact ⟨mg, op, oq, AX, nx, cx, lx, AK, nk, ck, lk, AV, nv, cv, lv, rfl, ⟨by omega, by omega, by omega, r3, r4, r5⟩, fun hw => ⟨s3 (w3 hw), s4 (w4 hw), s5 (w5 hw)⟩⟩
set_option maxRecDepth 100000 in
theorem open_made {v : Value} {d : DataW H} {p : List MemPlace} {base : Nat} (hv : Value.okWide Try.prog W .any base 39 v) (h : DataW.Trod enc Try.prog W 0 (fun _ => true) true 39 v d p) :
    ∃ (mg op oq : Nat) (AX : Option Addr) (nx cx : Nat) (lx : List UInt8) (AK : Option Addr) (nk ck : Nat) (lk : List UInt8) (AV : Option Addr) (nv cv : Nat) (lv : List UInt8),
      v = mdV mg op oq (.slice AX nx cx) (.slice AK nk ck) (.slice AV nv cv) ∧ Mad W mg op oq AX nx cx lx AK nk ck lk AV nv cv lv ∧
      ((∀ m ∈ d.weights Try.prog 39, m ≤ reachBytes) → cx ≤ 140737488351232 ∧ ck ≤ 140737488351232 ∧ cv ≤ 140737488351232) := by
  obtain ⟨cs, rfl, hsz⟩ := okWide_struct Try.underlying39 hv
  obtain ⟨fuel, hf⟩ := h
  obtain ⟨mg, op, oq, AX, nx, cx, lx, AK, nk, ck, lk, AV, nv, cv, lv, hc, hi, hw⟩ := trod_made hf
  refine ⟨mg, op, oq, AX, nx, cx, lx, AK, nk, ck, lk, AV, nv, cv, lv, ?_, hi, hw⟩
  have : cs = (mdV mg op oq (.slice AX nx cx) (.slice AK nk ck) (.slice AV nv cv)).cells := by
    apply Array.toList_inj.1
    exact hc
  rw [this]; rfl
end

theorem own_row {w : World} {B n c : Nat} {A : Option Addr} {l : List UInt8} (h : Own w B A (n + 1) c l) : ∃ k, A = some ⟨k, 0, none⟩ ∧ B ≤ k ∧ k < w.heap.size := by
  rcases h.2 with ⟨hv, h0⟩ | ⟨g, cap, cur, hv, hg, hh, r⟩
  · omega
  · injection hv with e1
    exact ⟨g, e1, hg, (Array.getElem?_eq_some_iff.1 hh).1⟩
theorem rd_const (w : World) (y : UInt8) : Rd (w.alloc (.cells #[.int .u8 (y.toNat : Int)] 5 (1, 2))) (w.alloc (.cells #[.int .u8 (y.toNat : Int)] 5 (1, 2))).heap.size (some ⟨w.heap.size, 0, none⟩) 1 1 [y] := by
  refine ⟨rfl, Nat.le_refl _, by simp [maxLen], (fun h => by cases h), fun ad hA _ => by injection hA with h; subst h; simp, fun ad i u hA hu => ?_⟩
  injection hA with h
  subst h
  have hi : i = 0 := by
    have := (List.getElem?_eq_some_iff.1 hu).1
    simp [cbs] at this; omega
  subst hi
  have := cell_of_row (w.alloc (.cells #[.int .u8 (y.toNat : Int)] 5 (1, 2))) w.heap.size 0 _ _ (1, 2) (heap_alloc_new w _)
  rw [show (⟨w.heap.size, 0, none⟩ : Addr).add 0 = ⟨w.heap.size, 0, none⟩ from rfl, this]
  simpa [cbs, cb] using hu
set_option maxRecDepth 20000 in
set_option maxHeartbeats 2000000 in
theorem wakes19 (w : World) :
    Calls Try.prog 15 #[] w fun e w' => e = .returned (.bool true) ∧ Below w.heap.size w w' := by
  have kc := fun (w : World) (C : Array Value) (n c : Nat) => Lib.run_convert_bytes_const (P := Try.prog) w 27 5 C n c Try.underlying27 Try.underlying5
  have b := Below.refl w.heap.size w
  go_enter Try.func15, Try.ntmps15
  go_wp2_with fail
  have hm : ∀ W : World, Rd W W.heap.size (some ⟨w.heap.size, 0, none⟩) 1 1 [97] → Calls Try.prog 20 #[.int .u8 128, .int .u8 0, .int .u32 7, .slice none 0 0, .slice (some ⟨w.heap.size, 0, none⟩) 1 1, .slice none 0 0] W (MakeOk 128 0 7 0 1 0 [] [97] [] W) :=
    fun W r => make_Oa 0 7 (by omega) (by omega) none (some ⟨w.heap.size, 0, none⟩) none 0 0 1 1 0 0 (by unfold tooLong; omega) [] [97] [] W (Rd.nil _ _) r (Rd.nil _ _)
  refine (hm _ (rd_const w 97)).mono ?_
  rintro e w1 ⟨X, K, V, cx, ck, cv, rfl, rx, rk, rv, b1⟩
  replace b := (below_a1' b _).trans (b1.mono (by simp))
  unfold frV frC
  have hp : ∀ W : World, Rd W W.heap.size X 0 cx [] → Rd W W.heap.size K 1 ck [97] → Rd W W.heap.size V 0 cv [] → Calls Try.prog 16 #[.agg #[.int .u8 128, .int .u8 0, .int .u16 1, .int .u8 0, .int .u8 0, .int .u16 0, .int .u32 1, .int .u32 7, .int .u64 0, .slice X 0 cx, .slice K 1 ck, .slice V 0 cv]] W (PutOk 25 (hdB 128 0 1 0 0 0 1 7 0 ++ [] ++ [97] ++ []) W) :=
    fun W r1 r2 r3 => put_O 128 0 1 0 0 0 1 7 0 (by unfold HdF; omega) X K V 0 cx 1 ck 0 cv (by omega) (by decide) rfl rfl rfl (by omega) [] [97] [] W r1 r2 r3
  rw [show hdB 128 0 1 0 0 0 1 7 0 ++ [] ++ [97] ++ [] = [128, 0, 0, 1, 0, 0, 0, 0, 0, 0, 0, 1, 0, 0, 0, 7, 0, 0, 0, 0, 0, 0, 0, 0, 97] from by decide +kernel] at hp
  have HP := Lib.hid hp
  clear hp
  go_wp2_with fail
  refine (HP.out _ ((rx.alloc (Nat.le_refl _) _).more (by simp)) ((rk.alloc (Nat.le_refl _) _).more (by simp)) ((rv.alloc (Nat.le_refl _) _).more (by simp))).mono ?_
  rintro e w2 ⟨A2, c2, rfl, o2, b2⟩
  replace b := (below_a1' b _).trans (b2.mono (by have := b.size; simp; omega))
  obtain ⟨k2, rfl, -, -⟩ := own_row o2
  obtain ⟨x0, hx0, hc0⟩ := o2.cellAt (j := 0) (by omega)
  obtain ⟨x1, hx1, hc1⟩ := o2.cellAt (j := 24) (by omega)
  obtain rfl : 128 = x0 := by simpa using hx0
  obtain rfl : 97 = x1 := by simpa using hx1
  replace hc0 : w2.cell? ⟨k2, 0, none⟩ = some (.int .u8 128) := hc0
  replace hc1 : w2.cell? ⟨k2, 24, none⟩ = some (.int .u8 97) := hc1
  clear hx0 hx1
  go_wp2_with fail
  go_ret
  exact ⟨rfl, b⟩
end Go.Proofs.Ytbmlpeomcagcjaa

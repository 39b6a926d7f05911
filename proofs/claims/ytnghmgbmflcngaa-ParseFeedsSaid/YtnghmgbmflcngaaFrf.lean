/- Frames compared; package icehouselaw19's wakes; how what a frame is made of comes in. Conditions: typed in each theorem. -/
import Derived.Test.YtnghmgbmflcngaaFreb
import Derived.Test.YtnghmgbmflcngaaOpen
import Derived.Lib.SlBytesConst
namespace Go.Proofs.Ytnghmgbmflcngaa
set_option linter.unusedVariables false
open Go.ChangeShapes Go.WideShapes Go.ChangeAt Go.RowKit

theorem eqB_rfl (l : List UInt8) : eqB l l = true := decide_eq_true rfl
theorem Blk.drewN {w : World} {g : Nat} {cs : Array Value} {T : TypeId} (h : Blk w g cs T) (q : Nat) : Blk (w.drewN q) g cs T := h
set_option maxRecDepth 100000 in
set_option maxHeartbeats 2000000 in
theorem fsame_yes (mg op kl el ty st bl oq cas : Nat) (X K V X' K' V' : Option Addr) (nx cx nk ck nv cv nx' cx' nk' ck' nv' cv' : Nat) (lx lk lv : List UInt8) (w : World)
    (rx : Rd w w.heap.size X nx cx lx) (rk : Rd w w.heap.size K nk ck lk) (rv : Rd w w.heap.size V nv cv lv) (rx' : Rd w w.heap.size X' nx' cx' lx) (rk' : Rd w w.heap.size K' nk' ck' lk) (rv' : Rd w w.heap.size V' nv' cv' lv) :
    Calls Try.prog 47 #[frV mg op kl el ty st bl oq cas (.slice X nx cx) (.slice K nk ck) (.slice V nv cv), frV mg op kl el ty st bl oq cas (.slice X' nx' cx') (.slice K' nk' ck') (.slice V' nv' cv')] w (BoxQ (.bool true) w) := by
  have k0 : Blk _ _ (frC mg op kl el ty st bl oq cas (.slice X nx cx) (.slice K nk ck) (.slice V nv cv)) _ := Blk.new w _ 61
  have k1 := Blk.new (w.alloc (.cells (frC mg op kl el ty st bl oq cas (.slice X nx cx) (.slice K nk ck) (.slice V nv cv)) 61)) (frC mg op kl el ty st bl oq cas (.slice X' nx' cx') (.slice K' nk' ck') (.slice V' nv' cv')) 61
  have b : Below w.heap.size w ((w.alloc (.cells (frC mg op kl el ty st bl oq cas (.slice X nx cx) (.slice K nk ck) (.slice V nv cv)) 61)).alloc (.cells (frC mg op kl el ty st bl oq cas (.slice X' nx' cx') (.slice K' nk' ck') (.slice V' nv' cv')) 61)) := below_a1' (below_a1' (Below.refl _ _) _) _
  replace k0 := k0.alloc (.cells (frC mg op kl el ty st bl oq cas (.slice X' nx' cx') (.slice K' nk' ck') (.slice V' nv' cv')) 61)
  simp only [World.size_alloc] at k1
  unfold frV
  unfold frC at *
  go_enter Try.func47, Try.ntmps47
  go_wp2_with fail
  refine (same_any X X' nx cx nx' cx' w.heap.size lx lx _ (rx.below b) (rx'.below b)).mono ?_
  rintro e w1 ⟨rfl, hq⟩
  have bq := quiet_self hq
  clear hq
  replace k0 := k0.step bq
  replace k1 := k1.step bq
  replace b := below_step b bq
  clear bq
  obtain ⟨z0, z1, z2, z3, z4, z5, z6, z7, z8, z9, z10, z11⟩ := box12 k0
  obtain ⟨y0, y1, y2, y3, y4, y5, y6, y7, y8, y9, y10, y11⟩ := box12 k1
  rw [eqB_rfl]
  go_wp2_with fail
  refine (same_any K K' nk ck nk' ck' w.heap.size lk lk _ (rk.below b) (rk'.below b)).mono ?_
  rintro e w2 ⟨rfl, hq⟩
  have bq := quiet_self hq
  clear hq z0 z1 z2 z3 z4 z5 z6 z7 z8 z9 z10 z11 y0 y1 y2 y3 y4 y5 y6 y7 y8 y9 y10 y11
  replace k0 := k0.step bq
  replace k1 := k1.step bq
  replace b := below_step b bq
  clear bq
  obtain ⟨z0, z1, z2, z3, z4, z5, z6, z7, z8, z9, z10, z11⟩ := box12 k0
  obtain ⟨y0, y1, y2, y3, y4, y5, y6, y7, y8, y9, y10, y11⟩ := box12 k1
  rw [eqB_rfl]
  go_wp2_with fail
  refine (same_any V V' nv cv nv' cv' w.heap.size lv lv _ (rv.below b) (rv'.below b)).mono ?_
  rintro e w3 ⟨rfl, hq⟩
  have bq := quiet_self hq
  replace b := below_step b bq
  rw [eqB_rfl]
  clear hq bq
  go_wp2_with fail
  go_ret
  exact ⟨rfl, b⟩

section
variable {H : Type} {enc : TypeId × Value → H} {W : World}
def mdV (mg op oq : Nat) (X K V : Value) : Value := .agg #[.int .u8 mg, .int .u8 op, .int .u32 oq, X, K, V]
def Mad (W : World) (mg op oq : Nat) (AX : Option Addr) (nx cx : Nat) (lx : List UInt8) (AK : Option Addr) (nk ck : Nat) (lk : List UInt8) (AV : Option Addr) (nv cv : Nat) (lv : List UInt8) : Prop :=
  mg < 256 ∧ op < 256 ∧ oq < 4294967296 ∧ Rd W W.heap.size AX nx cx lx ∧ Rd W W.heap.size AK nk ck lk ∧ Rd W W.heap.size AV nv cv lv
end

theorem own_row {w : World} {B n c : Nat} {A : Option Addr} {l : List UInt8} (h : Own w B A (n + 1) c l) : ∃ k, A = some ⟨k, 0, none⟩ ∧ B ≤ k ∧ k < w.heap.size := by
  rcases h.2 with ⟨hv, h0⟩ | ⟨g, cap, cur, hv, hg, hh, r⟩
  · omega
  · injection hv with e1
    exact ⟨g, e1, hg, (Array.getElem?_eq_some_iff.1 hh).1⟩
theorem rd_const (w : World) (y : UInt8) : Rd (w.alloc (.cells #[.int .u8 (y.toNat : Int)] 5 (1, 2))) (w.alloc (.cells #[.int .u8 (y.toNat : Int)] 5 (1, 2))).heap.size (some ⟨w.heap.size, 0, none⟩) 1 1 [y] := by
  refine ⟨rfl, Nat.le_refl _, by simp [maxLen], (fun h => by cases h), fun ad hA _ => by injection hA with h; subst h; simp, fun ad i u hA hu => ?_⟩
  injection hA with h
  subst h
  have hi : i = 0 := by
    have := (List.getElem?_eq_some_iff.1 hu).1
    simp [cbs] at this; omega
  subst hi
  have := cell_of_row (w.alloc (.cells #[.int .u8 (y.toNat : Int)] 5 (1, 2))) w.heap.size 0 _ _ (1, 2) (heap_alloc_new w _)
  rw [show (⟨w.heap.size, 0, none⟩ : Addr).add 0 = ⟨w.heap.size, 0, none⟩ from rfl, this]
  simpa [cbs, cb] using hu
end Go.Proofs.Ytnghmgbmflcngaa

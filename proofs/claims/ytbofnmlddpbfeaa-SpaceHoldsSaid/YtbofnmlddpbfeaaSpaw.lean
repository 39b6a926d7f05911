/- Package icehouselaw25's wakes answers true; how an item comes in. Conditions: none. -/
import Derived.Test.YtbofnmlddpbfeaaSpa
import Derived.Test.YtbofnmlddpbfeaaOpen
import Derived.Lib.SlBytesConst
import Derived.Lib.SmallJoins
namespace Go.Proofs.Ytbofnmlddpbfeaa
set_option linter.unusedVariables false
open Go.ChangeShapes Go.WideShapes Go.ChangeAt Go.RowKit

set_option maxHeartbeats 1000000 in
theorem wakes25 (w : World) :
    Calls Try.prog 13 #[] w fun e w' => e = .returned (.bool true) ∧ Below w.heap.size w w' := by
  have kc := fun (w : World) (C : Array Value) (n c : Nat) => Lib.run_convert_bytes_const (P := Try.prog) w 22 5 C n c Try.underlying22 Try.underlying5
  have b := Below.refl w.heap.size w
  go_enter Try.func13, Try.ntmps13
  go_wp2_with fail
  refine (bound_any 8 24 _).mono ?_
  rintro e w1 ⟨rfl, b1⟩
  replace b := below_step b b1
  rw [show bndV 8 24 = .tuple #[.int .i64 28, .int .i64 0] from rfl]
  go_wp2_with fail
  have hc := charge_any (some ⟨w1.heap.size, 0, none⟩) none 1 1 0 0 0 0 1 false
  unfold itmV at hc
  refine (hc _).mono ?_
  rintro e w2 ⟨rfl, b2⟩
  replace b := (below_a1' b _).trans (b2.mono (by have := b.size; simp; omega))
  rw [show chV 1 1 0 = .tuple #[.int .i64 1, .int .i64 0] from by rw [chV_yes (by decide)]; rfl]
  clear hc b1 b2
  go_wp2_with fail
  have hR : Rv (w2.alloc (.cells #[.int .i64 17, .int .i64 17, .int .i64 6, .int .i64 1] 3)) (w2.heap.size + 1) (some ⟨w2.heap.size, 0, none⟩) 4 4 (intC [17, 17, 6, 1]) := by
    have := Ov.rv (Ov.lit w2 #[.int .i64 17, .int .i64 17, .int .i64 6, .int .i64 1] 3 w2.heap.size 4 (intC [17, 17, 6, 1]) (Nat.le_refl _) (by simp [maxLen]) rfl rfl)
    exact this.more (by simp)
  refine (pack_any _ 4 4 _ 24 [17, 17, 6, 1] _ hR (by omega) (by decide)).mono ?_
  rintro e w3 ⟨rfl, hq⟩
  subst hq
  rw [show packB 24 [17, 17, 6, 1] 0 0 = 3 from by decide +kernel]
  go_wp2_with fail
  go_ret
  exact ⟨rfl, below_a1' b _⟩

section
variable {H : Type} {enc : TypeId × Value → H} {W : World}
theorem cells_item : Try.prog.cellsOf 26 = 6 := by kernel_rfl
/-- What is known of an item that came in. -/
def Itm (W : World) (B : Nat) (AK : Option Addr) (nk ck : Nat) (lk : List UInt8) (AV : Option Addr) (nv cv : Nat) (lv : List UInt8) (fl ex sq : Nat) : Prop :=
  Rd W B AK nk ck lk ∧ Rd W B AV nv cv lv ∧ fl ≤ 4294967295 ∧ ex ≤ 4294967295 ∧ sq ≤ 18446744073709551615
set_option maxRecDepth 100000 in
theorem trod_item {fuel : Nat} {cs : List Value} {x : DataW H × List MemPlace} (h : DataW.trod enc Try.prog W 0 (fun _ => true) true fuel 26 cs = some x) :
    ∃ (AK : Option Addr) (nk ck : Nat) (lk : List UInt8) (AV : Option Addr) (nv cv : Nat) (lv : List UInt8) (fl ex sq : Nat) (d : Bool),
      cs = (itmV (.slice AK nk ck) (.slice AV nv cv) fl ex sq d).cells.toList ∧ Itm W W.heap.size AK nk ck lk AV nv cv lv fl ex sq ∧
      ((∀ m ∈ x.1.weights Try.prog 26, m ≤ reachBytes) → ck ≤ 140737488351232 ∧ cv ≤ 140737488351232) := by
  obtain ⟨n, hl, hf⟩ := trod_fields Try.underlying26 h
  rw [cells_item] at hl
  obtain ⟨c0, c1, c2, c3, c4, c5, rfl⟩ := list6 hl
  obtain ⟨y0, t0, w0⟩ := hf 0 22 0 rfl
  obtain ⟨y1, t1, w1⟩ := hf 1 22 1 rfl
  obtain ⟨y2, t2, w2⟩ := hf 2 23 2 rfl
  obtain ⟨y3, t3, w3⟩ := hf 3 23 3 rfl
  obtain ⟨y4, t4, w4⟩ := hf 4 24 4 rfl
  obtain ⟨y5, t5, w5⟩ := hf 5 4 5 rfl
  simp only [cells_u8s, cells_u32, cells_u64, cells_bool, List.drop_zero, List.drop_succ_cons, List.take_succ_cons, List.take_zero] at t0 t1 t2 t3 t4 t5
  obtain ⟨AK, nk, ck, lk, rfl, r0, s0⟩ := trod_bytes1 t0
  obtain ⟨AV, nv, cv, lv, rfl, r1, s1⟩ := trod_bytes1 t1
  obtain ⟨z2, rfl, f2⟩ := trod_int1 Try.underlying23 t2
  obtain ⟨z3, rfl, f3⟩ := trod_int1 Try.underlying23 t3
  obtain ⟨z4, rfl, f4⟩ := trod_int1 Try.underlying24 t4
  obtain ⟨d, rfl⟩ := trod_bool1 Try.underlying4 t5
  obtain ⟨fl, rfl, g2⟩ := wf_nat (M := 4294967295) f2 rfl rfl
  obtain ⟨ex, rfl, g3⟩ := wf_nat (M := 4294967295) f3 rfl rfl
  obtain ⟨sq, rfl, g4⟩ := wf_nat (M := 18446744073709551615) f4 rfl rfl
  exact ⟨AK, nk, ck, lk, AV, nv, cv, lv, fl, ex, sq, d, rfl, ⟨r0, r1, by omega, by omega, by omega⟩, fun hw => ⟨s0 (w0 hw), s1 (w1 hw)⟩⟩
theorem open_item {v : Value} {d : DataW H} {p : List MemPlace} {base : Nat} (hv : Value.okWide Try.prog W .any base 26 v) (h : DataW.Trod enc Try.prog W 0 (fun _ => true) true 26 v d p) :
    ∃ (AK : Option Addr) (nk ck : Nat) (lk : List UInt8) (AV : Option Addr) (nv cv : Nat) (lv : List UInt8) (fl ex sq : Nat) (b : Bool),
      v = itmV (.slice AK nk ck) (.slice AV nv cv) fl ex sq b ∧ Itm W W.heap.size AK nk ck lk AV nv cv lv fl ex sq ∧
      ((∀ m ∈ d.weights Try.prog 26, m ≤ reachBytes) → ck ≤ 140737488351232 ∧ cv ≤ 140737488351232) := by
  obtain ⟨cs, rfl, hsz⟩ := okWide_struct Try.underlying26 hv
  obtain ⟨fuel, hf⟩ := h
  obtain ⟨AK, nk, ck, lk, AV, nv, cv, lv, fl, ex, sq, b, hc, hi, hw⟩ := trod_item hf
  refine ⟨AK, nk, ck, lk, AV, nv, cv, lv, fl, ex, sq, b, ?_, hi, hw⟩
  have : cs = (itmV (.slice AK nk ck) (.slice AV nv cv) fl ex sq b).cells := by
    apply Array.toList_inj.1
    exact hc
  rw [this]; rfl
end
end Go.Proofs.Ytbofnmlddpbfeaa

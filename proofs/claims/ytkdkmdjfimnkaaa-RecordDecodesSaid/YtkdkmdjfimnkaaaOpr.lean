/- How a record comes in; both Sames by one contract. Conditions: typed in each theorem. -/
import Derived.Test.YtkdkmdjfimnkaaaCop
namespace Go.Proofs.Ytkdkmdjfimnkaaa
set_option linter.unusedVariables false
open Go.ChangeShapes Go.WideShapes Go.ChangeAt Go.RowKit

section
variable {H : Type} {enc : TypeId × Value → H} {W : World}
theorem cells_rec : Try.prog.cellsOf 26 = 6 := by kernel_rfl
/-- What is known of a record that came in. -/
def Rcd (W : World) (B : Nat) (kind : Int) (fl ex sq : Nat) (AK : Option Addr) (nk ck : Nat) (lk : List UInt8) (AV : Option Addr) (nv cv : Nat) (lv : List UInt8) : Prop :=
  Rd W B AK nk ck lk ∧ Rd W B AV nv cv lv ∧ fl ≤ 4294967295 ∧ ex ≤ 4294967295 ∧ sq ≤ 18446744073709551615
set_option maxRecDepth 100000 in
theorem trod_rec {fuel : Nat} {cs : List Value} {x : DataW H × List MemPlace} (h : DataW.trod enc Try.prog W 0 (fun _ => true) true fuel 26 cs = some x) :
    ∃ (kind : Int) (fl ex sq : Nat) (AK : Option Addr) (nk ck : Nat) (lk : List UInt8) (AV : Option Addr) (nv cv : Nat) (lv : List UInt8),
      cs = (recV kind fl ex sq (.slice AK nk ck) (.slice AV nv cv)).cells.toList ∧ Rcd W W.heap.size kind fl ex sq AK nk ck lk AV nv cv lv ∧
      ((∀ m ∈ x.1.weights Try.prog 26, m ≤ reachBytes) → ck ≤ 140737488351232 ∧ cv ≤ 140737488351232) := by
  obtain ⟨n, hl, hf⟩ := trod_fields Try.underlying26 h
  rw [cells_rec] at hl
  obtain ⟨c0, c1, c2, c3, c4, c5, rfl⟩ := list6 hl
  obtain ⟨y0, t0, w0⟩ := hf 0 3 0 rfl
  obtain ⟨y1, t1, w1⟩ := hf 1 22 1 rfl
  obtain ⟨y2, t2, w2⟩ := hf 2 22 2 rfl
  obtain ⟨y3, t3, w3⟩ := hf 3 23 3 rfl
  obtain ⟨y4, t4, w4⟩ := hf 4 24 4 rfl
  obtain ⟨y5, t5, w5⟩ := hf 5 24 5 rfl
  simp only [cells_u8s, cells_u32, cells_u64, cells_int, List.drop_zero, List.drop_succ_cons, List.take_succ_cons, List.take_zero] at t0 t1 t2 t3 t4 t5
  obtain ⟨kind, rfl, f0⟩ := trod_int1 Try.underlying3 t0
  obtain ⟨z1, rfl, f1⟩ := trod_int1 Try.underlying22 t1
  obtain ⟨z2, rfl, f2⟩ := trod_int1 Try.underlying22 t2
  obtain ⟨z3, rfl, f3⟩ := trod_int1 Try.underlying23 t3
  obtain ⟨AK, nk, ck, lk, rfl, r0, s0⟩ := trod_bytes1 t4
  obtain ⟨AV, nv, cv, lv, rfl, r1, s1⟩ := trod_bytes1 t5
  obtain ⟨fl, rfl, g1⟩ := wf_nat (M := 4294967295) f1 rfl rfl
  obtain ⟨ex, rfl, g2⟩ := wf_nat (M := 4294967295) f2 rfl rfl
  obtain ⟨sq, rfl, g3⟩ := wf_nat (M := 18446744073709551615) f3 rfl rfl
  exact ⟨kind, fl, ex, sq, AK, nk, ck, lk, AV, nv, cv, lv, rfl, ⟨r0, r1, by omega, by omega, by omega⟩, fun hw => ⟨s0 (w4 hw), s1 (w5 hw)⟩⟩
theorem open_rec {v : Value} {d : DataW H} {p : List MemPlace} {base : Nat} (hv : Value.okWide Try.prog W .any base 26 v) (h : DataW.Trod enc Try.prog W 0 (fun _ => true) true 26 v d p) :
    ∃ (kind : Int) (fl ex sq : Nat) (AK : Option Addr) (nk ck : Nat) (lk : List UInt8) (AV : Option Addr) (nv cv : Nat) (lv : List UInt8),
      v = recV kind fl ex sq (.slice AK nk ck) (.slice AV nv cv) ∧ Rcd W W.heap.size kind fl ex sq AK nk ck lk AV nv cv lv ∧
      ((∀ m ∈ d.weights Try.prog 26, m ≤ reachBytes) → ck ≤ 140737488351232 ∧ cv ≤ 140737488351232) := by
  obtain ⟨cs, rfl, hsz⟩ := okWide_struct Try.underlying26 hv
  obtain ⟨fuel, hf⟩ := h
  obtain ⟨kind, fl, ex, sq, AK, nk, ck, lk, AV, nv, cv, lv, hc, hi, hw⟩ := trod_rec hf
  refine ⟨kind, fl, ex, sq, AK, nk, ck, lk, AV, nv, cv, lv, ?_, hi, hw⟩
  have : cs = (recV kind fl ex sq (.slice AK nk ck) (.slice AV nv cv)).cells := by
    apply Array.toList_inj.1
    exact hc
  rw [this]; rfl
end
theorem both_same (k1 k2 : Int) (f1 f2 e1 e2 s1 s2 : Nat) (la lc la' lc' : List UInt8) : ∃ v : Bool, (∀ (A C A' C' : Option Addr) (na ca nc cc na' ca' nc' cc' : Nat) (w : World) (ra : Rd w w.heap.size A na ca la) (rc : Rd w w.heap.size C nc cc lc) (ra' : Rd w w.heap.size A' na' ca' la') (rc' : Rd w w.heap.size C' nc' cc' lc'), Calls Try.prog 12 #[recV k1 f1 e1 s1 (.slice A na ca) (.slice C nc cc), recV k2 f2 e2 s2 (.slice A' na' ca') (.slice C' nc' cc')] w (PSame v w)) ∧ (∀ (A C A' C' : Option Addr) (na ca nc cc na' ca' nc' cc' : Nat) (w : World) (ra : Rd w w.heap.size A na ca la) (rc : Rd w w.heap.size C nc cc lc) (ra' : Rd w w.heap.size A' na' ca' la') (rc' : Rd w w.heap.size C' nc' cc' lc'), Calls Try.prog 13 #[recV k1 f1 e1 s1 (.slice A na ca) (.slice C nc cc), recV k2 f2 e2 s2 (.slice A' na' ca') (.slice C' nc' cc')] w (PSame v w)) := by
  by_cases hk' : (k1 == k2) = false
  · have hk := hk'
    exact ⟨false, fun A C A' C' na ca nc cc na' ca' nc' cc' w ra rc ra' rc' => psame_0 k1 k2 f1 f2 e1 e2 s1 s2 A C A' C' na ca nc cc na' ca' nc' cc' la lc la' lc' w ra rc ra' rc' hk, fun A C A' C' na ca nc cc na' ca' nc' cc' w ra rc ra' rc' => rsame_0 k1 k2 f1 f2 e1 e2 s1 s2 A C A' C' na ca nc cc na' ca' nc' cc' la lc la' lc' w ra rc ra' rc' hk⟩
  have hk : (k1 == k2) = true := by simpa using hk'
  clear hk'
  by_cases hf' : ((f1 : Int) == (f2 : Int)) = false
  · have hf := hf'
    exact ⟨false, fun A C A' C' na ca nc cc na' ca' nc' cc' w ra rc ra' rc' => psame_1 k1 k2 f1 f2 e1 e2 s1 s2 A C A' C' na ca nc cc na' ca' nc' cc' la lc la' lc' w ra rc ra' rc' hk hf, fun A C A' C' na ca nc cc na' ca' nc' cc' w ra rc ra' rc' => rsame_1 k1 k2 f1 f2 e1 e2 s1 s2 A C A' C' na ca nc cc na' ca' nc' cc' la lc la' lc' w ra rc ra' rc' hk hf⟩
  have hf : ((f1 : Int) == (f2 : Int)) = true := by simpa using hf'
  clear hf'
  by_cases he' : ((e1 : Int) == (e2 : Int)) = false
  · have he := he'
    exact ⟨false, fun A C A' C' na ca nc cc na' ca' nc' cc' w ra rc ra' rc' => psame_2 k1 k2 f1 f2 e1 e2 s1 s2 A C A' C' na ca nc cc na' ca' nc' cc' la lc la' lc' w ra rc ra' rc' hk hf he, fun A C A' C' na ca nc cc na' ca' nc' cc' w ra rc ra' rc' => rsame_2 k1 k2 f1 f2 e1 e2 s1 s2 A C A' C' na ca nc cc na' ca' nc' cc' la lc la' lc' w ra rc ra' rc' hk hf he⟩
  have he : ((e1 : Int) == (e2 : Int)) = true := by simpa using he'
  clear he'
  by_cases hs' : ((s1 : Int) == (s2 : Int)) = false
  · have hs := hs'
    exact ⟨false, fun A C A' C' na ca nc cc na' ca' nc' cc' w ra rc ra' rc' => psame_3 k1 k2 f1 f2 e1 e2 s1 s2 A C A' C' na ca nc cc na' ca' nc' cc' la lc la' lc' w ra rc ra' rc' hk hf he hs, fun A C A' C' na ca nc cc na' ca' nc' cc' w ra rc ra' rc' => rsame_3 k1 k2 f1 f2 e1 e2 s1 s2 A C A' C' na ca nc cc na' ca' nc' cc' la lc la' lc' w ra rc ra' rc' hk hf he hs⟩
  have hs : ((s1 : Int) == (s2 : Int)) = true := by simpa using hs'
  clear hs'
  by_cases ha' : eqB la la' = false
  · have ha := ha'
    exact ⟨false, fun A C A' C' na ca nc cc na' ca' nc' cc' w ra rc ra' rc' => psame_4 k1 k2 f1 f2 e1 e2 s1 s2 A C A' C' na ca nc cc na' ca' nc' cc' la lc la' lc' w ra rc ra' rc' hk hf he hs ha, fun A C A' C' na ca nc cc na' ca' nc' cc' w ra rc ra' rc' => rsame_4 k1 k2 f1 f2 e1 e2 s1 s2 A C A' C' na ca nc cc na' ca' nc' cc' la lc la' lc' w ra rc ra' rc' hk hf he hs (by rw [← eqB_beq]; exact ha)⟩
  have ha : eqB la la' = true := by cases h : eqB la la' with | false => exact absurd h ha' | true => rfl
  clear ha'
  refine ⟨eqB lc lc', fun A C A' C' na ca nc cc na' ca' nc' cc' w ra rc ra' rc' => psame_5 k1 k2 f1 f2 e1 e2 s1 s2 A C A' C' na ca nc cc na' ca' nc' cc' la lc la' lc' w ra rc ra' rc' hk hf he hs ha, ?_⟩
  rw [eqB_beq]
  exact fun A C A' C' na ca nc cc na' ca' nc' cc' w ra rc ra' rc' => rsame_5 k1 k2 f1 f2 e1 e2 s1 s2 A C A' C' na ca nc cc na' ca' nc' cc' la lc la' lc' w ra rc ra' rc' hk hf he hs (by rw [← eqB_beq]; exact ha)
end Go.Proofs.Ytkdkmdjfimnkaaa

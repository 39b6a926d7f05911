/- How a sector comes in. Conditions: typed in each theorem. -/
import Derived.Test.YtkemlpcfijfaeaaStd
import Derived.Test.YtkemlpcfijfaeaaOpen
namespace Go.Proofs.Ytkemlpcfijfaeaa
set_option linter.unusedVariables false
open Go.ChangeShapes Go.WideShapes Go.ChangeAt Go.RowKit

theorem okWide_arr {P : Program} {w : World} {r : Reach} {base : Nat} {t e : TypeId} {n : Nat} {v : Value} (ht : P.underlying t = some (.array n e)) (h : Value.okWide P w r base t v) : ∃ cs, v = .agg cs ∧ cs.size = P.cellsOf t := by
  simp only [Value.okWide, ht] at h
  obtain ⟨cs, h1, h2, _⟩ := h
  exact ⟨cs, h1, h2⟩
theorem cells_block : Try.prog.cellsOf 47 = 64 := by kernel_rfl
section
variable {H : Type} {enc : TypeId × Value → H} {W : World}
/-- What 64 cells read as, each a byte. -/
theorem bytes_of : ∀ (n : Nat) (cs : List Value), cs.length = n → (∀ i, i < n → ∃ x : UInt8, cs[i]? = some (cb x)) → ∃ L : List UInt8, L.length = n ∧ cs = cbs L
  | 0, cs, h, _ => ⟨[], rfl, List.eq_nil_of_length_eq_zero h⟩
  | n + 1, cs, h, hb => by
    match cs, h with
    | c :: cs, h =>
      obtain ⟨x, hx⟩ := hb 0 (by omega)
      obtain ⟨L, h1, h2⟩ := bytes_of n cs (by simpa using h) fun i hi => by
        obtain ⟨y, hy⟩ := hb (i + 1) (by omega)
        exact ⟨y, by simpa using hy⟩
      refine ⟨x :: L, by simp [h1], ?_⟩
      have : c = cb x := by simpa using hx
      rw [this, h2]; rfl
set_option maxRecDepth 100000 in
theorem trod_block {fuel : Nat} {cs : List Value} {x : DataW H × List MemPlace} (h : DataW.trod enc Try.prog W 0 (fun _ => true) true fuel 47 cs = some x) : ∃ L : List UInt8, L.length = 64 ∧ cs = cbs L := by
  obtain ⟨xs, m, rfl, rfl, hl, hxs, hi⟩ := DataW.trod_array unA h
  rw [cells_block] at hl
  refine bytes_of 64 cs hl fun i hi' => ?_
  have h1 := hi i hi'
  rw [cells_u8, Nat.mul_one, List.getElem?_eq_getElem (by omega)] at h1
  have h2 : (cs.drop i).take 1 = [cs[i]'(by omega)] := by
    rw [List.drop_eq_getElem_cons (by omega)]; rfl
  rw [h2] at h1
  obtain ⟨z, hz, hw⟩ := trod_int1 Try.underlying5 h1
  refine ⟨byteOf z, ?_⟩
  rw [List.getElem?_eq_getElem (by omega), cb_byteOf hw]
  exact congrArg some hz
set_option maxRecDepth 100000 in
theorem open_block {v : Value} {d : DataW H} {p : List MemPlace} {base : Nat} (hv : Value.okWide Try.prog W .any base 47 v) (h : DataW.Trod enc Try.prog W 0 (fun _ => true) true 47 v d p) :
    ∃ L : List UInt8, v = .agg (ar L) ∧ L.length = 64 ∧ ((∀ m ∈ d.weights Try.prog 47, m ≤ reachBytes) → True) := by
  obtain ⟨cs, rfl, hsz⟩ := okWide_arr unA hv
  obtain ⟨fuel, hf⟩ := h
  obtain ⟨L, hL, hc⟩ := trod_block hf
  refine ⟨L, ?_, hL, fun _ => trivial⟩
  have : cs = ar L := by
    apply Array.toList_inj.1
    exact hc
  rw [this]
set_option maxRecDepth 100000 in
theorem open_block2 {v : Value} {d : DataW H} {p : List MemPlace} {base : Nat} (hv : Value.okWide Try.prog W .any base 47 v) (h : DataW.Trod enc Try.prog W 0 (fun _ => true) true 47 v d p) :
    ∃ L : List UInt8, v = .agg (ar L) ∧ (L.length = 64 ∧ True) ∧ ((∀ m ∈ d.weights Try.prog 47, m ≤ reachBytes) → True) := by
  obtain ⟨L, h1, h2, h3⟩ := open_block hv h
  exact ⟨L, h1, ⟨h2, trivial⟩, h3⟩
end
end Go.Proofs.Ytkemlpcfijfaeaa

/- How a row of sectors comes in. Conditions: typed in each theorem. -/
import Derived.Test.YtkemlpcfijfaeaaOpb
import Derived.Test.YtkemlpcfijfaeaaOpel
import Derived.Test.YtkemlpcfijfaeaaSpn
namespace Go.Proofs.Ytkemlpcfijfaeaa
set_option linter.unusedVariables false
open Go.ChangeShapes Go.WideShapes Go.ChangeAt Go.RowKit

/-- Thing number k of rows of z things each. -/
theorem flat_at {α : Type} {z : Nat} (hz : 0 < z) : ∀ (L : List (List α)), (∀ x ∈ L, x.length = z) → ∀ k, L.flatten[k]? = (L[k / z]?).bind (fun x => x[k % z]?)
  | [], _, k => by simp
  | v :: vs, hv, k => by
    have hvs : v.length = z := hv v List.mem_cons_self
    rw [List.flatten_cons]
    by_cases hk : k < z
    · rw [List.getElem?_append_left (by omega), Nat.div_eq_of_lt hk, Nat.mod_eq_of_lt hk]
      simp
    · have h1 : k / z = (k - z) / z + 1 := by
        have := Nat.sub_add_cancel (Nat.le_of_not_lt hk)
        conv => lhs; rw [← this]
        rw [Nat.add_div_right _ hz]
      have h2 : k % z = (k - z) % z := by
        have := Nat.sub_add_cancel (Nat.le_of_not_lt hk)
        conv => lhs; rw [← this]
        rw [Nat.add_mod_right]
      rw [List.getElem?_append_right (by omega), hvs, flat_at hz vs (fun u hu => hv u (List.mem_cons_of_mem _ hu)) (k - z), h1, h2, List.getElem?_cons_succ]
section
variable {H : Type} {enc : TypeId × Value → H} {W : World}
set_option maxRecDepth 100000 in
theorem open_blocks {v : Value} {d : DataW H} {p : List MemPlace} {base : Nat} (hv : Value.okWide Try.prog W .any base 30 v) (h : DataW.Trod enc Try.prog W 0 (fun _ => true) true 30 v d p) :
    ∃ (A : Option Addr) (n c : Nat) (L : List (List UInt8)), v = .slice A n c ∧ (RdB W W.heap.size A n c L ∧ ∀ x ∈ L, x.length = 64) ∧ ((∀ m ∈ d.weights Try.prog 30, m ≤ reachBytes) → True) := by
  obtain ⟨a, n, c, rfl⟩ := okWide_slice Try.underlying30 hv
  obtain ⟨fuel, hf⟩ := h
  obtain ⟨A, n', c', L, hcs, hl, hnc, hcm, hA, hel, hw⟩ := trod_list (k := 64) (fun (l : List UInt8) cs => l.length = 64 ∧ cs = cbs l) (fun _ => True) Try.underlying30 cells_block (by omega)
    (fun fuel cs x h => by obtain ⟨l, h1, h2⟩ := trod_block h; exact ⟨l, ⟨h1, h2⟩, fun _ => trivial⟩) hf
  simp [Value.cells] at hcs
  obtain ⟨rfl, rfl, rfl⟩ := hcs
  have h64 : ∀ x ∈ L, x.length = 64 := by
    intro x hx
    obtain ⟨i, hi, rfl⟩ := List.getElem_of_mem hx
    obtain ⟨_, _, _, _, h1, _⟩ := hel i _ (List.getElem?_eq_getElem hi)
    exact h1.1
  refine ⟨_, _, _, L, rfl, ⟨⟨?_, hnc, hcm, hA, fun ad h0 hn => ?_, fun ad i u h0 hu => ?_⟩, h64⟩, fun _ => trivial⟩
  · unfold cbb
    rw [length_cbs, flat_len 64 L h64, hl]
  · obtain ⟨ad', vs, h1, h2, _⟩ := hel 0 _ (List.getElem?_eq_getElem (by omega))
    rw [h0] at h1
    injection h1 with h1
    subst h1
    exact h2
  · unfold cbb at hu
    rw [cbs_get?, flat_at (by omega) L h64] at hu
    cases hx : L[i / 64]? with
    | none => rw [hx] at hu; simp at hu
    | some x =>
      rw [hx, Option.bind_some] at hu
      obtain ⟨ad', vs, h1, _, ⟨_, h3⟩, _, h4⟩ := hel _ _ hx
      rw [h0] at h1
      injection h1 with h1
      subst h1
      have := h4 (i % 64) u (by rw [h3, cbs_get?]; exact hu)
      rwa [show i / 64 * 64 + i % 64 = i from by omega] at this
end
end Go.Proofs.Ytkemlpcfijfaeaa

/- Slices whose elements have several cells: an element stored. Conditions: typed in each theorem. -/
import Derived.Test.YtkemlpcfijfaeaaRow
import Derived.Laws.CopyRow
namespace Go.Proofs.Ytkemlpcfijfaeaa
set_option linter.unusedVariables false
open Go.RowKit

theorem take_put {α : Type} (L vs : List α) (a z N : Nat) (hv : vs.length = z) (h : a + z ≤ N) (hN : N ≤ L.length) : (L.take a ++ vs ++ L.drop (a + z)).take N = (L.take N).take a ++ vs ++ (L.take N).drop (a + z) := by
  have hX : (L.take a ++ vs).length = a + z := by rw [List.length_append, List.length_take, hv]; omega
  rw [List.take_take, Nat.min_eq_left (by omega), List.drop_take, List.take_append, List.take_of_length_le (by omega), hX]
/-- A whole element stored into a slice of the call's own. -/
theorem Oz.put {P : Program} {w : World} {B z n c g : Nat} {e : TypeId} {xs : List Value} (h : Oz w B e z (some ⟨g, 0, none⟩) n c xs) {k : Nat} (hk : k < n) (vs : List Value) (hv : vs.length = z) (h1 : ∀ v ∈ vs, v.oneCell' = true) :
    ∃ w', (storeCells ⟨g, k * z, none⟩ vs 0).run P w = .ok () w' ∧ Oz w' B e z (some ⟨g, 0, none⟩) n c (xs.take (k * z) ++ vs ++ xs.drop (k * z + z)) ∧ w.grownBy w' (some g) := by
  obtain ⟨hl, h2⟩ := h
  rcases h2 with ⟨hv', _⟩ | ⟨g', cap, cur, hv', hb, hg, hnc, hcm, hcs, ht⟩
  · simp at hv'
  · simp only [Value.slice.injEq, Option.some.injEq, Addr.mk.injEq, and_true, true_and] at hv'
    obtain ⟨rfl, rfl⟩ := hv'
    have hkz : k * z + z ≤ n * z := by have := Nat.mul_le_mul_right z hk; rwa [Nat.succ_mul] at this
    have hnz : n * z ≤ c * z := Nat.mul_le_mul_right z hnc
    have hrun := run_storeCells_at (P := P) g (k * z) e vs 0 cur w hg (by omega) h1
    rw [Nat.add_zero, hv] at hrun
    have hcl : cur.toList.length = c * z := by rw [Array.length_toList, hcs]
    refine ⟨_, hrun, ⟨?_, .inr ⟨g, c, _, rfl, hb, setRow_heap w g cur _ e _ hg, hnc, hcm, ?_, ?_⟩⟩, ⟨rfl, rfl, rfl, by simp [World.setRow], fun q hq hne => setRow_other w g q _ (fun e => hne (by rw [e]))⟩⟩
    · rw [List.length_append, List.length_append, List.length_take, List.length_drop, hl, hv]; omega
    · simp only [List.size_toArray, List.length_append, List.length_take, List.length_drop, hcl, hv]; omega
    · rw [← ht]
      exact take_put cur.toList vs (k * z) z (n * z) hv hkz (by omega)
theorem Oz.form {w : World} {B z n c : Nat} {A : Option Addr} {e : TypeId} {xs : List Value} (h : Oz w B e z A n c xs) (hn : 0 < n) : ∃ g, A = some ⟨g, 0, none⟩ ∧ B ≤ g ∧ g < w.heap.size := by
  obtain ⟨g, cap, hv, hb, hlt⟩ := World.ownsRow.form h hn
  injection hv with hv
  exact ⟨g, hv, hb, hlt⟩
end Go.Proofs.Ytkemlpcfijfaeaa

/- How a slice of whatever elements comes in: off the elements' own reading. Conditions: typed in each theorem. -/
import Derived.Test.YtnghmgbmflcngaaOpen
import Derived.Deep.Slices
namespace Go.Proofs.Ytnghmgbmflcngaa
set_option linter.unusedVariables false
open Go.ChangeShapes Go.WideShapes Go.ChangeAt Go.RowKit
section
variable {H : Type} {enc : TypeId × Value → H} {W : World}
theorem weights_all {P : Program} {e : TypeId} : ∀ {ds : List (DataW H)} {d : DataW H}, d ∈ ds → ∀ m ∈ d.weights P e, m ∈ DataW.weightsAll P e ds
  | d0 :: ds, d, hd, m, hm => by
    simp only [DataW.weightsAll, List.mem_append]
    rcases List.mem_cons.1 hd with rfl | hd
    · exact Or.inl hm
    · exact Or.inr (weights_all hd m hm)
theorem trod_list {α : Type} {P : Program} {T E : TypeId} {k : Nat} (R : α → List Value → Prop) (S : α → Prop) {fuel : Nat} {cs : List Value} {x : DataW H × List MemPlace}
    (hT : P.underlying T = some (.slice E)) (hk : P.cellsOf E = k) (hk0 : 0 < k)
    (hR : ∀ (fuel : Nat) (cs : List Value) (x : DataW H × List MemPlace), DataW.trod enc P W 0 (fun _ => true) true fuel E cs = some x → ∃ a, R a cs ∧ ((∀ m ∈ x.1.weights P E, m ≤ reachBytes) → S a))
    (h : DataW.trod enc P W 0 (fun _ => true) true fuel T cs = some x) :
    ∃ (A : Option Addr) (n c : Nat) (l : List α), cs = [.slice A n c] ∧ l.length = n ∧ n ≤ c ∧ c ≤ maxLen ∧ (A = none → c = 0) ∧
      (∀ i a, l[i]? = some a → ∃ ad vs, A = some ad ∧ ad.block < W.heap.size ∧ R a vs ∧ vs.length = k ∧ ∀ j u, vs[j]? = some u → W.cell? (ad.add (i * k + j)) = some u) ∧
      ((∀ m ∈ x.1.weights P T, m ≤ reachBytes) → c * P.bytesOf E ≤ reachBytes ∧ ∀ a ∈ l, S a) := by
  rcases Go.Deep.open_slice hT h with ⟨rfl, rfl⟩ | ⟨a, len, cap, m, n, D, Pl, rfl, _, hl, hm, hmm, rfl, hi⟩
  · exact ⟨none, 0, 0, [], rfl, rfl, Nat.le_refl _, by simp [maxLen], fun _ => rfl, fun i a h => by simp at h, fun _ => ⟨by simp, fun a h => by simp at h⟩⟩
  · simp only [if_true] at hmm
    obtain rfl : m = cap := hmm
    have each : ∀ i, i < len → ∃ b, (∃ vs, R b vs ∧ vs.length = k ∧ ∀ j u, vs[j]? = some u → W.cell? (a.add (i * k + j)) = some u) ∧ ((∀ q ∈ (D i).weights P E, q ≤ reachBytes) → S b) := by
      intro i hi'
      obtain ⟨vs, hc, ht⟩ := hi i (by omega)
      obtain ⟨b, hb, hs⟩ := hR n vs _ ht
      obtain ⟨_, hvl, hat⟩ := World.cells?_some hc
      rw [hk] at hvl hat
      refine ⟨b, ⟨vs, hb, hvl, fun j u hu => ?_⟩, hs⟩
      have hj : j < k := by have := (List.getElem?_eq_some_iff.1 hu).1; omega
      have h1 := hat j hj
      rw [add_add] at h1
      rw [h1, hu]
    obtain ⟨l, hll, hl2⟩ : ∃ l : List α, l.length = len ∧ ∀ i b, l[i]? = some b → (∃ vs, R b vs ∧ vs.length = k ∧ ∀ j u, vs[j]? = some u → W.cell? (a.add (i * k + j)) = some u) ∧ ((∀ q ∈ (D i).weights P E, q ≤ reachBytes) → S b) := by
      clear hi hl h
      induction len with
      | zero => exact ⟨[], rfl, fun i b h => by simp at h⟩
      | succ len ih =>
        obtain ⟨l, h1, h2⟩ := ih (fun i hi' => each i (by omega))
        obtain ⟨b, hb⟩ := each len (by omega)
        refine ⟨l ++ [b], by simp [h1], fun i c hc => ?_⟩
        rcases Nat.lt_or_ge i l.length with hlt | hge
        · rw [List.getElem?_append_left hlt] at hc
          exact h2 i c hc
        · rw [List.getElem?_append_right hge] at hc
          have h0 : i - l.length = 0 := by
            have := (List.getElem?_eq_some_iff.1 hc).1
            simp at this; omega
          rw [h0] at hc
          simp at hc
          subst hc
          have : i = len := by omega
          subst this
          exact hb
    refine ⟨some a, len, m, l, rfl, hll, hl, hm, (fun h => by cases h), fun i b hb => ?_, fun hw => ?_⟩
    · obtain ⟨⟨vs, h1, h2, h3⟩, _⟩ := hl2 i b hb
      refine ⟨a, vs, rfl, ?_, h1, h2, h3⟩
      have h0 := h3 0 (vs[0]'(by omega)) (List.getElem?_eq_getElem (by omega))
      have := World.block_lt_of_cell? W _ h0
      rwa [block_add] at this
    · refine ⟨?_, fun b hb => ?_⟩
      · have := hw _ (by simp only [DataW.weights, hT]; exact List.mem_cons_self ..)
        simp only [List.length_map, List.length_range] at this
        rwa [show len + (m - len) = m from by omega] at this
      · obtain ⟨i, hi', hib⟩ := List.getElem_of_mem hb
        have h1 := (hl2 i b (by rw [List.getElem?_eq_getElem hi', hib])).2
        refine h1 fun q hq => hw q ?_
        simp only [DataW.weights, hT]
        refine List.mem_cons_of_mem _ (List.mem_append.2 (Or.inl (weights_all (d := D i) ?_ q hq)))
        exact List.mem_map.2 ⟨i, List.mem_range.2 (by omega), rfl⟩
end
end Go.Proofs.Ytnghmgbmflcngaa

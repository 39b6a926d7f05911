/- A region that draws its order and ends in stores: an operation below m keeps the condition S where it holds. Conditions: typed in each theorem. -/
import Derived.Test.YtnghmgbmflcngaaZhld
namespace Go.Proofs.Ytnghmgbmflcngaa
set_option linter.unusedVariables false
open Go.RowKit
section
variable {P : Program} {ops : Array Oper} {Q : Exit → Act → World → Prop} {md : Region.Mode} {S : World → Prop} {m : Nat}
def anyK (P : Program) (md : Region.Mode) (ops : Array Oper) (Q : Exit → Act → World → Prop) (S : World → Prop) (m : Nat) : Nat → Array Bool → Act → World → Prop
  | 0, listed, a, w => Region.ready md ops listed = [] ∧ Q .normal a w
  | f + 1, listed, a, w => (Region.ready md ops listed = [] → Q .normal a w) ∧ ∀ i ∈ Region.ready md ops listed, wpOp P ops Q i (fun a' w' => (i < m → S w → S w') ∧ anyK P md ops Q S m f (listed.setIfInBounds i true) a' w') a w
theorem anyK_any : ∀ (f : Nat) (listed : Array Bool) (a : Act) (w : World), anyK P md ops Q S m f listed a w → wpAny P md ops Q f listed a w := by
  intro f
  induction f with
  | zero => intro _ _ _ h; exact h
  | succ f ih => intro _ _ _ h; exact ⟨h.1, fun i hi => wpOp_mono (fun _ _ h' => ih _ _ _ h'.2) (h.2 i hi)⟩
theorem takeKr {i : Nat} {oi : Oper} {v : Value} {f : Nat} {listed : Array Bool} {a : Act} {w : World} (hi : ops.toList[i]? = some oi)
    (hs : Region.noSelect ops = true) (hL : lastB md ops m i = true) (him : i < m) (hf : Region.free md ops listed i = true) (hr : (Region.ready md ops listed).contains i = true)
    (hQ : ∀ c a w, Q (.panic c) (a.put oi.dst v) w → Q (.panic c) a w) (hy : YieldsIf P ops S oi v a) (hS : S w)
    (h : anyK P md ops Q S m f (listed.setIfInBounds i true) (a.put oi.dst v) w) : anyK P md ops Q S m (f + 1) listed a w := by
  rw [Array.getElem?_toList] at hi
  have hsel := Region.noSelect_spec hs
  have hfree := Region.free_spec hi hf
  have hr' : i ∈ Region.ready md ops listed := by simpa using hr
  clear hr hf
  induction f generalizing listed a w with
  | zero =>
    constructor
    · intro h'; rw [h'] at hr'; cases hr'
    · intro j hj
      by_cases hji : j = i
      · subst hji; exact hy.wpOp hi hS ⟨fun _ _ => hS, h⟩
      · have h0 := ready_mono hj hji
        rw [h.1] at h0
        cases h0
  | succ f ih =>
    constructor
    · intro h'; rw [h'] at hr'; cases hr'
    · intro j hj
      by_cases hji : j = i
      · subst hji; exact hy.wpOp hi hS ⟨fun _ _ => hS, h⟩
      · have hjm := last_not hL hr' hj him
        obtain ⟨hun, oj, hoj, hall⟩ := mem_ready.1 hj
        have hno : ∀ e ∈ oj.after, Region.binds md e = true → e.on ≠ i := by
          intro e he hb heq
          have h1 := hall e he hb
          rw [heq, getD_both (mem_ready.1 hr').1] at h1
          cases h1
        refine wpOp_mono ?_ (wpOp_putIf hoj (hfree j oj hoj hji hun hno) (fun cs b => hsel i oi cs b hi) (fun cs b => hsel j oj cs b hoj) hQ hy (h.2 j (ready_mono hj hji)))
        intro a' w' h3
        refine ⟨fun hj' hS' => h3.2.1 hj' hS', ih h3.1 (h3.2.1 hjm hS) ?_ ?_ (ready_mono hr' (Ne.symm hji))⟩
        · rw [Array.setIfInBounds_comm _ _ hji]
          exact h3.2.2
        · intro k ok hk hki hkun hkno
          refine hfree k ok hk hki ?_ hkno
          by_cases hjk : j = k
          · subst hjk; exact hun
          · rw [getD_set_ne true hjk] at hkun; exact hkun
theorem takeKw {i : Nat} {oi : Oper} {v : Value} {f : Nat} {listed : Array Bool} {a : Act} {w : World} (hi : ops.toList[i]? = some oi)
    (hs : Region.noSelect ops = true) (hf : Region.free md ops listed i = true) (hr : (Region.ready md ops listed).contains i = true)
    (hQ : ∀ c a w, Q (.panic c) (a.put oi.dst v) w → Q (.panic c) a w) (hy : YieldsIf P ops (fun _ => True) oi v a)
    (h : anyK P md ops Q S m f (listed.setIfInBounds i true) (a.put oi.dst v) w) : anyK P md ops Q S m (f + 1) listed a w := by
  rw [Array.getElem?_toList] at hi
  have hsel := Region.noSelect_spec hs
  have hfree := Region.free_spec hi hf
  have hr' : i ∈ Region.ready md ops listed := by simpa using hr
  clear hr hf
  induction f generalizing listed a w with
  | zero =>
    constructor
    · intro h'; rw [h'] at hr'; cases hr'
    · intro j hj
      by_cases hji : j = i
      · subst hji; exact hy.wpOp hi trivial ⟨fun _ hS => hS, h⟩
      · have h0 := ready_mono hj hji
        rw [h.1] at h0
        cases h0
  | succ f ih =>
    constructor
    · intro h'; rw [h'] at hr'; cases hr'
    · intro j hj
      by_cases hji : j = i
      · subst hji; exact hy.wpOp hi trivial ⟨fun _ hS => hS, h⟩
      · obtain ⟨hun, oj, hoj, hall⟩ := mem_ready.1 hj
        have hno : ∀ e ∈ oj.after, Region.binds md e = true → e.on ≠ i := by
          intro e he hb heq
          have h1 := hall e he hb
          rw [heq, getD_both (mem_ready.1 hr').1] at h1
          cases h1
        refine wpOp_mono ?_ (wpOp_putIf hoj (hfree j oj hoj hji hun hno) (fun cs b => hsel i oi cs b hi) (fun cs b => hsel j oj cs b hoj) hQ hy (h.2 j (ready_mono hj hji)))
        intro a' w' h3
        refine ⟨fun hj' hS' => h3.2.1 hj' hS', ih h3.1 ?_ ?_ (ready_mono hr' (Ne.symm hji))⟩
        · rw [Array.setIfInBounds_comm _ _ hji]
          exact h3.2.2
        · intro k ok hk hki hkun hkno
          refine hfree k ok hk hki ?_ hkno
          by_cases hjk : j = k
          · subst hjk; exact hun
          · rw [getD_set_ne true hjk] at hkun; exact hkun
def StepK (P : Program) (md : Region.Mode) (ops : Array Oper) (Q : Exit → Act → World → Prop) (S : World → Prop) (m f : Nat) (listed : Array Bool) (a : Act) (w : World) (i : Nat) : Prop :=
  ∃ o, ops.toList[i]? = some o ∧ ∀ K' : Act → World → Prop, Shut (∀ a' w', (i < m → S w → S w') → anyK P md ops Q S m f (listed.setIfInBounds i true) a' w' → K' a' w') → if Region.wanted o (yielded ops a.tmps) = true then Oper.wp P o a w K' Q else K' (a.put o.dst undef) w
theorem manyK {f : Nat} {listed : Array Bool} {a : Act} {w : World} {L : List Nat} (hr : Region.ready md ops listed = L) (h : ∀ i ∈ L, StepK P md ops Q S m f listed a w i) (hne : L ≠ []) : anyK P md ops Q S m (f + 1) listed a w := by
  refine ⟨fun h0 => absurd (hr.symm.trans h0) hne, fun i hi => ?_⟩
  rw [hr] at hi
  obtain ⟨o, ho, h⟩ := h i hi
  rw [Array.getElem?_toList] at ho
  unfold wpOp
  simp only [ho]
  have h' := h (fun a' w' => (i < m → S w → S w') ∧ anyK P md ops Q S m f (listed.setIfInBounds i true) a' w') (fun a w h1 h2 => And.intro h1 h2)
  by_cases hw : Region.wanted o (yielded ops a.tmps) = true
  · rw [if_pos hw] at h' ⊢
    exact Or.inl h'
  · rw [if_neg hw] at h' ⊢
    exact h'
theorem oneK {i : Nat} {o : Oper} {f : Nat} {listed : Array Bool} {a : Act} {w : World} (ho : ops.toList[i]? = some o) (hr : Region.ready md ops listed = [i])
    (h : ∀ K' : Act → World → Prop, Shut (∀ a' w', (i < m → S w → S w') → anyK P md ops Q S m f (listed.setIfInBounds i true) a' w' → K' a' w') → if Region.wanted o (yielded ops a.tmps) = true then Oper.wp P o a w K' Q else K' (a.put o.dst undef) w) :
    anyK P md ops Q S m (f + 1) listed a w :=
  manyK hr (fun x hx => by obtain rfl : x = i := by simpa using hx
                           exact ⟨o, ho, h⟩) (by simp)
theorem doneK {listed : Array Bool} {a : Act} {w : World} (hr : Region.ready md ops listed = []) (h : Q .normal a w) : ∀ f, anyK P md ops Q S m f listed a w
  | 0 => ⟨hr, h⟩
  | _ + 1 => ⟨fun _ => h, by rw [hr]; simp⟩
theorem region_K (S : World → Prop) (m : Nat) {id : Nat} {a : Act} {w : World} (hm : P.follows .mixedOrders = true) (h : anyK P .any ops Q S m ops.size (Array.replicate ops.size false) a w.drew) : (Code.region id ops true).wp P Q a w :=
  wp_region_any hm (anyK_any _ _ _ _ h)
end
end Go.Proofs.Ytnghmgbmflcngaa

/- Drawn regions that end in stores (out of Hold). Conditions: typed in each theorem. -/
import Derived.Test.YtajjoepdkikeeaaSfP
import Derived.StillTail
import Derived.Deep.RegionHeld3
namespace Go.Proofs.Ytajjoepdkikeeaa
set_option linter.unusedVariables false
open Go.RowKit

section
variable {P : Program} {ops : Array Oper} {Q : Exit → Act → World → Prop} {md : Region.Mode} {S : World → Prop} {m : Nat}

/-- Whatever order: S holds behind each operation whose number is below m. -/
def anyT (P : Program) (md : Region.Mode) (ops : Array Oper) (Q : Exit → Act → World → Prop) (S : World → Prop) (m : Nat) : Nat → Array Bool → Act → World → Prop
  | 0, listed, a, w => Region.ready md ops listed = [] ∧ Q .normal a w
  | f + 1, listed, a, w => (Region.ready md ops listed = [] → Q .normal a w) ∧ ∀ i ∈ Region.ready md ops listed, wpOp P ops Q i (fun a' w' => (i < m → S w') ∧ anyT P md ops Q S m f (listed.setIfInBounds i true) a' w') a w
theorem anyT_any : ∀ (f : Nat) (listed : Array Bool) (a : Act) (w : World), anyT P md ops Q S m f listed a w → wpAny P md ops Q f listed a w := by
  intro f
  induction f with
  | zero => intro _ _ _ h; exact h
  | succ f ih => intro _ _ _ h; exact ⟨h.1, fun i hi => wpOp_mono (fun _ _ h' => ih _ _ _ h'.2) (h.2 i hi)⟩
/-- Each operation from m on waits for i. -/
def lastB (md : Region.Mode) (ops : Array Oper) (m i : Nat) : Bool := (List.range ops.size).all fun j => decide (j < m) || Region.waitsFor md ops j i
theorem last_not {listed : Array Bool} {i j : Nat} (hL : lastB md ops m i = true) (hi : i ∈ Region.ready md ops listed) (hj : j ∈ Region.ready md ops listed) (him : i < m) : j < m := by
  obtain ⟨_, oj, hoj, hall⟩ := mem_ready.1 hj
  have hun := (mem_ready.1 hi).1
  rcases Nat.lt_or_ge j m with h | h
  · exact h
  · exfalso
    have h1 := List.all_eq_true.1 hL j (List.mem_range.2 (Array.getElem?_eq_some_iff.1 hoj).1)
    rw [Bool.or_eq_true] at h1
    rcases h1 with h1 | h1
    · have := of_decide_eq_true h1; omega
    · obtain ⟨o', ho', e, he, hb, hon⟩ := Region.waitsFor_spec h1
      have e1 : oj = o' := Option.some.inj (hoj.symm.trans ho')
      subst e1
      have h2 := hall e he hb
      rw [hon] at h2
      rw [getD_both hun] at h2
      cases h2
theorem anyT_first {i : Nat} {oi : Oper} {v : Value} (hi : ops[i]? = some oi) (hsel : ∀ (j : Nat) (o : Oper) cs b, ops[j]? = some o → o.op ≠ .select cs b) (Inv : Array Bool → Prop)
    (hI : ∀ listed j, Inv listed → j ∈ Region.ready md ops listed → Inv (listed.setIfInBounds j true)) (hnot : ∀ listed, Inv listed → i ∈ Region.ready md ops listed → ∀ j ∈ Region.ready md ops listed, j < m)
    (hQ : ∀ c a w, Q (.panic c) (a.put oi.dst v) w → Q (.panic c) a w) : ∀ (f : Nat) (listed : Array Bool) (a : Act) (w : World), Inv listed →
    (∀ j oj, ops[j]? = some oj → j ≠ i → listed.getD j true = false → (∀ e ∈ oj.after, Region.binds md e = true → e.on ≠ i) → oi.apart ops oj = true) →
    i ∈ Region.ready md ops listed → YieldsIf P ops S oi v a → S w → anyT P md ops Q S m f (listed.setIfInBounds i true) (a.put oi.dst v) w → anyT P md ops Q S m (f + 1) listed a w := by
  intro f
  induction f with
  | zero =>
    intro listed a w _ _ hr hy hS H
    constructor
    · intro h; rw [h] at hr; cases hr
    · intro j hj
      by_cases hji : j = i
      · subst hji; exact hy.wpOp hi hS ⟨fun _ => hS, H⟩
      · have h0 := ready_mono hj hji
        rw [H.1] at h0
        cases h0
  | succ f ih =>
    intro listed a w hinv hfree hr hy hS H
    constructor
    · intro h; rw [h] at hr; cases hr
    · intro j hj
      by_cases hji : j = i
      · subst hji; exact hy.wpOp hi hS ⟨fun _ => hS, H⟩
      · have hjm := hnot listed hinv hr j hj
        obtain ⟨hun, oj, hoj, hall⟩ := mem_ready.1 hj
        have hno : ∀ e ∈ oj.after, Region.binds md e = true → e.on ≠ i := by
          intro e he hb heq
          have h1 := hall e he hb
          rw [heq, getD_both (mem_ready.1 hr).1] at h1
          cases h1
        refine wpOp_mono ?_ (wpOp_putIf hoj (hfree j oj hoj hji hun hno) (fun cs b => hsel i oi cs b hi) (fun cs b => hsel j oj cs b hoj) hQ hy (H.2 j (ready_mono hj hji)))
        intro a' w' h3
        refine ⟨fun _ => h3.2.1 hjm, ih (listed.setIfInBounds j true) a' w' (hI listed j hinv hj) ?_ (ready_mono hr (Ne.symm hji)) h3.1 (h3.2.1 hjm) ?_⟩
        · intro k ok hk hki hkun hkno
          refine hfree k ok hk hki ?_ hkno
          by_cases hjk : j = k
          · subst hjk; exact hun
          · rw [getD_set_ne true hjk] at hkun; exact hkun
        · rw [Array.setIfInBounds_comm _ _ hji]
          exact h3.2.2
theorem takeT {i : Nat} {oi : Oper} {v : Value} {f : Nat} {listed : Array Bool} {a : Act} {w : World} (hi : ops.toList[i]? = some oi)
    (hs : Region.noSelect ops = true) (hL : lastB md ops m i = true) (him : i < m) (hf : Region.free md ops listed i = true) (hr : (Region.ready md ops listed).contains i = true)
    (hQ : ∀ c a w, Q (.panic c) (a.put oi.dst v) w → Q (.panic c) a w) (hy : YieldsIf P ops S oi v a) (hS : S w)
    (h : anyT P md ops Q S m f (listed.setIfInBounds i true) (a.put oi.dst v) w) : anyT P md ops Q S m (f + 1) listed a w := by
  rw [Array.getElem?_toList] at hi
  exact anyT_first hi (Region.noSelect_spec hs) (fun _ => True) (fun _ _ _ _ => trivial) (fun _ _ h1 _ h2 => last_not hL h1 h2 him) hQ f listed a w trivial (Region.free_spec hi hf) (by simpa using hr) hy hS h
/-- What is listed, all that it waits for is listed. -/
def closedB (md : Region.Mode) (ops : Array Oper) (listed : Array Bool) : Bool := decide (listed.size = ops.size) && (List.range ops.size).all fun j => !listed.getD j false || (match ops[j]? with | some oj => oj.after.all (fun e => !Region.binds md e || listed.getD e.on false) | none => true)
theorem closed_inv {listed : Array Bool} (h : closedB md ops listed = true) : HeadInv md ops ops.size listed := by
  unfold closedB at h
  rw [Bool.and_eq_true] at h
  refine ⟨of_decide_eq_true h.1, fun j oj hj hl e he hb => ?_, fun t h1 h2 => by omega⟩
  have h1 := List.all_eq_true.1 h.2 j (List.mem_range.2 (Array.getElem?_eq_some_iff.1 hj).1)
  simp only [hl, hj, Bool.not_true, Bool.false_or] at h1
  have h2 := Array.all_eq_true'.1 h1 e he
  rw [hb] at h2
  simpa using h2
/-- Each operation from m on waits for i, itself or by one that it waits for. -/
def lastB2 (md : Region.Mode) (ops : Array Oper) (m i : Nat) : Bool := (List.range ops.size).all fun j => decide (j < m) || Region.waitsFor md ops j i || (List.range ops.size).any fun h => Region.waitsFor md ops j h && Region.waitsFor md ops h i
theorem last_not2 {listed : Array Bool} {i j : Nat} (inv : HeadInv md ops ops.size listed) (hL : lastB2 md ops m i = true) (hi : i ∈ Region.ready md ops listed) (hj : j ∈ Region.ready md ops listed) : j < m := by
  obtain ⟨_, oj, hoj, hall⟩ := mem_ready.1 hj
  have hun := (mem_ready.1 hi).1
  have direct : ∀ k, Region.waitsFor md ops j k = true → listed.getD k false = true := fun k hk => by
    obtain ⟨o', ho', e, he, hb, hon⟩ := Region.waitsFor_spec hk
    have e1 : oj = o' := Option.some.inj (hoj.symm.trans ho')
    subst e1
    have h2 := hall e he hb
    rwa [hon] at h2
  rcases Nat.lt_or_ge j m with h | h
  · exact h
  · exfalso
    have h1 := List.all_eq_true.1 hL j (List.mem_range.2 (Array.getElem?_eq_some_iff.1 hoj).1)
    rw [Bool.or_eq_true, Bool.or_eq_true] at h1
    rcases h1 with (h1 | h1) | h1
    · have := of_decide_eq_true h1; omega
    · have := direct i h1
      rw [getD_both hun] at this; cases this
    · obtain ⟨k, hk, hk2⟩ := List.any_eq_true.1 h1
      rw [Bool.and_eq_true] at hk2
      have hlk := direct k hk2.1
      obtain ⟨ok, hok, e, he, hb, hon⟩ := Region.waitsFor_spec hk2.2
      have := inv.closed k ok hok hlk e he hb
      rw [hon, getD_both hun] at this; cases this
theorem takeU {i : Nat} {oi : Oper} {v : Value} {f : Nat} {listed : Array Bool} {a : Act} {w : World} (hi : ops.toList[i]? = some oi)
    (hs : Region.noSelect ops = true) (hL : lastB2 md ops m i = true) (hcl : closedB md ops listed = true) (hf : Region.free md ops listed i = true) (hr : (Region.ready md ops listed).contains i = true)
    (hQ : ∀ c a w, Q (.panic c) (a.put oi.dst v) w → Q (.panic c) a w) (hy : YieldsIf P ops S oi v a) (hS : S w)
    (h : anyT P md ops Q S m f (listed.setIfInBounds i true) (a.put oi.dst v) w) : anyT P md ops Q S m (f + 1) listed a w := by
  rw [Array.getElem?_toList] at hi
  exact anyT_first hi (Region.noSelect_spec hs) (HeadInv md ops ops.size) (fun l j hl hj => hl.set hj (by obtain ⟨_, oj, hoj, _⟩ := mem_ready.1 hj; exact (Array.getElem?_eq_some_iff.1 hoj).1)) (fun l hl h1 j h2 => last_not2 hl hL h1 h2) hQ f listed a w (closed_inv hcl) (Region.free_spec hi hf) (by simpa using hr) hy hS h
/-- What yields in whatever world is taken first, no condition asked. -/
theorem takeV {i : Nat} {oi : Oper} {v : Value} {f : Nat} {listed : Array Bool} {a : Act} {w : World} (hi : ops.toList[i]? = some oi)
    (hs : Region.noSelect ops = true) (hf : Region.free md ops listed i = true) (hr : (Region.ready md ops listed).contains i = true)
    (hQ : ∀ c a w, Q (.panic c) (a.put oi.dst v) w → Q (.panic c) a w) (hy : Yields P ops oi v a)
    (h : wpAny P md ops Q f (listed.setIfInBounds i true) (a.put oi.dst v) w) : wpAny P md ops Q (f + 1) listed a w := by
  rw [Array.getElem?_toList] at hi
  exact wpAny_take hi hs hf hr hQ hy h
theorem region_V {id : Nat} {a : Act} {w : World} (hm : P.follows .mixedOrders = true) (h : wpAny P .any ops Q ops.size (Array.replicate ops.size false) a w.drew) : (Code.region id ops true).wp P Q a w :=
  wp_region_any hm h
theorem into_T (S : World → Prop) (m : Nat) {f : Nat} {listed : Array Bool} {a : Act} {w : World} (h : anyT P md ops Q S m f listed a w) : wpAny P md ops Q f listed a w := anyT_any _ _ _ _ h
/-- The one operation that may come up, carried out. -/
theorem oneT {i : Nat} {o : Oper} {f : Nat} {listed : Array Bool} {a : Act} {w : World} (ho : ops.toList[i]? = some o) (hr : Region.ready md ops listed = [i])
    (h : ∀ K' : Act → World → Prop, Shut (∀ a w, (i < m → S w) → anyT P md ops Q S m f (listed.setIfInBounds i true) a w → K' a w) → if Region.wanted o (yielded ops a.tmps) = true then Oper.wp P o a w K' Q else K' (a.put o.dst undef) w) :
    anyT P md ops Q S m (f + 1) listed a w := by
  rw [Array.getElem?_toList] at ho
  refine ⟨fun h0 => (by rw [hr] at h0; cases h0), fun j hj => ?_⟩
  rw [hr] at hj
  obtain rfl : j = i := by simpa using hj
  unfold wpOp
  simp only [ho]
  have h' := h (fun a' w' => (j < m → S w') ∧ anyT P md ops Q S m f (listed.setIfInBounds j true) a' w') (fun a w h1 h2 => And.intro h1 h2)
  by_cases hw : Region.wanted o (yielded ops a.tmps) = true
  · rw [if_pos hw] at h' ⊢
    exact Or.inl h'
  · rw [if_neg hw] at h' ⊢
    exact h'
/-- One of two that may come up, carried out. -/
theorem twoT {i j : Nat} {o o' : Oper} {f : Nat} {listed : Array Bool} {a : Act} {w : World} (ho : ops.toList[i]? = some o) (ho' : ops.toList[j]? = some o') (hr : Region.ready md ops listed = [i, j])
    (h1 : ∀ K' : Act → World → Prop, Shut (∀ a w, (i < m → S w) → anyT P md ops Q S m f (listed.setIfInBounds i true) a w → K' a w) → if Region.wanted o (yielded ops a.tmps) = true then Oper.wp P o a w K' Q else K' (a.put o.dst undef) w)
    (h2 : ∀ K' : Act → World → Prop, Shut (∀ a w, (j < m → S w) → anyT P md ops Q S m f (listed.setIfInBounds j true) a w → K' a w) → if Region.wanted o' (yielded ops a.tmps) = true then Oper.wp P o' a w K' Q else K' (a.put o'.dst undef) w) :
    anyT P md ops Q S m (f + 1) listed a w := by
  rw [Array.getElem?_toList] at ho ho'
  refine ⟨fun h0 => (by rw [hr] at h0; cases h0), fun k hk => ?_⟩
  rw [hr] at hk
  have hk' : k = i ∨ k = j := by simpa using hk
  rcases hk' with rfl | rfl
  · unfold wpOp
    simp only [ho]
    have h' := h1 (fun a' w' => (k < m → S w') ∧ anyT P md ops Q S m f (listed.setIfInBounds k true) a' w') (fun a w h1 h2 => And.intro h1 h2)
    by_cases hw : Region.wanted o (yielded ops a.tmps) = true
    · rw [if_pos hw] at h' ⊢
      exact Or.inl h'
    · rw [if_neg hw] at h' ⊢
      exact h'
  · unfold wpOp
    simp only [ho']
    have h' := h2 (fun a' w' => (k < m → S w') ∧ anyT P md ops Q S m f (listed.setIfInBounds k true) a' w') (fun a w h1 h2 => And.intro h1 h2)
    by_cases hw : Region.wanted o' (yielded ops a.tmps) = true
    · rw [if_pos hw] at h' ⊢
      exact Or.inl h'
    · rw [if_neg hw] at h' ⊢
      exact h'
/-- One of three that may come up, carried out. -/
theorem threeT {i j k : Nat} {o o' o2 : Oper} {f : Nat} {listed : Array Bool} {a : Act} {w : World} (ho : ops.toList[i]? = some o) (ho' : ops.toList[j]? = some o') (ho2 : ops.toList[k]? = some o2) (hr : Region.ready md ops listed = [i, j, k])
    (h1 : ∀ K' : Act → World → Prop, Shut (∀ a w, (i < m → S w) → anyT P md ops Q S m f (listed.setIfInBounds i true) a w → K' a w) → if Region.wanted o (yielded ops a.tmps) = true then Oper.wp P o a w K' Q else K' (a.put o.dst undef) w)
    (h2 : ∀ K' : Act → World → Prop, Shut (∀ a w, (j < m → S w) → anyT P md ops Q S m f (listed.setIfInBounds j true) a w → K' a w) → if Region.wanted o' (yielded ops a.tmps) = true then Oper.wp P o' a w K' Q else K' (a.put o'.dst undef) w)
    (h3 : ∀ K' : Act → World → Prop, Shut (∀ a w, (k < m → S w) → anyT P md ops Q S m f (listed.setIfInBounds k true) a w → K' a w) → if Region.wanted o2 (yielded ops a.tmps) = true then Oper.wp P o2 a w K' Q else K' (a.put o2.dst undef) w) :
    anyT P md ops Q S m (f + 1) listed a w := by
  rw [Array.getElem?_toList] at ho ho' ho2
  refine ⟨fun h0 => (by rw [hr] at h0; cases h0), fun x hx => ?_⟩
  rw [hr] at hx
  have hx' : x = i ∨ x = j ∨ x = k := by simpa using hx
  rcases hx' with rfl | rfl | rfl
  · unfold wpOp
    simp only [ho]
    have h' := h1 (fun a' w' => (x < m → S w') ∧ anyT P md ops Q S m f (listed.setIfInBounds x true) a' w') (fun a w h1 h2 => And.intro h1 h2)
    by_cases hw : Region.wanted o (yielded ops a.tmps) = true
    · rw [if_pos hw] at h' ⊢
      exact Or.inl h'
    · rw [if_neg hw] at h' ⊢
      exact h'
  · unfold wpOp
    simp only [ho']
    have h' := h2 (fun a' w' => (x < m → S w') ∧ anyT P md ops Q S m f (listed.setIfInBounds x true) a' w') (fun a w h1 h2 => And.intro h1 h2)
    by_cases hw : Region.wanted o' (yielded ops a.tmps) = true
    · rw [if_pos hw] at h' ⊢
      exact Or.inl h'
    · rw [if_neg hw] at h' ⊢
      exact h'
  · unfold wpOp
    simp only [ho2]
    have h' := h3 (fun a' w' => (x < m → S w') ∧ anyT P md ops Q S m f (listed.setIfInBounds x true) a' w') (fun a w h1 h2 => And.intro h1 h2)
    by_cases hw : Region.wanted o2 (yielded ops a.tmps) = true
    · rw [if_pos hw] at h' ⊢
      exact Or.inl h'
    · rw [if_neg hw] at h' ⊢
      exact h'
theorem doneT {listed : Array Bool} {a : Act} {w : World} (hr : Region.ready md ops listed = []) (h : Q .normal a w) : ∀ f, anyT P md ops Q S m f listed a w
  | 0 => ⟨hr, h⟩
  | _ + 1 => ⟨fun _ => h, by rw [hr]; simp⟩
theorem region_T (S : World → Prop) (m : Nat) {id : Nat} {a : Act} {w : World} (hm : P.follows .mixedOrders = true) (h : anyT P .any ops Q S m ops.size (Array.replicate ops.size false) a w.drew) : (Code.region id ops true).wp P Q a w :=
  wp_region_any hm (anyT_any _ _ _ _ h)
end
end Go.Proofs.Ytajjoepdkikeeaa

/- Calls that only answer, taken first in a region that draws its order. Conditions: typed in each theorem. -/
import Derived.Test.YtnghmgbmflcngaaHold
namespace Go.Proofs.Ytnghmgbmflcngaa
set_option linter.unusedVariables false
open Go.RowKit

section
variable {P : Program} {ops : Array Oper} {Q : Exit → Act → World → Prop} {md : Region.Mode} {S : World → Prop} {m : Nat}

/-- In every world that meets S the operation calls a function that answers v and leaves that world. -/
def YieldsQ (P : Program) (ops : Array Oper) (S : World → Prop) (o : Oper) (v : Value) (a : Act) : Prop :=
  Region.wanted o (yielded ops a.tmps) = true ∧ ∀ w, S w → ∃ f args, (execOp a.eval o).run P w = .ok (.enter f args) w ∧ Calls P f args w fun e w' => e = .returned v ∧ w = w'
theorem YieldsQ.wpOp {i : Nat} {o : Oper} {v : Value} {a : Act} (hi : ops[i]? = some o) (hy : YieldsQ P ops S o v a)
    {K : Act → World → Prop} {w : World} (hS : S w) (h : K (a.put o.dst v) w) : wpOp P ops Q i K a w := by
  unfold Go.wpOp
  simp only [hi]
  obtain ⟨hw, hv⟩ := hy
  obtain ⟨f, args, hr, hc⟩ := hv w hS
  simp only [hw, if_true, Oper.wp, hr, Oper.upon]
  exact .inl (hc.mono (by rintro e w' ⟨rfl, rfl⟩; exact h))
theorem YieldsQ.of_same {o : Oper} {v : Value} {a a' : Act} (hy : YieldsQ P ops S o v a) (he : execOp a'.eval o = execOp a.eval o)
    (hw : Region.wanted o (yielded ops a'.tmps) = Region.wanted o (yielded ops a.tmps)) : YieldsQ P ops S o v a' := by
  unfold YieldsQ at *
  rw [he, hw]
  exact hy
/-- What an operation leaves of the state: a fact that its own result and a deferred call do not touch. -/
theorem wpOp_keepY {j : Nat} {oj : Oper} (hj : ops[j]? = some oj) (Y : Act → Prop) (h1 : ∀ a u, Y a → Y (a.put oj.dst u)) (h2 : ∀ (a : Act) d, Y a → Y { a with defers := d :: a.defers })
    {K : Act → World → Prop} {a : Act} {w : World} (hy : Y a) (h : wpOp P ops Q j K a w) : wpOp P ops Q j (fun a' w' => Y a' ∧ K a' w') a w := by
  unfold wpOp at *
  simp only [hj] at *
  by_cases hw : Region.wanted oj (yielded ops a.tmps) = true
  · rw [if_pos hw] at h ⊢
    refine h.imp (fun h => ?_) id
    unfold Oper.wp at *
    generalize (execOp a.eval oj).run P w = r at *
    rcases r with ⟨n, w'⟩ | ⟨x, w'⟩
    · cases n with
      | value u => exact ⟨h1 _ _ hy, h⟩
      | skip => exact ⟨h1 _ _ hy, h⟩
      | defer d => exact ⟨h1 _ _ (h2 _ _ hy), h⟩
      | enter f args =>
        refine Calls.mono h fun e w2 he => ?_
        cases e with
        | returned u => exact ⟨h1 _ _ hy, he⟩
        | panicked c => exact he
        | outgrown => exact he
      | row r args => exact Rows.mono h fun u w2 he => ⟨h1 _ _ hy, he⟩
      | _ => exact h
    · cases x <;> exact h
  · rw [if_neg hw] at h ⊢
    exact ⟨h1 _ _ hy, h⟩
theorem wpOp_putQ {j : Nat} {oi oj : Oper} {v : Value} (hj : ops[j]? = some oj) (hap : oi.apart ops oj = true)
    (hsi : ∀ cs b, oi.op ≠ .select cs b) (hsj : ∀ cs b, oj.op ≠ .select cs b)
    (hQ : ∀ c a w, Q (.panic c) (a.put oi.dst v) w → Q (.panic c) a w) {K : Act → World → Prop} {a : Act} {w : World}
    (hy : YieldsQ P ops S oi v a) (h : wpOp P ops Q j K (a.put oi.dst v) w) :
    wpOp P ops Q j (fun a' w' => YieldsQ P ops S oi v a' ∧ K (a'.put oi.dst v) w') a w := by
  obtain ⟨-, -, h3⟩ := Oper.apart_spec hap
  have hno : YieldsIf P ops (fun _ => False) oi v a := Or.inl ⟨hy.1, fun _ h => h.elim⟩
  exact wpOp_keepY hj (fun a' => YieldsQ P ops S oi v a') (fun a u h => h.of_same (execOp_put oi hsi a oj.dst u h3) (wanted_put oi a oj.dst u h3)) (fun a d h => h.of_same rfl rfl) hy
    (wpOp_mono (fun a' w' h' => h'.2) (wpOp_putIf hj hap hsi hsj hQ hno h))
theorem anyT_firstQ {i : Nat} {oi : Oper} {v : Value} (hi : ops[i]? = some oi) (hsel : ∀ (j : Nat) (o : Oper) cs b, ops[j]? = some o → o.op ≠ .select cs b)
    (hnot : ∀ listed, i ∈ Region.ready md ops listed → ∀ j ∈ Region.ready md ops listed, j < m)
    (hQ : ∀ c a w, Q (.panic c) (a.put oi.dst v) w → Q (.panic c) a w) : ∀ (f : Nat) (listed : Array Bool) (a : Act) (w : World),
    (∀ j oj, ops[j]? = some oj → j ≠ i → listed.getD j true = false → (∀ e ∈ oj.after, Region.binds md e = true → e.on ≠ i) → oi.apart ops oj = true) →
    i ∈ Region.ready md ops listed → YieldsQ P ops S oi v a → S w → anyT P md ops Q S m f (listed.setIfInBounds i true) (a.put oi.dst v) w → anyT P md ops Q S m (f + 1) listed a w := by
  intro f
  induction f with
  | zero =>
    intro listed a w _ hr hy hS H
    constructor
    · intro h; rw [h] at hr; cases hr
    · intro j hj
      by_cases hji : j = i
      · subst hji; exact hy.wpOp hi hS ⟨fun _ => hS, H⟩
      · have h0 := ready_mono hj hji
        rw [H.1] at h0
        cases h0
  | succ f ih =>
    intro listed a w hfree hr hy hS H
    constructor
    · intro h; rw [h] at hr; cases hr
    · intro j hj
      by_cases hji : j = i
      · subst hji; exact hy.wpOp hi hS ⟨fun _ => hS, H⟩
      · have hjm := hnot listed hr j hj
        obtain ⟨hun, oj, hoj, hall⟩ := mem_ready.1 hj
        have hno : ∀ e ∈ oj.after, Region.binds md e = true → e.on ≠ i := by
          intro e he hb heq
          have h1 := hall e he hb
          rw [heq, getD_both (mem_ready.1 hr).1] at h1
          cases h1
        refine wpOp_mono ?_ (wpOp_putQ hoj (hfree j oj hoj hji hun hno) (fun cs b => hsel i oi cs b hi) (fun cs b => hsel j oj cs b hoj) hQ hy (H.2 j (ready_mono hj hji)))
        intro a' w' h3
        refine ⟨fun _ => h3.2.1 hjm, ih (listed.setIfInBounds j true) a' w' ?_ (ready_mono hr (Ne.symm hji)) h3.1 (h3.2.1 hjm) ?_⟩
        · intro k ok hk hki hkun hkno
          refine hfree k ok hk hki ?_ hkno
          by_cases hjk : j = k
          · subst hjk; exact hun
          · rw [getD_set_ne true hjk] at hkun; exact hkun
        · rw [Array.setIfInBounds_comm _ _ hji]
          exact h3.2.2
/-- A call that only answers, taken first. -/
theorem takeQ {i : Nat} {oi : Oper} {v : Value} {f : Nat} {listed : Array Bool} {a : Act} {w : World} (hi : ops.toList[i]? = some oi)
    (hs : Region.noSelect ops = true) (hL : lastB md ops m i = true) (him : i < m) (hf : Region.free md ops listed i = true) (hr : (Region.ready md ops listed).contains i = true)
    (hQ : ∀ c a w, Q (.panic c) (a.put oi.dst v) w → Q (.panic c) a w) (hy : YieldsQ P ops S oi v a) (hS : S w)
    (h : anyT P md ops Q S m f (listed.setIfInBounds i true) (a.put oi.dst v) w) : anyT P md ops Q S m (f + 1) listed a w := by
  rw [Array.getElem?_toList] at hi
  exact anyT_firstQ hi (Region.noSelect_spec hs) (fun _ h1 _ h2 => last_not hL h1 h2 him) hQ f listed a w (Region.free_spec hi hf) (by simpa using hr) hy hS h
end
end Go.Proofs.Ytnghmgbmflcngaa

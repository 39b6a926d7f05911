/- What a region that draws its order makes: rows of bytes and a box, in whatever order; an invariant of such a region. Conditions: typed in each theorem. -/
import Derived.Test.YtnghmgbmflcngaaZhld
import Derived.Orders
namespace Go.Proofs.Ytnghmgbmflcngaa
set_option linter.unusedVariables false
open Go.RowKit

section
variable {P : Program} {ops : Array Oper} {Q : Exit → Act → World → Prop} {md : Region.Mode}
theorem getD_true_lt {listed : Array Bool} {i : Nat} (h : listed.getD i true = false) : ∃ hi : i < listed.size, listed[i] = false := by
  rcases Nat.lt_or_ge i listed.size with h' | h'
  · refine ⟨h', ?_⟩
    simpa [h'] using h
  · simp [Array.getElem?_eq_none h'] at h
theorem count_listed {listed : Array Bool} {i : Nat} (h : listed.getD i true = false) : ((listed.setIfInBounds i true).toList.count false) + 1 = listed.toList.count false := by
  obtain ⟨hi, he⟩ := getD_true_lt h
  rw [Array.toList_setIfInBounds, List.count_set (by simpa using hi)]
  have : 0 < listed.toList.count false := List.count_pos_iff.2 (by rw [← he]; simp)
  simp only [Array.getElem_toList, he, beq_self_eq_true, if_true, show (true == false) = false from rfl, if_neg Bool.false_ne_true]
  omega
/-- An invariant of a region, whatever order. -/
theorem wpAny_inv (I : Array Bool → Act → World → Prop)
    (hstep : ∀ listed a w i, I listed a w → i ∈ Region.ready md ops listed → ∃ o, ops.toList[i]? = some o ∧ ∀ K' : Act → World → Prop, Shut (∀ a' w', I (listed.setIfInBounds i true) a' w' → K' a' w') → if Region.wanted o (yielded ops a.tmps) = true then Oper.wp P o a w K' Q else K' (a.put o.dst undef) w)
    (hend : ∀ listed a w, I listed a w → Region.ready md ops listed = [] → Q .normal a w) :
    ∀ (f : Nat) (listed : Array Bool) (a : Act) (w : World), listed.toList.count false ≤ f → I listed a w → wpAny P md ops Q f listed a w := by
  intro f
  induction f with
  | zero =>
    intro listed a w hc h
    have hr : Region.ready md ops listed = [] := by
      rw [List.eq_nil_iff_forall_not_mem]
      intro i hi
      have := count_listed (mem_ready.1 hi).1
      omega
    exact ⟨hr, hend _ _ _ h hr⟩
  | succ f ih =>
    intro listed a w hc h
    refine ⟨hend _ _ _ h, fun i hi => ?_⟩
    have hcc := count_listed (mem_ready.1 hi).1
    obtain ⟨o, ho, hs⟩ := hstep _ _ _ _ h hi
    rw [Array.getElem?_toList] at ho
    have h' := hs (fun a' w' => wpAny P md ops Q f (listed.setIfInBounds i true) a' w') (fun a' w' h' => ih _ _ _ (by omega) h')
    unfold wpOp
    simp only [ho]
    by_cases hw : Region.wanted o (yielded ops a.tmps) = true
    · rw [if_pos hw] at h' ⊢
      exact Or.inl h'
    · rw [if_neg hw] at h' ⊢
      exact h'
/-- What may come up waits for nothing that is not listed. -/
theorem ready_waits {listed : Array Bool} {i j : Nat} (hj : j ∈ Region.ready md ops listed) (h : Region.waitsFor md ops j i = true) : listed.getD i false = true := by
  obtain ⟨_, oj, hoj, hall⟩ := mem_ready.1 hj
  obtain ⟨o', ho', e, he, hb, hon⟩ := Region.waitsFor_spec h
  have e1 : oj = o' := Option.some.inj (hoj.symm.trans ho')
  subst e1
  have h2 := hall e he hb
  rw [hon] at h2
  exact h2
/-- An invariant of a region, whatever order; a0 is the act at its start. -/
theorem anyT_inv {S : World → Prop} {m : Nat} (I : Act → Array Bool → Act → World → Prop) {f : Nat} {listed0 : Array Bool} {a0 : Act} {w0 : World}
    (h0 : I a0 listed0 a0 w0) (hf : listed0.toList.count false ≤ f) (hS : ∀ listed a w, I a0 listed a w → S w)
    (hstep : ∀ listed a w i, I a0 listed a w → i ∈ Region.ready md ops listed → ∃ o, ops.toList[i]? = some o ∧ ∀ K' : Act → World → Prop, Shut (∀ a' w', I a0 (listed.setIfInBounds i true) a' w' → K' a' w') → if Region.wanted o (yielded ops a.tmps) = true then Oper.wp P o a w K' Q else K' (a.put o.dst undef) w)
    (hend : ∀ listed a w, I a0 listed a w → Region.ready md ops listed = [] → Q .normal a w) : anyT P md ops Q S m f listed0 a0 w0 := by
  have main : ∀ (f : Nat) (listed : Array Bool) (a : Act) (w : World), listed.toList.count false ≤ f → I a0 listed a w → anyT P md ops Q S m f listed a w := by
    intro f
    induction f with
    | zero =>
      intro listed a w hc h
      have hr : Region.ready md ops listed = [] := by
        rw [List.eq_nil_iff_forall_not_mem]
        intro i hi
        have := count_listed (mem_ready.1 hi).1
        omega
      exact ⟨hr, hend _ _ _ h hr⟩
    | succ f ih =>
      intro listed a w hc h
      refine ⟨hend _ _ _ h, fun i hi => ?_⟩
      have hcc := count_listed (mem_ready.1 hi).1
      obtain ⟨o, ho, hs⟩ := hstep _ _ _ _ h hi
      rw [Array.getElem?_toList] at ho
      have h' := hs (fun a' w' => (i < m → S w') ∧ anyT P md ops Q S m f (listed.setIfInBounds i true) a' w') (fun a' w' h' => ⟨fun _ => hS _ _ _ h', ih _ _ _ (by omega) h'⟩)
      unfold wpOp
      simp only [ho]
      by_cases hw : Region.wanted o (yielded ops a.tmps) = true
      · rw [if_pos hw] at h' ⊢
        exact Or.inl h'
      · rw [if_neg hw] at h' ⊢
        exact h'
  exact main f listed0 a0 w0 hf h0
theorem ready_lt {listed : Array Bool} {i : Nat} (h : i ∈ Region.ready md ops listed) : i < ops.size ∧ listed.getD i true = false := by
  obtain ⟨h1, o, h2, -⟩ := mem_ready.1 h
  exact ⟨(Array.getElem?_eq_some_iff.1 h2).1, h1⟩
/-- Each operation waits for earlier ones alone. -/
def orderedB (md : Region.Mode) (ops : Array Oper) : Bool := (List.range ops.size).all fun i => match ops[i]? with
  | some o => o.after.all fun e => !Region.binds md e || decide (e.on < i)
  | none => true
theorem ready_end {listed : Array Bool} (hs : listed.size = ops.size) (hc : orderedB md ops = true) (hr : Region.ready md ops listed = []) : ∀ i, i < ops.size → listed.getD i false = true := by
  intro i
  induction i using Nat.strongRecOn with
  | ind i ih =>
    intro hi
    cases hl : listed.getD i false with
    | true => rfl
    | false =>
      exfalso
      have hmem : i ∈ Region.ready md ops listed := by
        refine mem_ready.2 ⟨?_, ops[i], Array.getElem?_eq_getElem hi, fun e he hb => ?_⟩
        · have hi' : i < listed.size := by omega
          simpa [hi'] using hl
        · have h1 := List.all_eq_true.1 hc i (List.mem_range.2 hi)
          rw [Array.getElem?_eq_getElem hi] at h1
          have h2 := Array.all_eq_true_iff_forall_mem.1 h1 e he
          rw [hb] at h2
          have h3 : e.on < i := by simpa using h2
          exact ih e.on h3 (by omega)
      rw [hr] at hmem
      cases hmem
end
/-- A state: what is made so far. -/
def updM (s : Nat → Option (Nat × Nat × Nat × List UInt8)) (i : Nat) (v : Nat × Nat × Nat × List UInt8) : Nat → Option (Nat × Nat × Nat × List UInt8) := fun j => if j = i then some v else s j
def MkS (V0 V : World) (ZA : Array Value) (T : TypeId) (s : Nat → Option (Nat × Nat × Nat × List UInt8)) (sb : Option Nat) : Prop :=
  Below V0.heap.size V0 V ∧ (∀ i g n c l, s i = some (g, n, c, l) → Own V V0.heap.size (some ⟨g, 0, none⟩) n c l) ∧ (∀ i j p q, i ≠ j → s i = some p → s j = some q → p.1 ≠ q.1) ∧
    ∀ gb, sb = some gb → Blk V gb ZA T ∧ V0.heap.size ≤ gb ∧ ∀ i p, s i = some p → p.1 ≠ gb
section
variable {ZA : Array Value} {T : TypeId} {V0 V V' : World} {s : Nat → Option (Nat × Nat × Nat × List UInt8)} {sb : Option Nat}
theorem MkS.start : MkS V V ZA T (fun _ => none) none := ⟨Below.refl _ _, (fun _ _ _ _ _ h => by cases h), (fun _ _ _ _ _ h => by cases h), fun _ h => by cases h⟩
theorem MkS.bel (h : MkS V0 V ZA T s sb) : Below V0.heap.size V0 V := h.1
theorem MkS.ge (h : MkS V0 V ZA T s sb) : V0.heap.size ≤ V.heap.size := h.1.size
theorem MkS.own (h : MkS V0 V ZA T s sb) (i : Nat) {g n c : Nat} {l : List UInt8} (hi : s i = some (g, n, c, l)) : Own V V0.heap.size (some ⟨g, 0, none⟩) n c l := h.2.1 i g n c l hi
theorem MkS.apart (h : MkS V0 V ZA T s sb) {i j : Nat} {p q : Nat × Nat × Nat × List UInt8} (hne : i ≠ j) (hi : s i = some p) (hj : s j = some q) : p.1 ≠ q.1 := h.2.2.1 i j p q hne hi hj
theorem MkS.bk (h : MkS V0 V ZA T s sb) {gb : Nat} (hb : sb = some gb) : Blk V gb ZA T ∧ V0.heap.size ≤ gb ∧ ∀ i p, s i = some p → p.1 ≠ gb := h.2.2.2 gb hb
theorem updM_cases {i j : Nat} {v p : Nat × Nat × Nat × List UInt8} (h : updM s i v j = some p) : (j = i ∧ v = p) ∨ (j ≠ i ∧ s j = some p) := by
  unfold updM at h
  split at h
  · exact .inl ⟨by assumption, by injection h⟩
  · exact .inr ⟨by assumption, h⟩
theorem updM_at {i : Nat} {v : Nat × Nat × Nat × List UInt8} : updM s i v i = some v := by unfold updM; rw [if_pos rfl]
theorem updM_ne {i j : Nat} {v : Nat × Nat × Nat × List UInt8} (h : j ≠ i) : updM s i v j = s j := by unfold updM; rw [if_neg h]
theorem MkS.al (h : MkS V0 V ZA T s sb) (i : Nat) : MkS V0 (V.alloc (.cells #[] 5)) ZA T (updM s i (V.heap.size, 0, 0, [])) sb := by
  have ba := below_a1' (Below.refl V.heap.size V) (.cells #[] 5)
  have hge := h.ge
  obtain ⟨b, ho, hd, hb⟩ := h
  refine ⟨b.trans (ba.mono (by omega)), fun j g n c l hj => ?_, fun j j' p q hne hj hj' => ?_, fun gb hgb => ?_⟩
  · rcases updM_cases hj with ⟨-, e⟩ | ⟨-, e⟩
    · injection e with e1 e2
      injection e2 with e2 e3
      injection e3 with e3 e4
      subst e1 e2 e3 e4
      exact Own.emptyK V _ _ rfl hge
    · exact (ho j g n c l e).below ba
  · rcases updM_cases hj with ⟨e1, e⟩ | ⟨e1, e⟩ <;> rcases updM_cases hj' with ⟨e1', e'⟩ | ⟨e1', e'⟩
    · exact absurd (e1.trans e1'.symm) hne
    · obtain ⟨q1, q2, q3, q4⟩ := q
      have := (ho j' q1 q2 q3 q4 e').base
      rw [← e]; show V.heap.size ≠ q1; omega
    · obtain ⟨q1, q2, q3, q4⟩ := p
      have := (ho j q1 q2 q3 q4 e).base
      rw [← e']; show q1 ≠ V.heap.size; omega
    · exact hd j j' p q hne e e'
  · obtain ⟨kb, h1, h2⟩ := hb gb hgb
    refine ⟨kb.alloc _, h1, fun j p hj => ?_⟩
    rcases updM_cases hj with ⟨-, e⟩ | ⟨-, e⟩
    · rw [← e]; have := kb.lt; show V.heap.size ≠ gb; omega
    · exact h2 j p e
theorem MkS.bx (h : MkS V0 V ZA T s none) : MkS V0 (V.alloc (.cells ZA T)) ZA T s (some V.heap.size) := by
  have ba := below_a1' (Below.refl V.heap.size V) (.cells ZA T)
  have hge := h.ge
  obtain ⟨b, ho, hd, hb⟩ := h
  refine ⟨b.trans (ba.mono (by omega)), fun j g n c l hj => (ho j g n c l hj).below ba, hd, fun gb hgb => ?_⟩
  injection hgb with hgb
  subst hgb
  refine ⟨Blk.new _ _ _, by omega, fun j p hj => ?_⟩
  obtain ⟨q1, q2, q3, q4⟩ := p
  have := (ho j q1 q2 q3 q4 hj).base
  show q1 ≠ V.heap.size; omega
theorem MkS.ap (h : MkS V0 V ZA T s sb) (i : Nat) {g n0 c0 g' n c : Nat} {l0 l : List UInt8} (hi : s i = some (g, n0, c0, l0)) (o : Own V' V0.heap.size (some ⟨g', 0, none⟩) n c l) (gb : V.grownBy V' (some g)) (hg : g' = g ∨ g' = V.heap.size) : MkS V0 V' ZA T (updM s i (g', n, c, l)) sb := by
  have hge := h.ge
  have hbg := (h.own i hi).base
  obtain ⟨b, ho, hd, hb⟩ := h
  refine ⟨b.trans (below_grown gb (by omega) hbg.2), fun j g2 n2 c2 l2 hj => ?_, fun j j' p q hne hj hj' => ?_, fun gx hgx => ?_⟩
  · rcases updM_cases hj with ⟨-, e⟩ | ⟨hji, e⟩
    · injection e with e1 e2
      injection e2 with e2 e3
      injection e3 with e3 e4
      subst e1 e2 e3 e4
      exact o
    · exact (ho j g2 n2 c2 l2 e).left gb (hd j i _ _ hji e hi)
  · rcases updM_cases hj with ⟨e1, e⟩ | ⟨e1, e⟩ <;> rcases updM_cases hj' with ⟨e1', e'⟩ | ⟨e1', e'⟩
    · exact absurd (e1.trans e1'.symm) hne
    · obtain ⟨q1, q2, q3, q4⟩ := q
      have h1 := (ho j' q1 q2 q3 q4 e').base
      have h2 : q1 ≠ g := hd j' i _ _ e1' e' hi
      rw [← e]; show g' ≠ q1; omega
    · obtain ⟨q1, q2, q3, q4⟩ := p
      have h1 := (ho j q1 q2 q3 q4 e).base
      have h2 : q1 ≠ g := hd j i _ _ e1 e hi
      rw [← e']; show q1 ≠ g'; omega
    · exact hd j j' p q hne e e'
  · obtain ⟨kb, h1, h2⟩ := hb gx hgx
    have h3 : g ≠ gx := h2 i _ hi
    refine ⟨kb.left gb (fun e => h3 e.symm), h1, fun j p hj => ?_⟩
    rcases updM_cases hj with ⟨-, e⟩ | ⟨-, e⟩
    · rw [← e]; have := kb.lt; show g' ≠ gx; omega
    · exact h2 j p e
theorem MkS.app {ops : Array Oper} {o : Oper} {a : Act} {K : Act → World → Prop} {Q : Exit → Act → World → Prop} {E : Prop} {A2 : Option Addr} {m c2 g : Nat} {l2 : List UInt8} (h : MkS V0 V ZA T s sb) (i : Nat) (hi : s i = some (g, 0, 0, [])) {B : Nat} (hB : B ≤ V0.heap.size) (hr : Rd V0 B A2 m c2 l2) (hm : m ≤ 1000000)
    (hg : Region.wanted o (yielded ops a.tmps) = true) (sx x : Operand) (hop : o.op = Op.call { callee := Callee.builtin Builtin.append, args := #[sx, x], argTypes := #[23, 23] }) (hs : a.eval sx = .slice (some ⟨g, 0, none⟩) 0 0) (hx : a.eval x = .slice A2 m c2)
    (hK : ∀ g' c' V', MkS V0 V' ZA T (updM s i (g', m, c', l2)) sb → K (a.put o.dst (.slice (some ⟨g', 0, none⟩) m c')) V') : if Region.wanted o (yielded ops a.tmps) = true then Oper.wp Try.prog o a V K Q else E := by
  refine step_app8g V hg sx x hop V0.heap.size g 0 0 [] hs (h.own i hi) B A2 m c2 l2 hx (hr.below (h.bel.mono hB)) (by omega) h.ge (fun g' c' w' ow gb hgg => ?_)
  rw [Nat.zero_add] at ow ⊢
  rw [List.nil_append] at ow
  exact hK g' c' w' (h.ap i hi ow gb hgg)
end
end Go.Proofs.Ytnghmgbmflcngaa

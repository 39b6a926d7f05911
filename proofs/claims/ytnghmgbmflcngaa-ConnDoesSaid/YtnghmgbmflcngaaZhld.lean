/- Merged texts: Slc, Hold, Qut, Many, Row. Conditions: typed in each theorem. -/
import Derived.Test.YtnghmgbmflcngaaZbas
import Derived.StillTail
import Derived.Deep.RegionHeld3
import Derived.Laws.Rows
import Derived.Great.BuildSlice
namespace Go.Proofs.Ytnghmgbmflcngaa
set_option linter.unusedVariables false
section
open Go.RowKit
theorem sz8 (e : TypeId) (he : e = 5) (wx : World) : (sizeOf e).run Try.prog wx = .ok 1 wx := by
  subst he
  obtain ⟨i0, hi0, hz0, hz1, hz2⟩ := info_parts u8info
  simp [sizeOf, typeInfo, hi0, hz1]
theorem el8 : Try.prog.elem 23 = 5 := by kernel_rfl
theorem un8 : Try.prog.underlying 23 = some (.slice (Try.prog.elem 23)) := by kernel_rfl
theorem Rd.trim {w : World} {B n c m : Nat} {A : Option Addr} {l : List UInt8} (h : Rd w B A n c l) (h1 : n ≤ m) (h2 : m ≤ c) : Rd w B A n m l :=
  ⟨h.1, h1, Nat.le_trans h2 h.2.2.1, fun hA => by have := h.2.2.2.1 hA; omega, h.2.2.2.2.1, h.2.2.2.2.2⟩
theorem rd_fore {w : World} {B n c m : Nat} {A : Option Addr} {l : List UInt8} (h : Rd w B A n c l) (hm : m ≤ n) : Rd w B A m c (l.take m) := by
  obtain ⟨h1, h2, h3, h4, h5, h6⟩ := h
  refine ⟨?_, by omega, h3, h4, fun ad hA hm0 => h5 ad hA (by omega), fun ad i u hA hu => ?_⟩
  · rw [length_cbs] at *; rw [List.length_take]; omega
  · unfold cbs at hu h6
    rw [List.map_take, List.getElem?_take] at hu
    split at hu
    · exact h6 ad i u hA hu
    · cases hu
section
variable {w : World} {B n c : Nat} {A : Option Addr} {l : List UInt8}
theorem slc_hm (h : Rd w B A n c l) (k : Nat) (hk : k ≤ n) : ∃ X cx, (∀ wx, (Instr.slice 23 (.slice A n c) none (some (.int .i64 (k : Int))) (some (.int .i64 (k : Int)))).run Try.prog wx = .ok (.slice X k cx) wx) ∧ ∀ w' B', Rd w' B' A n c l → Rd w' B' X k cx (l.take k) := by
  have hc := h.cap
  have hcut : ∀ w' B', Rd w' B' A n c l → _ := fun w' B' h' => ((rd_fore h' hk).trim (Nat.le_refl k) (by omega)).cut (i := 0) (j := k) (by omega) (by omega)
  simp only [Nat.sub_zero, List.drop_zero, List.take_take, Nat.min_self] at hcut
  refine ⟨_, _, fun wx => ?_, hcut⟩
  rw [run_slice_hm (P := Try.prog) wx _ A n c un8 .i64 .i64 (k : Int) (k : Int) (by omega) (by omega) (by omega), sz8 _ el8]
  simp [Result.andThen, sliced]
theorem slc_lhm (h : Rd w B A n c l) (i j : Nat) (I J : Int) (hI : I = (i : Nat)) (hJ : J = (j : Nat)) (hij : i ≤ j) (hj : j ≤ n) : ∃ X cx, (∀ wx, (Instr.slice 23 (.slice A n c) (some (.int .i64 I)) (some (.int .i64 J)) (some (.int .i64 J))).run Try.prog wx = .ok (.slice X (j - i) cx) wx) ∧ ∀ w' B', Rd w' B' A n c l → Rd w' B' X (j - i) cx ((l.take j).drop i) := by
  have hc := h.cap
  have hcut : ∀ w' B', Rd w' B' A n c l → _ := fun w' B' h' => ((rd_fore h' hj).trim (Nat.le_refl j) (by omega)).cut (i := i) (j := j) hij (by omega)
  simp only [List.take_take, Nat.min_self] at hcut
  refine ⟨_, _, fun wx => ?_, hcut⟩
  rw [run_slice_lhm (P := Try.prog) wx _ A n c un8 .i64 .i64 .i64 I J J (by omega) (by omega) (by omega) (by omega), sz8 _ el8]
  simp [Result.andThen, sliced, hI, hJ]
theorem slc_l (h : Rd w B A n c l) (i : Nat) (I : Int) (hI : I = (i : Nat)) (hi : i ≤ n) : ∃ X cx, (∀ wx, (Instr.slice 23 (.slice A n c) (some (.int .i64 I)) none none).run Try.prog wx = .ok (.slice X (n - i) cx) wx) ∧ ∀ w' B', Rd w' B' A n c l → Rd w' B' X (n - i) cx (l.drop i) := by
  have hc := h.cap
  have hl := h.len
  have hcut : ∀ w' B', Rd w' B' A n c l → _ := fun w' B' h' => h'.cut (i := i) (j := n) hi (Nat.le_refl n)
  rw [List.take_of_length_le (by omega)] at hcut
  refine ⟨_, _, fun wx => ?_, hcut⟩
  rw [run_slice_l (P := Try.prog) wx _ A n c un8 .i64 I (by omega) (by omega), sz8 _ el8]
  simp [Result.andThen, sliced, hI]
theorem slc_lh (h : Rd w B A n c l) (i j : Nat) (I J : Int) (hI : I = (i : Nat)) (hJ : J = (j : Nat)) (hij : i ≤ j) (hj : j ≤ n) : ∃ X cx, (∀ wx, (Instr.slice 23 (.slice A n c) (some (.int .i64 I)) (some (.int .i64 J)) none).run Try.prog wx = .ok (.slice X (j - i) cx) wx) ∧ ∀ w' B', Rd w' B' A n c l → Rd w' B' X (j - i) cx ((l.take j).drop i) := by
  have hc := h.cap
  have hcut : ∀ w' B', Rd w' B' A n c l → _ := fun w' B' h' => h'.cut (i := i) (j := j) hij hj
  refine ⟨_, _, fun wx => ?_, hcut⟩
  rw [run_slice_lh (P := Try.prog) wx _ A n c un8 .i64 .i64 I J (by omega) (by omega) (by omega), sz8 _ el8]
  simp [Result.andThen, sliced, hI, hJ]
theorem slc_h (h : Rd w B A n c l) (j : Nat) (J : Int) (hJ : J = (j : Nat)) (hj : j ≤ n) : ∃ X cx, (∀ wx, (Instr.slice 23 (.slice A n c) none (some (.int .i64 J)) none).run Try.prog wx = .ok (.slice X j cx) wx) ∧ ∀ w' B', Rd w' B' A n c l → Rd w' B' X j cx (l.take j) := by
  have hc := h.cap
  have hcut : ∀ w' B', Rd w' B' A n c l → _ := fun w' B' h' => h'.cut (i := 0) (j := j) (by omega) hj
  simp only [Nat.sub_zero, List.drop_zero] at hcut
  refine ⟨_, _, fun wx => ?_, hcut⟩
  rw [run_slice_h (P := Try.prog) wx _ A n c un8 .i64 J (by omega) (by omega), sz8 _ el8]
  simp [Result.andThen, sliced, hJ]
end
end
section
open Go.RowKit
section
variable {P : Program} {ops : Array Oper} {Q : Exit → Act → World → Prop} {md : Region.Mode} {S : World → Prop} {m : Nat}
def anyT (P : Program) (md : Region.Mode) (ops : Array Oper) (Q : Exit → Act → World → Prop) (S : World → Prop) (m : Nat) : Nat → Array Bool → Act → World → Prop
  | 0, listed, a, w => Region.ready md ops listed = [] ∧ Q .normal a w
  | f + 1, listed, a, w => (Region.ready md ops listed = [] → Q .normal a w) ∧ ∀ i ∈ Region.ready md ops listed, wpOp P ops Q i (fun a' w' => (i < m → S w') ∧ anyT P md ops Q S m f (listed.setIfInBounds i true) a' w') a w
theorem anyT_any : ∀ (f : Nat) (listed : Array Bool) (a : Act) (w : World), anyT P md ops Q S m f listed a w → wpAny P md ops Q f listed a w := by
  intro f
  induction f with
  | zero => intro _ _ _ h; exact h
  | succ f ih => intro _ _ _ h; exact ⟨h.1, fun i hi => wpOp_mono (fun _ _ h' => ih _ _ _ h'.2) (h.2 i hi)⟩
def lastB (md : Region.Mode) (ops : Array Oper) (m i : Nat) : Bool := (List.range ops.size).all fun j => decide (j < m) || Region.waitsFor md ops j i
theorem last_not {listed : Array Bool} {i j : Nat} (hL : lastB md ops m i = true) (hi : i ∈ Region.ready md ops listed) (hj : j ∈ Region.ready md ops listed) (him : i < m) : j < m := by
  obtain ⟨_, oj, hoj, hall⟩ := mem_ready.1 hj
  have hun := (mem_ready.1 hi).1
  rcases Nat.lt_or_ge j m with h | h
  · exact h
  · exfalso
    have h1 := List.all_eq_true.1 hL j (List.mem_range.2 (Array.getElem?_eq_some_iff.1 hoj).1)
    rw [Bool.or_eq_true] at h1
    rcases h1 with h1 | h1
    · have := of_decide_eq_true h1; omega
    · obtain ⟨o', ho', e, he, hb, hon⟩ := Region.waitsFor_spec h1
      have e1 : oj = o' := Option.some.inj (hoj.symm.trans ho')
      subst e1
      have h2 := hall e he hb
      rw [hon] at h2
      rw [getD_both hun] at h2
      cases h2
theorem anyT_first {i : Nat} {oi : Oper} {v : Value} (hi : ops[i]? = some oi) (hsel : ∀ (j : Nat) (o : Oper) cs b, ops[j]? = some o → o.op ≠ .select cs b) (Inv : Array Bool → Prop)
    (hI : ∀ listed j, Inv listed → j ∈ Region.ready md ops listed → Inv (listed.setIfInBounds j true)) (hnot : ∀ listed, Inv listed → i ∈ Region.ready md ops listed → ∀ j ∈ Region.ready md ops listed, j < m)
    (hQ : ∀ c a w, Q (.panic c) (a.put oi.dst v) w → Q (.panic c) a w) : ∀ (f : Nat) (listed : Array Bool) (a : Act) (w : World), Inv listed →
    (∀ j oj, ops[j]? = some oj → j ≠ i → listed.getD j true = false → (∀ e ∈ oj.after, Region.binds md e = true → e.on ≠ i) → oi.apart ops oj = true) →
    i ∈ Region.ready md ops listed → YieldsIf P ops S oi v a → S w → anyT P md ops Q S m f (listed.setIfInBounds i true) (a.put oi.dst v) w → anyT P md ops Q S m (f + 1) listed a w := by
  intro f
  induction f with
  | zero =>
    intro listed a w _ _ hr hy hS H
    constructor
    · intro h; rw [h] at hr; cases hr
    · intro j hj
      by_cases hji : j = i
      · subst hji; exact hy.wpOp hi hS ⟨fun _ => hS, H⟩
      · have h0 := ready_mono hj hji
        rw [H.1] at h0
        cases h0
  | succ f ih =>
    intro listed a w hinv hfree hr hy hS H
    constructor
    · intro h; rw [h] at hr; cases hr
    · intro j hj
      by_cases hji : j = i
      · subst hji; exact hy.wpOp hi hS ⟨fun _ => hS, H⟩
      · have hjm := hnot listed hinv hr j hj
        obtain ⟨hun, oj, hoj, hall⟩ := mem_ready.1 hj
        have hno : ∀ e ∈ oj.after, Region.binds md e = true → e.on ≠ i := by
          intro e he hb heq
          have h1 := hall e he hb
          rw [heq, getD_both (mem_ready.1 hr).1] at h1
          cases h1
        refine wpOp_mono ?_ (wpOp_putIf hoj (hfree j oj hoj hji hun hno) (fun cs b => hsel i oi cs b hi) (fun cs b => hsel j oj cs b hoj) hQ hy (H.2 j (ready_mono hj hji)))
        intro a' w' h3
        refine ⟨fun _ => h3.2.1 hjm, ih (listed.setIfInBounds j true) a' w' (hI listed j hinv hj) ?_ (ready_mono hr (Ne.symm hji)) h3.1 (h3.2.1 hjm) ?_⟩
        · intro k ok hk hki hkun hkno
          refine hfree k ok hk hki ?_ hkno
          by_cases hjk : j = k
          · subst hjk; exact hun
          · rw [getD_set_ne true hjk] at hkun; exact hkun
        · rw [Array.setIfInBounds_comm _ _ hji]
          exact h3.2.2
theorem takeT {i : Nat} {oi : Oper} {v : Value} {f : Nat} {listed : Array Bool} {a : Act} {w : World} (hi : ops.toList[i]? = some oi)
    (hs : Region.noSelect ops = true) (hL : lastB md ops m i = true) (him : i < m) (hf : Region.free md ops listed i = true) (hr : (Region.ready md ops listed).contains i = true)
    (hQ : ∀ c a w, Q (.panic c) (a.put oi.dst v) w → Q (.panic c) a w) (hy : YieldsIf P ops S oi v a) (hS : S w)
    (h : anyT P md ops Q S m f (listed.setIfInBounds i true) (a.put oi.dst v) w) : anyT P md ops Q S m (f + 1) listed a w := by
  rw [Array.getElem?_toList] at hi
  exact anyT_first hi (Region.noSelect_spec hs) (fun _ => True) (fun _ _ _ _ => trivial) (fun _ _ h1 _ h2 => last_not hL h1 h2 him) hQ f listed a w trivial (Region.free_spec hi hf) (by simpa using hr) hy hS h
theorem takeA {i : Nat} {oi : Oper} {v : Value} {f : Nat} {listed : Array Bool} {a : Act} {w : World} (hi : ops.toList[i]? = some oi) (hQ : ∀ c a w, Q (.panic c) (a.put oi.dst v) w → Q (.panic c) a w) (hy : YieldsIf P ops S oi v a) (hS : S w)
    (h : anyT P md ops Q S m f (listed.setIfInBounds i true) (a.put oi.dst v) w) (hs : Region.noSelect ops = true := by kernel_rfl) (hL : lastB md ops m i = true := by kernel_rfl) (him : i < m := by decide) (hf : Region.free md ops listed i = true := by kernel_rfl) (hr : (Region.ready md ops listed).contains i = true := by kernel_rfl) : anyT P md ops Q S m (f + 1) listed a w :=
  takeT hi hs hL him hf hr hQ hy hS h
theorem oneT {i : Nat} {o : Oper} {f : Nat} {listed : Array Bool} {a : Act} {w : World} (ho : ops.toList[i]? = some o) (hr : Region.ready md ops listed = [i])
    (h : ∀ K' : Act → World → Prop, Shut (∀ a w, (i < m → S w) → anyT P md ops Q S m f (listed.setIfInBounds i true) a w → K' a w) → if Region.wanted o (yielded ops a.tmps) = true then Oper.wp P o a w K' Q else K' (a.put o.dst undef) w) :
    anyT P md ops Q S m (f + 1) listed a w := by
  rw [Array.getElem?_toList] at ho
  refine ⟨fun h0 => (by rw [hr] at h0; cases h0), fun j hj => ?_⟩
  rw [hr] at hj
  obtain rfl : j = i := by simpa using hj
  unfold wpOp
  simp only [ho]
  have h' := h (fun a' w' => (j < m → S w') ∧ anyT P md ops Q S m f (listed.setIfInBounds j true) a' w') (fun a w h1 h2 => And.intro h1 h2)
  by_cases hw : Region.wanted o (yielded ops a.tmps) = true
  · rw [if_pos hw] at h' ⊢
    exact Or.inl h'
  · rw [if_neg hw] at h' ⊢
    exact h'
theorem twoT {i j : Nat} {o o' : Oper} {f : Nat} {listed : Array Bool} {a : Act} {w : World} (ho : ops.toList[i]? = some o) (ho' : ops.toList[j]? = some o') (hr : Region.ready md ops listed = [i, j])
    (h1 : ∀ K' : Act → World → Prop, Shut (∀ a w, (i < m → S w) → anyT P md ops Q S m f (listed.setIfInBounds i true) a w → K' a w) → if Region.wanted o (yielded ops a.tmps) = true then Oper.wp P o a w K' Q else K' (a.put o.dst undef) w)
    (h2 : ∀ K' : Act → World → Prop, Shut (∀ a w, (j < m → S w) → anyT P md ops Q S m f (listed.setIfInBounds j true) a w → K' a w) → if Region.wanted o' (yielded ops a.tmps) = true then Oper.wp P o' a w K' Q else K' (a.put o'.dst undef) w) :
    anyT P md ops Q S m (f + 1) listed a w := by
  rw [Array.getElem?_toList] at ho ho'
  refine ⟨fun h0 => (by rw [hr] at h0; cases h0), fun k hk => ?_⟩
  rw [hr] at hk
  have hk' : k = i ∨ k = j := by simpa using hk
  rcases hk' with rfl | rfl
  · unfold wpOp
    simp only [ho]
    have h' := h1 (fun a' w' => (k < m → S w') ∧ anyT P md ops Q S m f (listed.setIfInBounds k true) a' w') (fun a w h1 h2 => And.intro h1 h2)
    by_cases hw : Region.wanted o (yielded ops a.tmps) = true
    · rw [if_pos hw] at h' ⊢
      exact Or.inl h'
    · rw [if_neg hw] at h' ⊢
      exact h'
  · unfold wpOp
    simp only [ho']
    have h' := h2 (fun a' w' => (k < m → S w') ∧ anyT P md ops Q S m f (listed.setIfInBounds k true) a' w') (fun a w h1 h2 => And.intro h1 h2)
    by_cases hw : Region.wanted o' (yielded ops a.tmps) = true
    · rw [if_pos hw] at h' ⊢
      exact Or.inl h'
    · rw [if_neg hw] at h' ⊢
      exact h'
theorem doneT {listed : Array Bool} {a : Act} {w : World} (hr : Region.ready md ops listed = []) (h : Q .normal a w) : ∀ f, anyT P md ops Q S m f listed a w
  | 0 => ⟨hr, h⟩
  | _ + 1 => ⟨fun _ => h, by rw [hr]; simp⟩
theorem region_T (S : World → Prop) (m : Nat) {id : Nat} {a : Act} {w : World} (hm : P.follows .mixedOrders = true) (h : anyT P .any ops Q S m ops.size (Array.replicate ops.size false) a w.drew) : (Code.region id ops true).wp P Q a w :=
  wp_region_any hm (anyT_any _ _ _ _ h)
end
theorem step_app8g (w : World) {ops : Array Oper} {o : Oper} {a : Act} {K : Act → World → Prop} {Q : Exit → Act → World → Prop} {E : Prop}
    (hg : Region.wanted o (yielded ops a.tmps) = true) (s x : Operand) (hop : o.op = Op.call { callee := Callee.builtin Builtin.append, args := #[s, x], argTypes := #[23, 23] })
    (B : Nat) (g n c : Nat) (l : List UInt8) (hs : a.eval s = .slice (some ⟨g, 0, none⟩) n c) (hown : Own w B (some ⟨g, 0, none⟩) n c l)
    (B2 : Nat) (A2 : Option Addr) (m c2 : Nat) (l2 : List UInt8) (hx : a.eval x = .slice A2 m c2) (hr : Rd w B2 A2 m c2 l2)
    (hbytes : n + m ≤ 140737488355328) (hbase : B ≤ w.heap.size)
    (hK : ∀ g' c' w', Own w' B (some ⟨g', 0, none⟩) (n + m) c' (l ++ l2) → w.grownBy w' (some g) → (g' = g ∨ g' = w.heap.size) → K (a.put o.dst (.slice (some ⟨g', 0, none⟩) (n + m) c')) w') :
    if Region.wanted o (yielded ops a.tmps) = true then Oper.wp Try.prog o a w K Q else E := by
  rw [if_pos hg]
  obtain ⟨i0, hi0, hz0, hz1, hz2⟩ := info_parts u8info
  obtain ⟨A', c', w', hrun, h1, h2, r3⟩ := run_app (P := Try.prog) w B 23 o.type 5 i0 _ 1 Try.underlying23 hi0 hz0 hz1 hz2 rfl (some ⟨g, 0, none⟩) n c (cbs l) hown B2 A2 m c2 (cbs l2) hr (cbs_one _) (fits_small (by omega)) (by unfold maxLen; omega) hbase
  unfold Oper.wp
  simp [execOp, hop, resolve, invoke, builtin, hs, hx, hrun, Result.andThen]
  have h1' : Own w' B A' (n + m) c' (l ++ l2) := by unfold Own; rw [cbs_append]; exact h1
  rcases h1.2 with ⟨hv, -⟩ | ⟨g', cap, cur, hv, -⟩
  · injection hv with e1 e2 e3
    subst e1
    rcases r3 with r3 | r3 <;> cases r3
  · injection hv with e1 e2 e3
    subst e1
    refine hK g' c' w' h1' h2 ?_
    rcases r3 with r3 | r3 <;> injection r3 with r3
    · exact Or.inl r3
    · exact Or.inr r3
theorem Own.left {w w' : World} {B n c g1 g : Nat} {l : List UInt8} (h : Own w B (some ⟨g1, 0, none⟩) n c l) (hg : w.grownBy w' (some g)) (hne : g1 ≠ g) : Own w' B (some ⟨g1, 0, none⟩) n c l := by
  have hb := h.base
  refine ⟨h.1, ?_⟩
  rcases h.2 with h' | ⟨g', cap, cur, hv, hb', hh, r⟩
  · exact Or.inl h'
  · have e : g' = g1 := by injection hv with e1; injection e1 with e1; injection e1 with e1; exact e1.symm
    subst e
    exact Or.inr ⟨g', cap, cur, hv, hb', (hg.block g' hb.2 (fun e => by injection e with e; omega)).trans hh, r⟩
theorem Blk.left {w w' : World} {k g : Nat} {cs : Array Value} {T : TypeId} (h : Blk w k cs T) (hg : w.grownBy w' (some g)) (hne : k ≠ g) : Blk w' k cs T :=
  (hg.block _ h.lt (fun e => by injection e with e; omega)).trans h
end
section
open Go.RowKit
section
variable {P : Program} {ops : Array Oper} {Q : Exit → Act → World → Prop} {md : Region.Mode} {S : World → Prop} {m : Nat}
def YieldsQ (P : Program) (ops : Array Oper) (S : World → Prop) (o : Oper) (v : Value) (a : Act) : Prop :=
  Region.wanted o (yielded ops a.tmps) = true ∧ ∀ w, S w → ∃ f args, (execOp a.eval o).run P w = .ok (.enter f args) w ∧ Calls P f args w fun e w' => e = .returned v ∧ w = w'
theorem YieldsQ.wpOp {i : Nat} {o : Oper} {v : Value} {a : Act} (hi : ops[i]? = some o) (hy : YieldsQ P ops S o v a)
    {K : Act → World → Prop} {w : World} (hS : S w) (h : K (a.put o.dst v) w) : wpOp P ops Q i K a w := by
  unfold Go.wpOp
  simp only [hi]
  obtain ⟨hw, hv⟩ := hy
  obtain ⟨f, args, hr, hc⟩ := hv w hS
  simp only [hw, if_true, Oper.wp, hr, Oper.upon]
  exact .inl (hc.mono (by rintro e w' ⟨rfl, rfl⟩; exact h))
theorem YieldsQ.of_same {o : Oper} {v : Value} {a a' : Act} (hy : YieldsQ P ops S o v a) (he : execOp a'.eval o = execOp a.eval o)
    (hw : Region.wanted o (yielded ops a'.tmps) = Region.wanted o (yielded ops a.tmps)) : YieldsQ P ops S o v a' := by
  unfold YieldsQ at *
  rw [he, hw]
  exact hy
theorem wpOp_keepY {j : Nat} {oj : Oper} (hj : ops[j]? = some oj) (Y : Act → Prop) (h1 : ∀ a u, Y a → Y (a.put oj.dst u)) (h2 : ∀ (a : Act) d, Y a → Y { a with defers := d :: a.defers })
    {K : Act → World → Prop} {a : Act} {w : World} (hy : Y a) (h : wpOp P ops Q j K a w) : wpOp P ops Q j (fun a' w' => Y a' ∧ K a' w') a w := by
  unfold wpOp at *
  simp only [hj] at *
  by_cases hw : Region.wanted oj (yielded ops a.tmps) = true
  · rw [if_pos hw] at h ⊢
    refine h.imp (fun h => ?_) id
    unfold Oper.wp at *
    generalize (execOp a.eval oj).run P w = r at *
    rcases r with ⟨n, w'⟩ | ⟨x, w'⟩
    · cases n with
      | value u => exact ⟨h1 _ _ hy, h⟩
      | skip => exact ⟨h1 _ _ hy, h⟩
      | defer d => exact ⟨h1 _ _ (h2 _ _ hy), h⟩
      | enter f args =>
        refine Calls.mono h fun e w2 he => ?_
        cases e with
        | returned u => exact ⟨h1 _ _ hy, he⟩
        | panicked c => exact he
        | outgrown => exact he
      | row r args => exact Rows.mono h fun u w2 he => ⟨h1 _ _ hy, he⟩
      | _ => exact h
    · cases x <;> exact h
  · rw [if_neg hw] at h ⊢
    exact ⟨h1 _ _ hy, h⟩
theorem wpOp_putQ {j : Nat} {oi oj : Oper} {v : Value} (hj : ops[j]? = some oj) (hap : oi.apart ops oj = true)
    (hsi : ∀ cs b, oi.op ≠ .select cs b) (hsj : ∀ cs b, oj.op ≠ .select cs b)
    (hQ : ∀ c a w, Q (.panic c) (a.put oi.dst v) w → Q (.panic c) a w) {K : Act → World → Prop} {a : Act} {w : World}
    (hy : YieldsQ P ops S oi v a) (h : wpOp P ops Q j K (a.put oi.dst v) w) :
    wpOp P ops Q j (fun a' w' => YieldsQ P ops S oi v a' ∧ K (a'.put oi.dst v) w') a w := by
  obtain ⟨-, -, h3⟩ := Oper.apart_spec hap
  have hno : YieldsIf P ops (fun _ => False) oi v a := Or.inl ⟨hy.1, fun _ h => h.elim⟩
  exact wpOp_keepY hj (fun a' => YieldsQ P ops S oi v a') (fun a u h => h.of_same (execOp_put oi hsi a oj.dst u h3) (wanted_put oi a oj.dst u h3)) (fun a d h => h.of_same rfl rfl) hy
    (wpOp_mono (fun a' w' h' => h'.2) (wpOp_putIf hj hap hsi hsj hQ hno h))
theorem anyT_firstQ {i : Nat} {oi : Oper} {v : Value} (hi : ops[i]? = some oi) (hsel : ∀ (j : Nat) (o : Oper) cs b, ops[j]? = some o → o.op ≠ .select cs b)
    (hnot : ∀ listed, i ∈ Region.ready md ops listed → ∀ j ∈ Region.ready md ops listed, j < m)
    (hQ : ∀ c a w, Q (.panic c) (a.put oi.dst v) w → Q (.panic c) a w) : ∀ (f : Nat) (listed : Array Bool) (a : Act) (w : World),
    (∀ j oj, ops[j]? = some oj → j ≠ i → listed.getD j true = false → (∀ e ∈ oj.after, Region.binds md e = true → e.on ≠ i) → oi.apart ops oj = true) →
    i ∈ Region.ready md ops listed → YieldsQ P ops S oi v a → S w → anyT P md ops Q S m f (listed.setIfInBounds i true) (a.put oi.dst v) w → anyT P md ops Q S m (f + 1) listed a w := by
  intro f
  induction f with
  | zero =>
    intro listed a w _ hr hy hS H
    constructor
    · intro h; rw [h] at hr; cases hr
    · intro j hj
      by_cases hji : j = i
      · subst hji; exact hy.wpOp hi hS ⟨fun _ => hS, H⟩
      · have h0 := ready_mono hj hji
        rw [H.1] at h0
        cases h0
  | succ f ih =>
    intro listed a w hfree hr hy hS H
    constructor
    · intro h; rw [h] at hr; cases hr
    · intro j hj
      by_cases hji : j = i
      · subst hji; exact hy.wpOp hi hS ⟨fun _ => hS, H⟩
      · have hjm := hnot listed hr j hj
        obtain ⟨hun, oj, hoj, hall⟩ := mem_ready.1 hj
        have hno : ∀ e ∈ oj.after, Region.binds md e = true → e.on ≠ i := by
          intro e he hb heq
          have h1 := hall e he hb
          rw [heq, getD_both (mem_ready.1 hr).1] at h1
          cases h1
        refine wpOp_mono ?_ (wpOp_putQ hoj (hfree j oj hoj hji hun hno) (fun cs b => hsel i oi cs b hi) (fun cs b => hsel j oj cs b hoj) hQ hy (H.2 j (ready_mono hj hji)))
        intro a' w' h3
        refine ⟨fun _ => h3.2.1 hjm, ih (listed.setIfInBounds j true) a' w' ?_ (ready_mono hr (Ne.symm hji)) h3.1 (h3.2.1 hjm) ?_⟩
        · intro k ok hk hki hkun hkno
          refine hfree k ok hk hki ?_ hkno
          by_cases hjk : j = k
          · subst hjk; exact hun
          · rw [getD_set_ne true hjk] at hkun; exact hkun
        · rw [Array.setIfInBounds_comm _ _ hji]
          exact h3.2.2
theorem takeQ {i : Nat} {oi : Oper} {v : Value} {f : Nat} {listed : Array Bool} {a : Act} {w : World} (hi : ops.toList[i]? = some oi)
    (hs : Region.noSelect ops = true) (hL : lastB md ops m i = true) (him : i < m) (hf : Region.free md ops listed i = true) (hr : (Region.ready md ops listed).contains i = true)
    (hQ : ∀ c a w, Q (.panic c) (a.put oi.dst v) w → Q (.panic c) a w) (hy : YieldsQ P ops S oi v a) (hS : S w)
    (h : anyT P md ops Q S m f (listed.setIfInBounds i true) (a.put oi.dst v) w) : anyT P md ops Q S m (f + 1) listed a w := by
  rw [Array.getElem?_toList] at hi
  exact anyT_firstQ hi (Region.noSelect_spec hs) (fun _ h1 _ h2 => last_not hL h1 h2 him) hQ f listed a w (Region.free_spec hi hf) (by simpa using hr) hy hS h
end
end
section
open Go.RowKit
section
variable {P : Program} {ops : Array Oper} {Q : Exit → Act → World → Prop} {md : Region.Mode} {S : World → Prop} {m : Nat}
end
end
section
open Go.RowKit
def Rz (w : World) (B z : Nat) (A : Option Addr) (n c : Nat) (xs : List Value) : Prop :=
  xs.length = n * z ∧ n ≤ c ∧ c ≤ maxLen ∧ (A = none → c = 0) ∧ (∀ ad, A = some ad → 0 < n → ad.block < B) ∧ ∀ ad i u, A = some ad → xs[i]? = some u → w.cell? (ad.add i) = some u
def Oz (w : World) (B : Nat) (e : TypeId) (z : Nat) (A : Option Addr) (n c : Nat) (xs : List Value) : Prop := w.ownsRow B e z (.slice A n c) n xs
section
variable {w w' : World} {B B' z n c : Nat} {A : Option Addr} {xs : List Value} {e : TypeId}
theorem Rz.len (h : Rz w B z A n c xs) : xs.length = n * z := h.1
theorem Rz.cap (h : Rz w B z A n c xs) : n ≤ c := h.2.1
theorem Rz.max (h : Rz w B z A n c xs) : c ≤ maxLen := h.2.2.1
theorem Rz.nil (w : World) (B z : Nat) : Rz w B z none 0 0 [] := ⟨by simp, Nat.le_refl _, by simp [maxLen], (fun _ => rfl), (fun _ h => by cases h), (fun _ _ _ h => by cases h)⟩
theorem Rz.one (h : Rz w B 1 A n c xs) : Rv w B A n c xs := by
  obtain ⟨h1, h2⟩ := h
  exact ⟨by simpa using h1, h2⟩
theorem Rv.rz (h : Rv w B A n c xs) : Rz w B 1 A n c xs := by
  obtain ⟨h1, h2⟩ := h
  exact ⟨by simpa using h1, h2⟩
theorem Rz.elem (h : Rz w B z A n c xs) {i : Nat} (hi : i < n) : ∃ ad, A = some ad ∧ ad.block < B ∧ ((xs.drop (i * z)).take z).length = z ∧ ∀ j u, ((xs.drop (i * z)).take z)[j]? = some u → w.cell? ((ad.add (i * z)).add j) = some u := by
  obtain ⟨h1, h2, _, h4, h5, h6⟩ := h
  cases A with
  | none => have := h4 rfl; omega
  | some ad =>
    refine ⟨ad, rfl, h5 ad rfl (by omega), ?_, fun j u hu => ?_⟩
    · rw [List.length_take, List.length_drop, h1]
      have : (i + 1) * z ≤ n * z := Nat.mul_le_mul_right z hi
      rw [Nat.add_mul] at this
      omega
    · rw [List.getElem?_take] at hu
      split at hu
      · rw [List.getElem?_drop] at hu
        rw [add_add]
        exact h6 ad _ u rfl hu
      · cases hu
theorem Rz.keep (h : Rz w B z A n c xs) (hk : ∀ p : Addr, p.block < B → w'.cell? p = w.cell? p) : Rz w' B z A n c xs := by
  obtain ⟨h1, h2, h3, h4, h5, h6⟩ := h
  refine ⟨h1, h2, h3, h4, h5, fun ad i u hA hu => ?_⟩
  have hn : 0 < n := by
    have := (List.getElem?_eq_some_iff.1 hu).1
    rcases Nat.eq_zero_or_pos n with h0 | h0
    · rw [h1, h0] at this; simp at this
    · exact h0
  exact (hk _ (by rw [block_add]; exact h5 ad hA hn)).trans (h6 ad i u hA hu)
theorem Rz.more (h : Rz w B z A n c xs) (hB : B ≤ B') : Rz w B' z A n c xs :=
  ⟨h.1, h.2.1, h.2.2.1, h.2.2.2.1, fun ad hA hn => Nat.lt_of_lt_of_le (h.2.2.2.2.1 ad hA hn) hB, h.2.2.2.2.2⟩
theorem Rz.below (h : Rz w B z A n c xs) (hb : Below B w w') : Rz w' B z A n c xs := h.keep fun _ hp => hb.cell hp
theorem Rz.drewN (h : Rz w B z A n c xs) (k : Nat) : Rz (w.drewN k) B z A n c xs := h
theorem Rz.alloc (h : Rz w B z A n c xs) (hB : B ≤ w.heap.size) (o : Obj) : Rz (w.alloc o) B z A n c xs := h.keep fun p hp => World.cell?_alloc_lt w o p (by omega)
theorem Rz.setCell (h : Rz w B z A n c xs) {p : Addr} (hB : B ≤ p.block) (u : Value) : Rz (w.setCell p u) B z A n c xs :=
  h.keep fun q hq => World.cell?_setCell_other w p q u (fun e => by subst e; omega)
theorem Rz.step (h : Rz w w.heap.size z A n c xs) (hb : Below w.heap.size w w') : Rz w' w'.heap.size z A n c xs := (h.below hb).more hb.size
theorem Rz.cut (h : Rz w B z A n c xs) {i j : Nat} (hij : i ≤ j) (hj : j ≤ n) :
    Rz w B z (if c = i then A else A.map (·.add (i * z))) (j - i) (c - i) ((xs.take (j * z)).drop (i * z)) := by
  obtain ⟨h1, h2, h3, h4, h5, h6⟩ := h
  have hjz : j * z ≤ n * z := Nat.mul_le_mul_right z hj
  have hl : ((xs.take (j * z)).drop (i * z)).length = (j - i) * z := by
    rw [List.length_drop, List.length_take, h1, Nat.sub_mul]; omega
  by_cases hc : c = i
  · rw [if_pos hc]
    have hx : (xs.take (j * z)).drop (i * z) = [] := List.eq_nil_of_length_eq_zero (by rw [hl, show j - i = 0 from by omega]; simp)
    rw [hx]
    refine ⟨by rw [show j - i = 0 from by omega]; simp, by omega, by omega, fun hA => by have := h4 hA; omega, fun ad hA hn => by omega, fun ad k u hA hu => by simp at hu⟩
  · rw [if_neg hc]
    cases A with
    | none => have := h4 rfl; omega
    | some ad =>
      refine ⟨hl, by omega, by omega, fun hA => by simp at hA, fun ad' hA hn => ?_, fun ad' k u hA hu => ?_⟩
      · simp only [Option.map_some, Option.some.injEq] at hA
        subst hA
        rw [block_add]
        exact h5 ad rfl (by omega)
      · simp only [Option.map_some, Option.some.injEq] at hA
        subst hA
        rw [add_add]
        rw [List.getElem?_drop, List.getElem?_take] at hu
        split at hu
        · exact h6 ad _ u rfl hu
        · cases hu
theorem Oz.len (h : Oz w B e z A n c xs) : xs.length = n * z := h.1
theorem Oz.nil (w : World) (B : Nat) (e : TypeId) (z : Nat) : Oz w B e z none 0 0 [] := World.ownsRow_nil _ _ _ _
theorem Oz.rz (h : Oz w B e z A n c xs) : Rz w w.heap.size z A n c xs := by
  refine ⟨h.1, ?_⟩
  rcases h.2 with ⟨hv, h0⟩ | ⟨g, cap, cur, hv, hg, hh, hnc, hcm, hcs, ht⟩
  · injection hv with e1 e2 e3
    subst e1; subst e3
    have hx : xs = [] := List.eq_nil_of_length_eq_zero (by rw [h.1, h0]; simp)
    subst hx
    exact ⟨by omega, by simp [maxLen], (fun _ => rfl), (fun _ h => by cases h), (fun _ _ _ h => by cases h)⟩
  · injection hv with e1 e2 e3
    subst e1; subst e3
    refine ⟨hnc, hcm, (fun h => by cases h), (fun ad hA _ => ?_), (fun ad i u hA hu => ?_)⟩
    · injection hA with hA; subst hA
      exact (Array.getElem?_eq_some_iff.1 hh).1
    · injection hA with hA; subst hA
      exact World.ownsRow.cells h rfl i u hu
theorem Oz.more (h : Oz w B e z A n c xs) (hB : B' ≤ B) : Oz w B' e z A n c xs := by
  refine ⟨h.1, ?_⟩
  rcases h.2 with h' | ⟨g, cap, cur, hv, hg, r⟩
  · exact Or.inl h'
  · exact Or.inr ⟨g, cap, cur, hv, by omega, r⟩
theorem Oz.below (h : Oz w B e z A n c xs) (hb : Below w.heap.size w w') : Oz w' B e z A n c xs := by
  refine ⟨h.1, ?_⟩
  rcases h.2 with h' | ⟨g, cap, cur, hv, hg, hh, r⟩
  · exact Or.inl h'
  · exact Or.inr ⟨g, cap, cur, hv, hg, (hb.block g (Array.getElem?_eq_some_iff.1 hh).1).trans hh, r⟩
theorem Oz.step (h : Oz w B e z A n c xs) (hb : Below w.heap.size w w') : Oz w' B e z A n c xs := h.below hb
theorem Oz.alloc (h : Oz w B e z A n c xs) (o : Obj) : Oz (w.alloc o) B e z A n c xs := World.ownsRow.alloc h o
theorem Oz.drewN (h : Oz w B e z A n c xs) (k : Nat) : Oz (w.drewN k) B e z A n c xs := h
theorem Oz.at' (h : Oz w B e z A n c xs) : ∀ k, (Value.slice A n c).ownBlock = some k → B ≤ k ∧ k < w.heap.size := World.ownsRow.lt h
theorem Oz.grown {g : Nat} (h : Oz w B e z A n c xs) (hg : w.grownBy w' (some g)) (hne : ∀ k, (Value.slice A n c).ownBlock = some k → k ≠ g) : Oz w' B e z A n c xs := by
  refine World.ownsRow.kept h hg ?_
  cases e : (Value.slice A n c).ownBlock with
  | none => exact Or.inl rfl
  | some k => exact Or.inr fun e2 => hne k e (by injection e2)
theorem Oz.empty (w : World) (B : Nat) (e : TypeId) (z : Nat) (hB : B ≤ w.heap.size) : Oz (w.alloc (.cells #[] e)) B e z (some ⟨w.heap.size, 0, none⟩) 0 0 [] := World.ownsRow_made w #[] 0 hB (Nat.zero_le _) (by simp)
theorem Oz.emptyK (w : World) (k B : Nat) (e : TypeId) (z : Nat) (hk : w.heap.size = k) (hB : B ≤ k) : Oz (w.alloc (.cells #[] e)) B e z (some ⟨k, 0, none⟩) 0 0 [] := by
  subst hk; exact Oz.empty w B e z hB
theorem Rz.new1 (w : World) (cs : Array Value) (e : TypeId) (z : Nat) (hs : cs.size = z) : Rz (w.alloc (.cells cs e)) (w.heap.size + 1) z (some ⟨w.heap.size, 0, none⟩) 1 1 cs.toList := by
  refine ⟨by simp [hs], Nat.le_refl _, by simp [maxLen], (fun h => by cases h), (fun ad hA _ => by injection hA with hA; subst hA; exact Nat.lt_succ_self _), fun ad i u hA hu => ?_⟩
  injection hA with hA; subst hA
  have ha : (⟨w.heap.size, 0, none⟩ : Addr).add i = ⟨w.heap.size, i, none⟩ := by
    unfold Addr.add
    by_cases hi : i = 0
    · subst hi; rfl
    · rw [if_neg hi]; simp
  rw [ha, cell_of_row _ _ i cs e (0, 0) (heap_alloc_new w _)]
  simpa using hu
end
theorem run_appz {P : Program} (w : World) (B : Nat) (t ty e : TypeId) (i : TypeInfo) (zv : Value) (z bytes : Nat) (ht : P.underlying t = some (.slice e)) (hi : P.info? e = some i) (hz : i.zero = some zv)
    (hsize : i.size = z) (hby : i.bytes = bytes) (hzs : zv.cells.size = z) (hpos : 0 < z)
    (A : Option Addr) (n c : Nat) (xs : List Value) (hown : Oz w B e z A n c xs)
    (B2 : Nat) (A2 : Option Addr) (m c2 : Nat) (news : List Value) (hr : Rz w B2 z A2 m c2 news) (h1 : ∀ u ∈ news, u.oneCell' = true)
    (h63 : n + m ≤ maxLen) (hbytes : (n + m) * bytes ≤ 140737488355328) (hbase : B ≤ w.heap.size) :
    ∃ A' c' w', (Builtin.append_ #[t, t] ty #[.slice A n c, .slice A2 m c2]).run P w = .ok (.slice A' (n + m) c') w' ∧ Oz w' B e z A' (n + m) c' (xs ++ news) ∧ w.grownBy w' (Value.slice A n c).ownBlock ∧
      ((Value.slice A' (n + m) c').ownBlock = (Value.slice A n c).ownBlock ∨ (Value.slice A' (n + m) c').ownBlock = some w.heap.size) := by
  have shape : ∀ (v : Value) (k : Nat) (ys : List Value) (W : World), W.ownsRow B e z v k ys → ∃ A' c', v = .slice A' k c' := by
    intro v k ys W h
    rcases h.2 with ⟨rfl, rfl⟩ | ⟨g, cap, cur, rfl, _⟩
    · exact ⟨_, _, rfl⟩
    · exact ⟨_, _, rfl⟩
  cases A2 with
  | none =>
    have hc0 : c2 = 0 := hr.2.2.2.1 rfl
    have hm : m = 0 := by have := hr.2.1; omega
    subst hm
    subst hc0
    have hn : news = [] := List.eq_nil_of_length_eq_zero (by rw [hr.1]; simp)
    subst hn
    exact ⟨A, c, w, run_append_owned_none w B t ty e i z ht hi _ n xs hown, by simpa using hown, World.grownBy.refl w _, Or.inl rfl⟩
  | some a =>
    have hnews : ∀ j u, news[j]? = some u → w.cell? (a.add j) = some u := fun j u hu => hr.2.2.2.2.2 a j u rfl hu
    obtain ⟨v', w', hrun, h2, h3, _, h5⟩ := run_append_own_at (P := P) w B t ty e i zv z bytes ht hi hz hsize hby hzs hpos (.slice A n c) n xs hown a m c2 news hr.1 hnews h1 h63 hbytes hbase
    obtain ⟨A', c', rfl⟩ := shape v' _ _ _ h2
    exact ⟨A', c', w', hrun, h2, h3, h5⟩
theorem wpList_appz {P : Program} (w : World) {ops : Array Oper} {rest : List Oper} {o : Oper} {a : Act} {Q : Exit → Act → World → Prop}
    (hg : Region.wanted o (yielded ops a.tmps) = true) (s x : Operand) (t : TypeId) (hop : o.op = Op.call { callee := Callee.builtin Builtin.append, args := #[s, x], argTypes := #[t, t] })
    (B : Nat) (e : TypeId) (i : TypeInfo) (zv : Value) (z bytes : Nat) (ht : P.underlying t = some (.slice e)) (hi : P.info? e = some i) (hz : i.zero = some zv)
    (hsize : i.size = z) (hby : i.bytes = bytes) (hzs : zv.cells.size = z) (hpos : 0 < z)
    (A : Option Addr) (n c : Nat) (xs : List Value) (hs : a.eval s = .slice A n c) (hown : Oz w B e z A n c xs)
    (B2 : Nat) (A2 : Option Addr) (m c2 : Nat) (news : List Value) (hx : a.eval x = .slice A2 m c2) (hr : Rz w B2 z A2 m c2 news) (h1 : ∀ u ∈ news, u.oneCell' = true)
    (h63 : n + m ≤ maxLen) (hbytes : (n + m) * bytes ≤ 140737488355328) (hbase : B ≤ w.heap.size)
    (hK : ∀ A' c' w', Oz w' B e z A' (n + m) c' (xs ++ news) → Below B w w' → wpList P ops Q rest (a.put o.dst (.slice A' (n + m) c')) w') :
    wpList P ops Q (o :: rest) a w := by
  refine wpList_want hg fun K hK' => ?_
  obtain ⟨A', c', w', hrun, r1, r2, r3⟩ := run_appz (P := P) w B t o.type e i zv z bytes ht hi hz hsize hby hzs hpos A n c xs hown B2 A2 m c2 news hr h1 h63 hbytes hbase
  unfold Oper.wp
  simp [execOp, hop, resolve, invoke, builtin, hs, hx, hrun, Result.andThen]
  refine hK' _ _ (hK A' c' w' r1 ?_)
  exact (Below.refl B w).grown r2 hbase fun k hk => (World.ownsRow.lt hown k hk).1
theorem run_ldz {P : Program} (w : World) (p : Addr) (ty : TypeId) (cs : List Value) (d : TypeDesc) (hc : ∀ j v, cs[j]? = some v → w.cell? (p.add j) = some v)
    (hu : P.underlying ty = some d) (hd : (match d with | .struct _ | .array _ _ => true | _ => false) = true) (hi : (P.info? ty).map (·.size) = some cs.length) :
    (loadVar ty p).run P w = .ok (.agg cs.toArray) w := by
  have hl := run_loadCells_list (P := P) w p cs hc
  cases hq : P.info? ty with
  | none => simp [hq] at hi
  | some i =>
    have hs : i.size = cs.length := by simpa [hq] using hi
    have hagg : (isAgg ty).run P w = .ok true w := by
      unfold isAgg
      rw [Sem.run_bind, run_underlying hu w]
      cases d <;> simp_all
    simp [loadVar, Sem.run_bind, hagg, sizeOf, typeInfo, hq, hs, hl]
theorem wp_loadz {P : Program} {o : Oper} {a : Act} {w : World} {K : Act → World → Prop} {Q : Exit → Act → World → Prop} (ty : TypeId) (x : Operand) (ho : o.op = .load ty x)
    (p : Addr) (hx : a.eval x = .pointer (some p)) (cs : List Value) (d : TypeDesc) (hc : ∀ j v, cs[j]? = some v → w.cell? (p.add j) = some v)
    (hu : P.underlying ty = some d) (hd : (match d with | .struct _ | .array _ _ => true | _ => false) = true) (hi : (P.info? ty).map (·.size) = some cs.length)
    (h : K (a.put o.dst (.agg cs.toArray)) w) : o.wp P a w K Q := by
  unfold Oper.wp execOp
  simp only [ho, hx, Instr.loadAt, Instr.sureAddr, Sem.run_bind, Sem.run_pure, Result.andThen_ok, run_ldz w p ty cs d hc hu hd hi]
  exact h
theorem wpList_loadz {P : Program} {ops : Array Oper} {rest : List Oper} {o : Oper} {a : Act} {w : World} {Q : Exit → Act → World → Prop} (hgd : o.guard = none) (ty : TypeId) (x : Operand) (ho : o.op = .load ty x)
    (p : Addr) (hx : a.eval x = .pointer (some p)) (cs : List Value) (d : TypeDesc) (hc : ∀ j v, cs[j]? = some v → w.cell? (p.add j) = some v)
    (hu : P.underlying ty = some d) (hd : (match d with | .struct _ | .array _ _ => true | _ => false) = true) (hi : (P.info? ty).map (·.size) = some cs.length)
    (h : wpList P ops Q rest (a.put o.dst (.agg cs.toArray)) w) : wpList P ops Q (o :: rest) a w :=
  wpList_plain hgd fun _ hK => wp_loadz ty x ho p hx cs d hc hu hd hi (hK _ _ h)
theorem fill_one {z : Nat} (hz : 0 < z) (v : Value) (hv : v.cells.size = z) (f : Nat → Value) : Instr.fill (fun i => some (i * z, z)) ((Array.range (1 * z)).map f) [(0, v)] = some v.cells := by
  have h := Great.fill_whole hz [v] ((Array.range (1 * z)).map f) (fun u hu => by simp at hu; subst hu; exact hv) (by simp)
  simpa using h
theorem wpList_bs1 {P : Program} {ops : Array Oper} {rest : List Oper} {o : Oper} {a : Act} {w : World} {Q : Exit → Act → World → Prop} (hg : o.guard = none) (t : TypeId) (x : Operand) (ho : o.op = .buildSlice t 1 #[(0, x)])
    (e : TypeId) (ie : TypeInfo) (zv v : Value) (z : Nat) (hx : a.eval x = v) (hu : P.underlying t = some (.slice e)) (hie : P.info? e = some ie) (hz : ie.zero = some zv) (hsize : ie.size = z) (hv : v.cells.size = z) (hpos : 0 < z) (hsm : z ≤ 2 ^ 24)
    (h : wpList P ops Q rest (a.put o.dst (.slice (some ⟨w.heap.size, 0, none⟩) 1 1)) (w.alloc (.cells v.cells e))) : wpList P ops Q (o :: rest) a w := by
  refine wpList_buildSlice hg t e 1 _ ho v.cells ie zv hu hie hz (by rw [hsize]; omega) (by rw [hsize]; omega) ?_ h
  rw [hsize]
  have e1 : (#[(0, x)].map fun (x : Nat × Operand) => (x.1, a.eval x.2)).toList = [(0, v)] := by simp [hx]
  rw [e1]
  exact fill_one hpos v hv _
theorem flat_len {α : Type} (z : Nat) : ∀ (L : List (List α)), (∀ x ∈ L, x.length = z) → L.flatten.length = L.length * z
  | [], _ => by simp
  | x :: L, h => by
    rw [List.flatten_cons, List.length_append, flat_len z L (fun y hy => h y (List.mem_cons_of_mem _ hy)), h x (List.mem_cons_self), List.length_cons, Nat.add_mul, Nat.one_mul, Nat.add_comm]
theorem flat_drop {α : Type} (z : Nat) : ∀ (i : Nat) (L : List (List α)), (∀ x ∈ L, x.length = z) → L.flatten.drop (i * z) = (L.drop i).flatten
  | 0, L, _ => by simp
  | i + 1, [], _ => by simp
  | i + 1, x :: L, h => by
    rw [List.flatten_cons, List.drop_succ_cons, ← flat_drop z i L (fun y hy => h y (List.mem_cons_of_mem _ hy)), List.drop_append, h x (List.mem_cons_self), List.drop_of_length_le (by rw [h x (List.mem_cons_self), Nat.add_mul]; omega), Nat.add_mul, Nat.one_mul, Nat.add_sub_cancel, List.nil_append]
theorem flat_elem {α : Type} (z : Nat) (L : List (List α)) (h : ∀ x ∈ L, x.length = z) {i : Nat} {x : List α} (hx : L[i]? = some x) : (L.flatten.drop (i * z)).take z = x := by
  have hi := (List.getElem?_eq_some_iff.1 hx).1
  have hxx := (List.getElem?_eq_some_iff.1 hx).2
  rw [flat_drop z i L h, List.drop_eq_getElem_cons hi, hxx, List.flatten_cons, List.take_append, h x (List.mem_of_getElem? hx), List.take_of_length_le (by rw [h x (List.mem_of_getElem? hx)]; omega)]
  simp
end
end Go.Proofs.Ytnghmgbmflcngaa

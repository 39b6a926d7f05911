/- A map with integer keys that the call itself made, known entry by entry: stored into, looked up, ranged over. Conditions: typed in each theorem. -/
import Derived.Test.YtnghmgbmflcngaaBase
import Derived.Maps.Range
namespace Go.Proofs.Ytnghmgbmflcngaa
set_option linter.unusedVariables false
open Go.RowKit
open Go.MapKept (IsKey findNow_spec)
open Go.ChangeMaps (setBlock)

/-- Entries, in the order in which they were laid. -/
def esB (q : IntKind) : Nat → List (Int × Value) → List MapEntry
  | _, [] => []
  | b, (k, v) :: l => ⟨.int q k, v, b⟩ :: esB q (b + 1) l
theorem esB_length (q : IntKind) : ∀ (b : Nat) (L : List (Int × Value)), (esB q b L).length = L.length
  | _, [] => rfl
  | b, (k, v) :: l => by simp [esB, esB_length q (b + 1) l]
theorem esB_snoc (q : IntKind) (k : Int) (v : Value) : ∀ (b : Nat) (L : List (Int × Value)), esB q b (L ++ [(k, v)]) = esB q b L ++ [⟨.int q k, v, b + L.length⟩]
  | b, [] => rfl
  | b, (k', v') :: l => by
    simp only [List.cons_append, esB, esB_snoc q k v (b + 1) l, List.length_cons]
    rw [show b + 1 + l.length = b + (l.length + 1) from by omega]
theorem esB_mem (q : IntKind) : ∀ (b : Nat) (L : List (Int × Value)) (e : MapEntry), e ∈ esB q b L → ∃ j k v, L[j]? = some (k, v) ∧ e = ⟨.int q k, v, b + j⟩
  | _, [], e, h => by cases h
  | b, (k, v) :: l, e, h => by
    rcases List.mem_cons.1 h with rfl | h
    · exact ⟨0, k, v, rfl, rfl⟩
    · obtain ⟨j, k', v', h1, rfl⟩ := esB_mem q (b + 1) l e h
      exact ⟨j + 1, k', v', h1, by rw [show b + 1 + j = b + (j + 1) from by omega]⟩
theorem esB_get (q : IntKind) : ∀ (b : Nat) (L : List (Int × Value)) (j : Nat) (k : Int) (v : Value), L[j]? = some (k, v) → (esB q b L)[j]? = some ⟨.int q k, v, b + j⟩
  | _, [], j, k, v, h => by simp at h
  | b, (k0, v0) :: l, 0, k, v, h => by
    simp at h
    obtain ⟨rfl, rfl⟩ := h
    rfl
  | b, (k0, v0) :: l, j + 1, k, v, h => by
    have := esB_get q (b + 1) l j k v (by simpa using h)
    rw [show b + 1 + j = b + (j + 1) from by omega] at this
    simpa [esB] using this
theorem esB_key (q : IntKind) (b : Nat) (L : List (Int × Value)) : ∀ x ∈ esB q b L, IsKey (.int q) x.key := by
  intro x hx
  obtain ⟨j, k, v, _, rfl⟩ := esB_mem q b L x hx
  simp [IsKey]
theorem esB_nodup (q : IntKind) : ∀ (b : Nat) (L : List (Int × Value)), ((esB q b L).map (·.born)).Nodup
  | _, [] => by simp [esB]
  | b, (k, v) :: l => by
    simp only [esB, List.map_cons, List.nodup_cons]
    refine ⟨fun h => ?_, esB_nodup q (b + 1) l⟩
    obtain ⟨x, hx, hb⟩ := List.mem_map.1 h
    obtain ⟨j, k', v', _, rfl⟩ := esB_mem q (b + 1) l x hx
    simp at hb
    omega
/-- Block b is the map of these entries. -/
def MapB (w : World) (q : IntKind) (b : Nat) (L : List (Int × Value)) : Prop := w.heap[b]? = some (.map (esB q 0 L).toArray L.length)
theorem MapB.lt {w : World} {q : IntKind} {b : Nat} {L : List (Int × Value)} (h : MapB w q b L) : b < w.heap.size := (Array.getElem?_eq_some_iff.1 h).1
theorem MapB.step {w w' : World} {q : IntKind} {b : Nat} {L : List (Int × Value)} (h : MapB w q b L) (hb : Below w.heap.size w w') : MapB w' q b L := (hb.block b h.lt).trans h
theorem MapB.new (w : World) (q : IntKind) : MapB (w.alloc (.map #[] 0)) q w.heap.size [] := heap_alloc_new w _
theorem MapB.left {w w' : World} {q : IntKind} {b g : Nat} {L : List (Int × Value)} (h : MapB w q b L) (hg : w.grownBy w' (some g)) (hne : b ≠ g) : MapB w' q b L := (hg.block b h.lt (fun e => hne (by injection e))).trans h
section
variable {P : Program} {w : World} {q : IntKind} {b : Nat} {L : List (Int × Value)} {t kt et : TypeId}
theorem run_putB (ht : P.underlying t = some (.map kt et)) (hd : P.underlying kt = some (.int q)) (hb : MapB w q b L) (k : Int) (v : Value) (hnew : ∀ p ∈ L, p.1 ≠ k) :
    ∃ w', (Instr.mapUpdate t (.map (some b)) (.int q k) v).run P w = .ok () w' ∧ MapB w' q b (L ++ [(k, v)]) ∧ w.grownBy w' (some b) := by
  have hkey : IsKey (.int q) (.int q k) := by simp [IsKey]
  have hfn : Instr.findNow (.int q) (.int q k) (esB q 0 L) 0 = some none := by
    rcases findNow_spec hkey (esB q 0 L) 0 (esB_key q 0 L) with ⟨h1, _⟩ | ⟨j, e, h1, h2, h3⟩
    · exact h1
    · obtain ⟨j', k', v', h4, rfl⟩ := esB_mem q 0 L e (List.mem_of_getElem? h2)
      injection h3 with _ h3
      exact absurd h3 (hnew _ (List.mem_of_getElem? h4))
  have hck := MapKept.run_checkKey (w := w) hd hkey false 9999
  have hfk := MapKept.run_findKey (w := w) hd hfn
  refine ⟨{ w with heap := w.heap.setIfInBounds b (.map ((esB q 0 L).toArray.push ⟨.int q k, v, L.length⟩) (L.length + 1)) }, ?_, ?_, ?_⟩
  · simp [Instr.mapUpdate, run_underlying ht, MapKept.run_getObj_map hb, hck, hfk, MapKept.run_setObj_map _ hb, Result.andThen]
  · have h := (MapKept.heap_set (o' := .map ((esB q 0 L).toArray.push ⟨.int q k, v, L.length⟩) (L.length + 1)) hb).1
    unfold MapB
    rw [esB_snoc, Nat.zero_add]
    simpa using h
  · exact ⟨rfl, rfl, rfl, by simp, fun r _ hne => (MapKept.heap_set hb).2 r (fun e => hne (by rw [e]))⟩
theorem run_lookB (ht : P.underlying t = some (.map kt et)) (hd : P.underlying kt = some (.int q)) (hb : MapB w q b L) (hne : L ≠ []) (k : Int) (z : Value) (hz : (zeroValue et).run P w = .ok z w)
    (hdis : ∀ (i j : Nat) (p p' : Int × Value), L[i]? = some p → L[j]? = some p' → p.1 = p'.1 → p = p') (r : Option Value) (hr : (L.find? (fun p => p.1 == k)).map (·.2) = r) :
    (Instr.lookup t (.map (some b)) (.int q k) true).run P w = .ok (.tuple #[r.getD z, .bool r.isSome]) w := by
  have hkey : IsKey (.int q) (.int q k) := by simp [IsKey]
  have hck := fun e => MapKept.run_checkKey (w := w) hd hkey e 9999
  rcases findNow_spec hkey (esB q 0 L) 0 (esB_key q 0 L) with ⟨h1, h2⟩ | ⟨j, e, h1, h2, h3⟩
  · have hfk := MapKept.run_findKey (w := w) hd h1
    have hnone : L.find? (fun p => p.1 == k) = none := by
      rw [List.find?_eq_none]
      intro p hp hk
      obtain ⟨j, hj, hjp⟩ := List.getElem_of_mem hp
      have h4 := esB_get q 0 L j p.1 p.2 (by rw [List.getElem?_eq_getElem hj, hjp])
      refine h2 _ (List.mem_of_getElem? h4) ?_
      show Value.int q p.1 = .int q k
      rw [show p.1 = k from by simpa using hk]
    rw [hnone] at hr
    subst hr
    simp [Instr.lookup, run_underlying ht, MapKept.run_getObj_map hb, hck, hfk, hz, Result.andThen]
  · have hfk := MapKept.run_findKey (w := w) hd h1
    obtain ⟨j', k', v', h4, rfl⟩ := esB_mem q 0 L e (List.mem_of_getElem? h2)
    injection h3 with _ h3
    subst h3
    have hsome : L.find? (fun p => p.1 == k') = some (k', v') := by
      cases hf : L.find? (fun p => p.1 == k') with
      | none =>
        rw [List.find?_eq_none] at hf
        exact absurd (by simp) (hf _ (List.mem_of_getElem? h4))
      | some p =>
        have hp := List.find?_some hf
        obtain ⟨i, hi, hip⟩ := List.getElem_of_mem (List.mem_of_find?_eq_some hf)
        exact congrArg some (hdis i j' p (k', v') (by rw [List.getElem?_eq_getElem hi, hip]) h4 (by simpa using hp))
    rw [hsome] at hr
    subst hr
    simp [Instr.lookup, run_underlying ht, MapKept.run_getObj_map hb, hck, hfk, Result.andThen]
end
section
variable {P : Program} (w : World) {ops : Array Oper} {rest : List Oper} {o : Oper} {a : Act} {Q : Exit → Act → World → Prop}
theorem wpl_putB (hg : o.guard = none) (m x v : Operand) (t : TypeId) (hop : o.op = Op.mapUpdate t m x v) (kt et : TypeId) (q : IntKind) (ht : P.underlying t = some (.map kt et)) (hd : P.underlying kt = some (.int q)) (b : Nat) (L : List (Int × Value))
    (hm : a.eval m = .map (some b)) (hb : MapB w q b L) (k : Int) (val : Value) (hx : a.eval x = .int q k) (hv : a.eval v = val) (hnew : ∀ p ∈ L, p.1 ≠ k)
    (hK : ∀ w', MapB w' q b (L ++ [(k, val)]) → w.grownBy w' (some b) → wpList P ops Q rest (a.put o.dst undef) w') :
    wpList P ops Q (o :: rest) a w := by
  refine wpList_plain hg fun K' hK' => ?_
  obtain ⟨w', hrun, r1, r2⟩ := run_putB ht hd hb k val hnew
  unfold Oper.wp
  simp [execOp, hop, hm, hx, hv, hrun, Result.andThen]
  exact hK' _ _ (hK w' r1 r2)
theorem wpl_lookB (hg : o.guard = none) (m x : Operand) (t : TypeId) (hop : o.op = Op.lookup t m x true) (kt et : TypeId) (q : IntKind) (ht : P.underlying t = some (.map kt et)) (hd : P.underlying kt = some (.int q)) (b : Nat) (L : List (Int × Value))
    (hm : a.eval m = .map (some b)) (hb : MapB w q b L) (hne : L ≠ []) (k : Int) (z : Value) (hx : a.eval x = .int q k) (hz : ∀ w, (zeroValue et).run P w = .ok z w)
    (hdis : ∀ (i j : Nat) (p p' : Int × Value), L[i]? = some p → L[j]? = some p' → p.1 = p'.1 → p = p') (r : Option Value) (hr : (L.find? (fun p => p.1 == k)).map (·.2) = r)
    (hK : wpList P ops Q rest (a.put o.dst (.tuple #[r.getD z, .bool r.isSome])) w) :
    wpList P ops Q (o :: rest) a w := by
  refine wpList_plain hg fun K' hK' => ?_
  have hrun := run_lookB (P := P) ht hd hb hne k z (hz w) hdis r hr
  unfold Oper.wp
  simp [execOp, hop, hm, hx, hrun, Result.andThen]
  exact hK' _ _ hK
/-- 'for k, v := range m' under way: the numbers of the entries that were seen. -/
def RangeB (w : World) (q : IntKind) (b r : Nat) (L : List (Int × Value)) (seen : Array Nat) : Prop := MapB w q b L ∧ w.heap[r]? = some (.mapIter (some b) L.length seen L.length) ∧ r ≠ b
theorem wpl_rangeB (hg : o.guard = none) (m : Operand) (t : TypeId) (hop : o.op = Op.range t m) (kt et : TypeId) (q : IntKind) (ht : P.underlying t = some (.map kt et)) (b : Nat) (L : List (Int × Value))
    (hm : a.eval m = .map (some b)) (hb : MapB w q b L)
    (hK : ∀ w', RangeB w' q b w.heap.size L #[] → Below w.heap.size w w' → wpList P ops Q rest (a.put o.dst (.pointer (some ⟨w.heap.size, 0, none⟩))) w') :
    wpList P ops Q (o :: rest) a w := by
  refine wpList_plain hg fun K' hK' => ?_
  have hrun := run_range_map (P := P) w t kt et b _ _ ht hb
  unfold Oper.wp
  simp [execOp, hop, hm, hrun, Result.andThen]
  exact hK' _ _ (hK _ ⟨(heap_alloc_old w _ hb.lt).trans hb, heap_alloc_new w _, fun e => by have := hb.lt; omega⟩ ((Below.refl _ _).alloc (Nat.le_refl _) _))
theorem wpl_nextB (hg : o.guard = none) (it : Operand) (hop : o.op = Op.next it false) (q : IntKind) (b r : Nat) (L : List (Int × Value)) (seen : Array Nat)
    (hit : a.eval it = .pointer (some ⟨r, 0, none⟩)) (h : RangeB w q b r L seen)
    (hDone : (∀ j p, L[j]? = some p → seen.contains j = true) → wpList P ops Q rest (a.put o.dst (.tuple #[.bool false])) w)
    (hMore : ∀ (j : Nat) (k : Int) (v : Value) (w' : World), L[j]? = some (k, v) → RangeB w' q b r L (seen.push j) → w'.rangeLeft b r < w.rangeLeft b r → w.grownBy w' (some r) → w'.heap.size = w.heap.size →
      (Instr.entry (.pointer (some ⟨r, 0, none⟩))).run P w' = .ok (.tuple #[.int q k, v]) w' → wpList P ops Q rest (a.put o.dst (.tuple #[.bool true, .int q k, v])) w') :
    wpList P ops Q (o :: rest) a w := by
  refine wpList_plain hg fun K' hK' => ?_
  obtain ⟨hb, hr, hne⟩ := h
  have hold : ∀ x ∈ (esB q 0 L).toArray.toList, x.born < L.length := by
    intro x hx
    obtain ⟨j, k, v, hj, rfl⟩ := esB_mem q 0 L x hx
    have := (List.getElem?_eq_some_iff.1 hj).1
    simpa using this
  have hleft : w.rangeLeft b r = (leftOf (esB q 0 L).toArray seen).size := by
    unfold World.rangeLeft
    rw [hb, hr]
  unfold Oper.wp
  rcases run_next_at (P := P) w o.type r b L.length L.length seen _ _ hr hb hold (Nat.le_refl _) with ⟨h0, hrun⟩ | ⟨e, he, w1, hal, hrun⟩
  · simp [execOp, hop, hit, hrun, Result.andThen]
    refine hK' _ _ (hDone fun j p hj => ?_)
    have h2 := all_seen _ _ h0 ⟨.int q p.1, p.2, j⟩ (by
      have := esB_get q 0 L j p.1 p.2 hj
      rw [Nat.zero_add] at this
      exact List.mem_of_getElem? this)
    exact h2
  · obtain ⟨hem, hes⟩ := mem_left he
    have hem' : e ∈ esB q 0 L := by simpa using hem
    obtain ⟨j, k, v, hj, rfl⟩ := esB_mem q 0 L e hem'
    rw [Nat.zero_add] at he hem hem' hrun hes
    have hr1 : w1.heap[r]? = some (.mapIter (some b) L.length seen L.length) := by rcases hal with rfl | rfl <;> exact hr
    have hb1 : w1.heap[b]? = some (.map (esB q 0 L).toArray L.length) := by rcases hal with rfl | rfl <;> exact hb
    have hset := MapKept.heap_set (o' := .mapIter (some b) L.length (seen.push j) L.length) hr1
    have hb' : (setBlock w1 r (.mapIter (some b) L.length (seen.push j) L.length)).heap[b]? = some (.map (esB q 0 L).toArray L.length) := (hset.2 b (fun e1 => hne e1.symm)).trans hb1
    have hleft' : (setBlock w1 r (.mapIter (some b) L.length (seen.push j) L.length)).rangeLeft b r = (leftOf (esB q 0 L).toArray (seen.push j)).size := by
      unfold World.rangeLeft
      rw [hb', show (setBlock w1 r (.mapIter (some b) L.length (seen.push j) L.length)).heap[r]? = _ from hset.1]
    simp [execOp, hop, hit, hrun, Result.andThen]
    refine hK' _ _ (hMore j k v _ hj ⟨hb', hset.1, hne⟩ ?_ ?_ ?_ ?_)
    · rw [hleft, hleft']
      exact left_shrinks _ seen _ he
    · rcases hal with rfl | rfl <;> exact ⟨rfl, rfl, rfl, by simp [setBlock], fun i _ hi => hset.2 i (fun e1 => hi (by rw [e1]))⟩
    · rcases hal with rfl | rfl <;> simp [setBlock]
    · exact run_entry_at _ r b L.length seen _ _ ⟨.int q k, v, j⟩ hset.1 hb' hem (by simpa using esB_nodup q 0 L)
end
theorem RangeB.step {w w' : World} {q : IntKind} {b r : Nat} {L : List (Int × Value)} {seen : Array Nat} (h : RangeB w q b r L seen) (hb : Below w.heap.size w w') : RangeB w' q b r L seen :=
  ⟨h.1.step hb, (hb.block r (Array.getElem?_eq_some_iff.1 h.2.1).1).trans h.2.1, h.2.2⟩
end Go.Proofs.Ytnghmgbmflcngaa

/- Merged texts: Mapb, Rws, Cod, Rco. Conditions: typed in each theorem. -/
import Derived.Test.YtnghmgbmflcngaaZbas
import Derived.Maps.Range
import Derived.Maps.RangeWalk
namespace Go.Proofs.Ytnghmgbmflcngaa
set_option linter.unusedVariables false
section
open Go.RowKit
open Go.MapKept (IsKey findNow_spec)
open Go.ChangeMaps (setBlock)
def esB (q : IntKind) : Nat → List (Int × Value) → List MapEntry
  | _, [] => []
  | b, (k, v) :: l => ⟨.int q k, v, b⟩ :: esB q (b + 1) l
theorem esB_snoc (q : IntKind) (k : Int) (v : Value) : ∀ (b : Nat) (L : List (Int × Value)), esB q b (L ++ [(k, v)]) = esB q b L ++ [⟨.int q k, v, b + L.length⟩]
  | b, [] => rfl
  | b, (k', v') :: l => by
    simp only [List.cons_append, esB, esB_snoc q k v (b + 1) l, List.length_cons]
    rw [show b + 1 + l.length = b + (l.length + 1) from by omega]
theorem esB_mem (q : IntKind) : ∀ (b : Nat) (L : List (Int × Value)) (e : MapEntry), e ∈ esB q b L → ∃ j k v, L[j]? = some (k, v) ∧ e = ⟨.int q k, v, b + j⟩
  | _, [], e, h => by cases h
  | b, (k, v) :: l, e, h => by
    rcases List.mem_cons.1 h with rfl | h
    · exact ⟨0, k, v, rfl, rfl⟩
    · obtain ⟨j, k', v', h1, rfl⟩ := esB_mem q (b + 1) l e h
      exact ⟨j + 1, k', v', h1, by rw [show b + 1 + j = b + (j + 1) from by omega]⟩
theorem esB_get (q : IntKind) : ∀ (b : Nat) (L : List (Int × Value)) (j : Nat) (k : Int) (v : Value), L[j]? = some (k, v) → (esB q b L)[j]? = some ⟨.int q k, v, b + j⟩
  | _, [], j, k, v, h => by simp at h
  | b, (k0, v0) :: l, 0, k, v, h => by
    simp at h
    obtain ⟨rfl, rfl⟩ := h
    rfl
  | b, (k0, v0) :: l, j + 1, k, v, h => by
    have := esB_get q (b + 1) l j k v (by simpa using h)
    rw [show b + 1 + j = b + (j + 1) from by omega] at this
    simpa [esB] using this
theorem esB_key (q : IntKind) (b : Nat) (L : List (Int × Value)) : ∀ x ∈ esB q b L, IsKey (.int q) x.key := by
  intro x hx
  obtain ⟨j, k, v, _, rfl⟩ := esB_mem q b L x hx
  simp [IsKey]
theorem esB_nodup (q : IntKind) : ∀ (b : Nat) (L : List (Int × Value)), ((esB q b L).map (·.born)).Nodup
  | _, [] => by simp [esB]
  | b, (k, v) :: l => by
    simp only [esB, List.map_cons, List.nodup_cons]
    refine ⟨fun h => ?_, esB_nodup q (b + 1) l⟩
    obtain ⟨x, hx, hb⟩ := List.mem_map.1 h
    obtain ⟨j, k', v', _, rfl⟩ := esB_mem q (b + 1) l x hx
    simp at hb
    omega
def MapB (w : World) (q : IntKind) (b : Nat) (L : List (Int × Value)) : Prop := w.heap[b]? = some (.map (esB q 0 L).toArray L.length)
theorem MapB.lt {w : World} {q : IntKind} {b : Nat} {L : List (Int × Value)} (h : MapB w q b L) : b < w.heap.size := (Array.getElem?_eq_some_iff.1 h).1
theorem MapB.step {w w' : World} {q : IntKind} {b : Nat} {L : List (Int × Value)} (h : MapB w q b L) (hb : Below w.heap.size w w') : MapB w' q b L := (hb.block b h.lt).trans h
theorem MapB.new (w : World) (q : IntKind) : MapB (w.alloc (.map #[] 0)) q w.heap.size [] := heap_alloc_new w _
theorem MapB.left {w w' : World} {q : IntKind} {b g : Nat} {L : List (Int × Value)} (h : MapB w q b L) (hg : w.grownBy w' (some g)) (hne : b ≠ g) : MapB w' q b L := (hg.block b h.lt (fun e => hne (by injection e))).trans h
section
variable {P : Program} {w : World} {q : IntKind} {b : Nat} {L : List (Int × Value)} {t kt et : TypeId}
theorem run_putB (ht : P.underlying t = some (.map kt et)) (hd : P.underlying kt = some (.int q)) (hb : MapB w q b L) (k : Int) (v : Value) (hnew : ∀ p ∈ L, p.1 ≠ k) :
    ∃ w', (Instr.mapUpdate t (.map (some b)) (.int q k) v).run P w = .ok () w' ∧ MapB w' q b (L ++ [(k, v)]) ∧ w.grownBy w' (some b) := by
  have hkey : IsKey (.int q) (.int q k) := by simp [IsKey]
  have hfn : Instr.findNow (.int q) (.int q k) (esB q 0 L) 0 = some none := by
    rcases findNow_spec hkey (esB q 0 L) 0 (esB_key q 0 L) with ⟨h1, _⟩ | ⟨j, e, h1, h2, h3⟩
    · exact h1
    · obtain ⟨j', k', v', h4, rfl⟩ := esB_mem q 0 L e (List.mem_of_getElem? h2)
      injection h3 with _ h3
      exact absurd h3 (hnew _ (List.mem_of_getElem? h4))
  have hck := MapKept.run_checkKey (w := w) hd hkey false 9999
  have hfk := MapKept.run_findKey (w := w) hd hfn
  refine ⟨{ w with heap := w.heap.setIfInBounds b (.map ((esB q 0 L).toArray.push ⟨.int q k, v, L.length⟩) (L.length + 1)) }, ?_, ?_, ?_⟩
  · simp [Instr.mapUpdate, run_underlying ht, MapKept.run_getObj_map hb, hck, hfk, MapKept.run_setObj_map _ hb, Result.andThen]
  · have h := (MapKept.heap_set (o' := .map ((esB q 0 L).toArray.push ⟨.int q k, v, L.length⟩) (L.length + 1)) hb).1
    unfold MapB
    rw [esB_snoc, Nat.zero_add]
    simpa using h
  · exact ⟨rfl, rfl, rfl, by simp, fun r _ hne => (MapKept.heap_set hb).2 r (fun e => hne (by rw [e]))⟩
theorem run_lookB (ht : P.underlying t = some (.map kt et)) (hd : P.underlying kt = some (.int q)) (hb : MapB w q b L) (hne : L ≠ []) (k : Int) (z : Value) (hz : (zeroValue et).run P w = .ok z w)
    (hdis : ∀ (i j : Nat) (p p' : Int × Value), L[i]? = some p → L[j]? = some p' → p.1 = p'.1 → p = p') (r : Option Value) (hr : (L.find? (fun p => p.1 == k)).map (·.2) = r) :
    (Instr.lookup t (.map (some b)) (.int q k) true).run P w = .ok (.tuple #[r.getD z, .bool r.isSome]) w := by
  have hkey : IsKey (.int q) (.int q k) := by simp [IsKey]
  have hck := fun e => MapKept.run_checkKey (w := w) hd hkey e 9999
  rcases findNow_spec hkey (esB q 0 L) 0 (esB_key q 0 L) with ⟨h1, h2⟩ | ⟨j, e, h1, h2, h3⟩
  · have hfk := MapKept.run_findKey (w := w) hd h1
    have hnone : L.find? (fun p => p.1 == k) = none := by
      rw [List.find?_eq_none]
      intro p hp hk
      obtain ⟨j, hj, hjp⟩ := List.getElem_of_mem hp
      have h4 := esB_get q 0 L j p.1 p.2 (by rw [List.getElem?_eq_getElem hj, hjp])
      refine h2 _ (List.mem_of_getElem? h4) ?_
      show Value.int q p.1 = .int q k
      rw [show p.1 = k from by simpa using hk]
    rw [hnone] at hr
    subst hr
    simp [Instr.lookup, run_underlying ht, MapKept.run_getObj_map hb, hck, hfk, hz, Result.andThen]
  · have hfk := MapKept.run_findKey (w := w) hd h1
    obtain ⟨j', k', v', h4, rfl⟩ := esB_mem q 0 L e (List.mem_of_getElem? h2)
    injection h3 with _ h3
    subst h3
    have hsome : L.find? (fun p => p.1 == k') = some (k', v') := by
      cases hf : L.find? (fun p => p.1 == k') with
      | none =>
        rw [List.find?_eq_none] at hf
        exact absurd (by simp) (hf _ (List.mem_of_getElem? h4))
      | some p =>
        have hp := List.find?_some hf
        obtain ⟨i, hi, hip⟩ := List.getElem_of_mem (List.mem_of_find?_eq_some hf)
        exact congrArg some (hdis i j' p (k', v') (by rw [List.getElem?_eq_getElem hi, hip]) h4 (by simpa using hp))
    rw [hsome] at hr
    subst hr
    simp [Instr.lookup, run_underlying ht, MapKept.run_getObj_map hb, hck, hfk, Result.andThen]
end
section
variable {P : Program} (w : World) {ops : Array Oper} {rest : List Oper} {o : Oper} {a : Act} {Q : Exit → Act → World → Prop}
theorem wpl_lookB (hg : o.guard = none) (m x : Operand) (t : TypeId) (hop : o.op = Op.lookup t m x true) (kt et : TypeId) (q : IntKind) (ht : P.underlying t = some (.map kt et)) (hd : P.underlying kt = some (.int q)) (b : Nat) (L : List (Int × Value))
    (hm : a.eval m = .map (some b)) (hb : MapB w q b L) (hne : L ≠ []) (k : Int) (z : Value) (hx : a.eval x = .int q k) (hz : ∀ w, (zeroValue et).run P w = .ok z w)
    (hdis : ∀ (i j : Nat) (p p' : Int × Value), L[i]? = some p → L[j]? = some p' → p.1 = p'.1 → p = p') (r : Option Value) (hr : (L.find? (fun p => p.1 == k)).map (·.2) = r)
    (hK : wpList P ops Q rest (a.put o.dst (.tuple #[r.getD z, .bool r.isSome])) w) :
    wpList P ops Q (o :: rest) a w := by
  refine wpList_plain hg fun K' hK' => ?_
  have hrun := run_lookB (P := P) ht hd hb hne k z (hz w) hdis r hr
  unfold Oper.wp
  simp [execOp, hop, hm, hx, hrun, Result.andThen]
  exact hK' _ _ hK
def RangeB (w : World) (q : IntKind) (b r : Nat) (L : List (Int × Value)) (seen : Array Nat) : Prop := MapB w q b L ∧ w.heap[r]? = some (.mapIter (some b) L.length seen L.length) ∧ r ≠ b
theorem wpl_rangeB (hg : o.guard = none) (m : Operand) (t : TypeId) (hop : o.op = Op.range t m) (kt et : TypeId) (q : IntKind) (ht : P.underlying t = some (.map kt et)) (b : Nat) (L : List (Int × Value))
    (hm : a.eval m = .map (some b)) (hb : MapB w q b L)
    (hK : ∀ w', RangeB w' q b w.heap.size L #[] → Below w.heap.size w w' → wpList P ops Q rest (a.put o.dst (.pointer (some ⟨w.heap.size, 0, none⟩))) w') :
    wpList P ops Q (o :: rest) a w := by
  refine wpList_plain hg fun K' hK' => ?_
  have hrun := run_range_map (P := P) w t kt et b _ _ ht hb
  unfold Oper.wp
  simp [execOp, hop, hm, hrun, Result.andThen]
  exact hK' _ _ (hK _ ⟨(heap_alloc_old w _ hb.lt).trans hb, heap_alloc_new w _, fun e => by have := hb.lt; omega⟩ ((Below.refl _ _).alloc (Nat.le_refl _) _))
theorem wpl_nextB (hg : o.guard = none) (it : Operand) (hop : o.op = Op.next it false) (q : IntKind) (b r : Nat) (L : List (Int × Value)) (seen : Array Nat)
    (hit : a.eval it = .pointer (some ⟨r, 0, none⟩)) (h : RangeB w q b r L seen)
    (hDone : (∀ j p, L[j]? = some p → seen.contains j = true) → wpList P ops Q rest (a.put o.dst (.tuple #[.bool false])) w)
    (hMore : ∀ (j : Nat) (k : Int) (v : Value) (w' : World), L[j]? = some (k, v) → RangeB w' q b r L (seen.push j) → w'.rangeLeft b r < w.rangeLeft b r → w.grownBy w' (some r) → w'.heap.size = w.heap.size →
      (Instr.entry (.pointer (some ⟨r, 0, none⟩))).run P w' = .ok (.tuple #[.int q k, v]) w' → wpList P ops Q rest (a.put o.dst (.tuple #[.bool true, .int q k, v])) w') :
    wpList P ops Q (o :: rest) a w := by
  refine wpList_plain hg fun K' hK' => ?_
  obtain ⟨hb, hr, hne⟩ := h
  have hold : ∀ x ∈ (esB q 0 L).toArray.toList, x.born < L.length := by
    intro x hx
    obtain ⟨j, k, v, hj, rfl⟩ := esB_mem q 0 L x hx
    have := (List.getElem?_eq_some_iff.1 hj).1
    simpa using this
  have hleft : w.rangeLeft b r = (leftOf (esB q 0 L).toArray seen).size := by
    unfold World.rangeLeft
    rw [hb, hr]
  unfold Oper.wp
  rcases run_next_at (P := P) w o.type r b L.length L.length seen _ _ hr hb hold (Nat.le_refl _) with ⟨h0, hrun⟩ | ⟨e, he, w1, hal, hrun⟩
  · simp [execOp, hop, hit, hrun, Result.andThen]
    refine hK' _ _ (hDone fun j p hj => ?_)
    have h2 := all_seen _ _ h0 ⟨.int q p.1, p.2, j⟩ (by
      have := esB_get q 0 L j p.1 p.2 hj
      rw [Nat.zero_add] at this
      exact List.mem_of_getElem? this)
    exact h2
  · obtain ⟨hem, hes⟩ := mem_left he
    have hem' : e ∈ esB q 0 L := by simpa using hem
    obtain ⟨j, k, v, hj, rfl⟩ := esB_mem q 0 L e hem'
    rw [Nat.zero_add] at he hem hem' hrun hes
    have hr1 : w1.heap[r]? = some (.mapIter (some b) L.length seen L.length) := by rcases hal with rfl | rfl <;> exact hr
    have hb1 : w1.heap[b]? = some (.map (esB q 0 L).toArray L.length) := by rcases hal with rfl | rfl <;> exact hb
    have hset := MapKept.heap_set (o' := .mapIter (some b) L.length (seen.push j) L.length) hr1
    have hb' : (setBlock w1 r (.mapIter (some b) L.length (seen.push j) L.length)).heap[b]? = some (.map (esB q 0 L).toArray L.length) := (hset.2 b (fun e1 => hne e1.symm)).trans hb1
    have hleft' : (setBlock w1 r (.mapIter (some b) L.length (seen.push j) L.length)).rangeLeft b r = (leftOf (esB q 0 L).toArray (seen.push j)).size := by
      unfold World.rangeLeft
      rw [hb', show (setBlock w1 r (.mapIter (some b) L.length (seen.push j) L.length)).heap[r]? = _ from hset.1]
    simp [execOp, hop, hit, hrun, Result.andThen]
    refine hK' _ _ (hMore j k v _ hj ⟨hb', hset.1, hne⟩ ?_ ?_ ?_ ?_)
    · rw [hleft, hleft']
      exact left_shrinks _ seen _ he
    · rcases hal with rfl | rfl <;> exact ⟨rfl, rfl, rfl, by simp [setBlock], fun i _ hi => hset.2 i (fun e1 => hi (by rw [e1]))⟩
    · rcases hal with rfl | rfl <;> simp [setBlock]
    · exact run_entry_at _ r b L.length seen _ _ ⟨.int q k, v, j⟩ hset.1 hb' hem (by simpa using esB_nodup q 0 L)
end
theorem RangeB.step {w w' : World} {q : IntKind} {b r : Nat} {L : List (Int × Value)} {seen : Array Nat} (h : RangeB w q b r L seen) (hb : Below w.heap.size w w') : RangeB w' q b r L seen :=
  ⟨h.1.step hb, (hb.block r (Array.getElem?_eq_some_iff.1 h.2.1).1).trans h.2.1, h.2.2⟩
end
section
open Go.RowKit
def codeT : List (Nat × Nat × Bool × Bool) := [(0, 0, false, false), (9, 0, true, false), (12, 0, false, true), (13, 0, true, true), (1, 1, false, false), (17, 1, true, false), (2, 2, false, false), (18, 2, true, false), (3, 3, false, false), (19, 3, true, false), (4, 4, false, false), (20, 4, true, false), (5, 5, false, false), (21, 5, true, false), (6, 6, false, false), (22, 6, true, false), (7, 7, false, false), (23, 7, true, false), (8, 8, false, false), (24, 8, true, false), (10, 10, false, false), (11, 11, false, false), (14, 14, false, false), (25, 14, true, false), (15, 15, false, false), (26, 15, true, false), (16, 16, false, false), (28, 28, false, false), (29, 29, false, false), (30, 29, true, false), (64, 64, false, false)]
def rowV (o : Int) (q f : Bool) : Value := .agg #[.int .i64 o, .bool q, .bool f]
def rowP (r : Nat × Nat × Bool × Bool) : Int × Value := ((r.1 : Int), rowV (r.2.1 : Int) r.2.2.1 r.2.2.2)
def rowsT : List (Int × Value) := codeT.map rowP
theorem rowsT_len : rowsT.length = 31 := by rfl
theorem rowsT_get {j : Nat} {k : Int} {v : Value} (h : rowsT[j]? = some (k, v)) : ∃ (c o : Nat) (q f : Bool), codeT[j]? = some (c, o, q, f) ∧ k = (c : Int) ∧ v = rowV (o : Int) q f := by
  unfold rowsT at h
  rw [List.getElem?_map] at h
  obtain ⟨⟨c, o, q, f⟩, h1, h2⟩ := Option.map_eq_some_iff.1 h
  unfold rowP at h2
  injection h2 with h2 h3
  exact ⟨c, o, q, f, h1, h2.symm, h3.symm⟩
theorem wpl_insB {P : Program} (w : World) {ops : Array Oper} {rest : List Oper} {ty : TypeId} {pos : String} {aft : Array Edge} {a : Act} {Q : Exit → Act → World → Prop} {m x v : Operand} {t : TypeId} (kt et : TypeId) (q : IntKind) (ht : P.underlying t = some (.map kt et)) (hd : P.underlying kt = some (.int q)) (b : Nat) (L : List (Int × Value))
    (hm : a.eval m = .map (some b)) (hb : MapB w q b L) (k : Int) (val : Value) (hx : a.eval x = .int q k) (hv : a.eval v = val) (hnew : (L.map Prod.fst).contains k = false)
    (hK : ∀ w', MapB w' q b (L ++ [(k, val)]) → w.grownBy w' (some b) → wpList P ops Q rest (a.put none undef) w') :
    wpList P ops Q (⟨none, Op.insert t m x v, ty, pos, aft, none⟩ :: rest) a w := by
  refine wpList_plain rfl fun K' hK' => ?_
  obtain ⟨w', hrun, r1, r2⟩ := run_putB ht hd hb k val (fun p hp e => by
    have : (L.map Prod.fst).contains k = true := by
      rw [List.contains_iff_mem]
      exact List.mem_map.2 ⟨p, hp, e⟩
    rw [hnew] at this
    cases this)
  unfold Oper.wp
  simp [execOp, hm, hx, hv, hrun, Result.andThen]
  exact hK' _ _ (hK w' r1 r2)
def RowsQ (w : World) (e : Ending) (w' : World) : Prop := ∃ b, e = .returned (.map (some b)) ∧ MapB w' .i64 b rowsT ∧ w.heap.size ≤ b ∧ Below w.heap.size w w'
set_option maxRecDepth 100000 in
set_option maxHeartbeats 4000000 in
theorem rows_any (w : World) : Calls Try.prog 91 #[] w (RowsQ w) := by
  have h0 := MapB.new w .i64
  have b0 := below_a1' (Below.refl w.heap.size w) (.map #[] 0)
  have g0 := World.grownBy.refl (w.alloc (.map #[] 0)) (some w.heap.size)
  have hmm := @run_makeMap Try.prog
  go_enter Try.func91, Try.ntmps91
  simp only [List.append_eq, List.cons_append, List.nil_append]
  go_wp2_with (refine wpl_insB _ 3 140 .i64 Try.underlying137 Try.underlying3 w.heap.size _ rfl h0 0 (.agg #[.int .i64 0, .bool false, .bool false]) (by rfl) (by rfl) (by rfl) ?_)
  intro w1 h1 e1
  have g1 := grown_trans g0 e1
  clear h0 e1 g0
  go_wp2_with (refine wpl_insB _ 3 140 .i64 Try.underlying137 Try.underlying3 w.heap.size _ rfl h1 9 (.agg #[.int .i64 0, .bool true, .bool false]) (by rfl) (by rfl) (by rfl) ?_)
  intro w2 h2 e2
  have g2 := grown_trans g1 e2
  clear h1 e2 g1
  go_wp2_with (refine wpl_insB _ 3 140 .i64 Try.underlying137 Try.underlying3 w.heap.size _ rfl h2 12 (.agg #[.int .i64 0, .bool false, .bool true]) (by rfl) (by rfl) (by rfl) ?_)
  intro w3 h3 e3
  have g3 := grown_trans g2 e3
  clear h2 e3 g2
  go_wp2_with (refine wpl_insB _ 3 140 .i64 Try.underlying137 Try.underlying3 w.heap.size _ rfl h3 13 (.agg #[.int .i64 0, .bool true, .bool true]) (by rfl) (by rfl) (by rfl) ?_)
  intro w4 h4 e4
  have g4 := grown_trans g3 e4
  clear h3 e4 g3
  go_wp2_with (refine wpl_insB _ 3 140 .i64 Try.underlying137 Try.underlying3 w.heap.size _ rfl h4 1 (.agg #[.int .i64 1, .bool false, .bool false]) (by rfl) (by rfl) (by rfl) ?_)
  intro w5 h5 e5
  have g5 := grown_trans g4 e5
  clear h4 e5 g4
  go_wp2_with (refine wpl_insB _ 3 140 .i64 Try.underlying137 Try.underlying3 w.heap.size _ rfl h5 17 (.agg #[.int .i64 1, .bool true, .bool false]) (by rfl) (by rfl) (by rfl) ?_)
  intro w6 h6 e6
  have g6 := grown_trans g5 e6
  clear h5 e6 g5
  go_wp2_with (refine wpl_insB _ 3 140 .i64 Try.underlying137 Try.underlying3 w.heap.size _ rfl h6 2 (.agg #[.int .i64 2, .bool false, .bool false]) (by rfl) (by rfl) (by rfl) ?_)
  intro w7 h7 e7
  have g7 := grown_trans g6 e7
  clear h6 e7 g6
  go_wp2_with (refine wpl_insB _ 3 140 .i64 Try.underlying137 Try.underlying3 w.heap.size _ rfl h7 18 (.agg #[.int .i64 2, .bool true, .bool false]) (by rfl) (by rfl) (by rfl) ?_)
  intro w8 h8 e8
  have g8 := grown_trans g7 e8
  clear h7 e8 g7
  go_wp2_with (refine wpl_insB _ 3 140 .i64 Try.underlying137 Try.underlying3 w.heap.size _ rfl h8 3 (.agg #[.int .i64 3, .bool false, .bool false]) (by rfl) (by rfl) (by rfl) ?_)
  intro w9 h9 e9
  have g9 := grown_trans g8 e9
  clear h8 e9 g8
  go_wp2_with (refine wpl_insB _ 3 140 .i64 Try.underlying137 Try.underlying3 w.heap.size _ rfl h9 19 (.agg #[.int .i64 3, .bool true, .bool false]) (by rfl) (by rfl) (by rfl) ?_)
  intro w10 h10 e10
  have g10 := grown_trans g9 e10
  clear h9 e10 g9
  go_wp2_with (refine wpl_insB _ 3 140 .i64 Try.underlying137 Try.underlying3 w.heap.size _ rfl h10 4 (.agg #[.int .i64 4, .bool false, .bool false]) (by rfl) (by rfl) (by rfl) ?_)
  intro w11 h11 e11
  have g11 := grown_trans g10 e11
  clear h10 e11 g10
  go_wp2_with (refine wpl_insB _ 3 140 .i64 Try.underlying137 Try.underlying3 w.heap.size _ rfl h11 20 (.agg #[.int .i64 4, .bool true, .bool false]) (by rfl) (by rfl) (by rfl) ?_)
  intro w12 h12 e12
  have g12 := grown_trans g11 e12
  clear h11 e12 g11
  go_wp2_with (refine wpl_insB _ 3 140 .i64 Try.underlying137 Try.underlying3 w.heap.size _ rfl h12 5 (.agg #[.int .i64 5, .bool false, .bool false]) (by rfl) (by rfl) (by rfl) ?_)
  intro w13 h13 e13
  have g13 := grown_trans g12 e13
  clear h12 e13 g12
  go_wp2_with (refine wpl_insB _ 3 140 .i64 Try.underlying137 Try.underlying3 w.heap.size _ rfl h13 21 (.agg #[.int .i64 5, .bool true, .bool false]) (by rfl) (by rfl) (by rfl) ?_)
  intro w14 h14 e14
  have g14 := grown_trans g13 e14
  clear h13 e14 g13
  go_wp2_with (refine wpl_insB _ 3 140 .i64 Try.underlying137 Try.underlying3 w.heap.size _ rfl h14 6 (.agg #[.int .i64 6, .bool false, .bool false]) (by rfl) (by rfl) (by rfl) ?_)
  intro w15 h15 e15
  have g15 := grown_trans g14 e15
  clear h14 e15 g14
  go_wp2_with (refine wpl_insB _ 3 140 .i64 Try.underlying137 Try.underlying3 w.heap.size _ rfl h15 22 (.agg #[.int .i64 6, .bool true, .bool false]) (by rfl) (by rfl) (by rfl) ?_)
  intro w16 h16 e16
  have g16 := grown_trans g15 e16
  clear h15 e16 g15
  go_wp2_with (refine wpl_insB _ 3 140 .i64 Try.underlying137 Try.underlying3 w.heap.size _ rfl h16 7 (.agg #[.int .i64 7, .bool false, .bool false]) (by rfl) (by rfl) (by rfl) ?_)
  intro w17 h17 e17
  have g17 := grown_trans g16 e17
  clear h16 e17 g16
  go_wp2_with (refine wpl_insB _ 3 140 .i64 Try.underlying137 Try.underlying3 w.heap.size _ rfl h17 23 (.agg #[.int .i64 7, .bool true, .bool false]) (by rfl) (by rfl) (by rfl) ?_)
  intro w18 h18 e18
  have g18 := grown_trans g17 e18
  clear h17 e18 g17
  go_wp2_with (refine wpl_insB _ 3 140 .i64 Try.underlying137 Try.underlying3 w.heap.size _ rfl h18 8 (.agg #[.int .i64 8, .bool false, .bool false]) (by rfl) (by rfl) (by rfl) ?_)
  intro w19 h19 e19
  have g19 := grown_trans g18 e19
  clear h18 e19 g18
  go_wp2_with (refine wpl_insB _ 3 140 .i64 Try.underlying137 Try.underlying3 w.heap.size _ rfl h19 24 (.agg #[.int .i64 8, .bool true, .bool false]) (by rfl) (by rfl) (by rfl) ?_)
  intro w20 h20 e20
  have g20 := grown_trans g19 e20
  clear h19 e20 g19
  go_wp2_with (refine wpl_insB _ 3 140 .i64 Try.underlying137 Try.underlying3 w.heap.size _ rfl h20 10 (.agg #[.int .i64 10, .bool false, .bool false]) (by rfl) (by rfl) (by rfl) ?_)
  intro w21 h21 e21
  have g21 := grown_trans g20 e21
  clear h20 e21 g20
  go_wp2_with (refine wpl_insB _ 3 140 .i64 Try.underlying137 Try.underlying3 w.heap.size _ rfl h21 11 (.agg #[.int .i64 11, .bool false, .bool false]) (by rfl) (by rfl) (by rfl) ?_)
  intro w22 h22 e22
  have g22 := grown_trans g21 e22
  clear h21 e22 g21
  go_wp2_with (refine wpl_insB _ 3 140 .i64 Try.underlying137 Try.underlying3 w.heap.size _ rfl h22 14 (.agg #[.int .i64 14, .bool false, .bool false]) (by rfl) (by rfl) (by rfl) ?_)
  intro w23 h23 e23
  have g23 := grown_trans g22 e23
  clear h22 e23 g22
  go_wp2_with (refine wpl_insB _ 3 140 .i64 Try.underlying137 Try.underlying3 w.heap.size _ rfl h23 25 (.agg #[.int .i64 14, .bool true, .bool false]) (by rfl) (by rfl) (by rfl) ?_)
  intro w24 h24 e24
  have g24 := grown_trans g23 e24
  clear h23 e24 g23
  go_wp2_with (refine wpl_insB _ 3 140 .i64 Try.underlying137 Try.underlying3 w.heap.size _ rfl h24 15 (.agg #[.int .i64 15, .bool false, .bool false]) (by rfl) (by rfl) (by rfl) ?_)
  intro w25 h25 e25
  have g25 := grown_trans g24 e25
  clear h24 e25 g24
  go_wp2_with (refine wpl_insB _ 3 140 .i64 Try.underlying137 Try.underlying3 w.heap.size _ rfl h25 26 (.agg #[.int .i64 15, .bool true, .bool false]) (by rfl) (by rfl) (by rfl) ?_)
  intro w26 h26 e26
  have g26 := grown_trans g25 e26
  clear h25 e26 g25
  go_wp2_with (refine wpl_insB _ 3 140 .i64 Try.underlying137 Try.underlying3 w.heap.size _ rfl h26 16 (.agg #[.int .i64 16, .bool false, .bool false]) (by rfl) (by rfl) (by rfl) ?_)
  intro w27 h27 e27
  have g27 := grown_trans g26 e27
  clear h26 e27 g26
  go_wp2_with (refine wpl_insB _ 3 140 .i64 Try.underlying137 Try.underlying3 w.heap.size _ rfl h27 28 (.agg #[.int .i64 28, .bool false, .bool false]) (by rfl) (by rfl) (by rfl) ?_)
  intro w28 h28 e28
  have g28 := grown_trans g27 e28
  clear h27 e28 g27
  go_wp2_with (refine wpl_insB _ 3 140 .i64 Try.underlying137 Try.underlying3 w.heap.size _ rfl h28 29 (.agg #[.int .i64 29, .bool false, .bool false]) (by rfl) (by rfl) (by rfl) ?_)
  intro w29 h29 e29
  have g29 := grown_trans g28 e29
  clear h28 e29 g28
  go_wp2_with (refine wpl_insB _ 3 140 .i64 Try.underlying137 Try.underlying3 w.heap.size _ rfl h29 30 (.agg #[.int .i64 29, .bool true, .bool false]) (by rfl) (by rfl) (by rfl) ?_)
  intro w30 h30 e30
  have g30 := grown_trans g29 e30
  clear h29 e30 g29
  go_wp2_with (refine wpl_insB _ 3 140 .i64 Try.underlying137 Try.underlying3 w.heap.size _ rfl h30 64 (.agg #[.int .i64 64, .bool false, .bool false]) (by rfl) (by rfl) (by rfl) ?_)
  intro w31 h31 e31
  have g31 := grown_trans g30 e31
  clear h30 e31 g30
  have bb := b0.trans (below_grown g31 (Nat.le_refl _) (by simp))
  go_wp2_with fail
  go_ret
  exact ⟨w.heap.size, rfl, h31, Nat.le_refl _, bb⟩
end
section
open Go.RowKit
def reqV (op : Int) (qt fu : Bool) (bad : Int) (oq : Nat) (K V : Value) (fl ex cas dl ini : Nat) : Value :=
  .agg #[.int .i64 op, .bool qt, .bool fu, .int .i64 bad, .int .u32 (oq : Nat), K, V, .int .u32 (fl : Nat), .int .u32 (ex : Nat), .int .u64 (cas : Nat), .int .u64 (dl : Nat), .int .u64 (ini : Nat)]
def isRow (op : Int) (qt fu : Bool) (r : Nat × Nat × Bool × Bool) : Bool := decide (((r.2.1 : Nat) : Int) = op) && decide (r.2.2.1 = qt) && decide (r.2.2.2 = fu)
def codeOf (op : Int) (qt fu : Bool) : Option Nat := (codeT.find? (isRow op qt fu)).map (·.1)
theorem isRow_iff {op : Int} {qt fu : Bool} {r : Nat × Nat × Bool × Bool} : isRow op qt fu r = true ↔ ((r.2.1 : Nat) : Int) = op ∧ r.2.2.1 = qt ∧ r.2.2.2 = fu := by
  simp [isRow, and_assoc]
theorem codeT_one : ∀ r ∈ codeT, ∀ r' ∈ codeT, r.2 = r'.2 → r = r' := by decide +kernel
theorem codeT_codes : ∀ r ∈ codeT, ∀ r' ∈ codeT, r.1 = r'.1 → r = r' := by decide +kernel
theorem codeOf_at {op : Int} {qt fu : Bool} {j c o : Nat} {q f : Bool} (h : codeT[j]? = some (c, o, q, f)) (h1 : ((o : Nat) : Int) = op) (h2 : q = qt) (h3 : f = fu) : codeOf op qt fu = some c := by
  unfold codeOf
  have hm := List.mem_of_getElem? h
  cases hf : codeT.find? (isRow op qt fu) with
  | none =>
    rw [List.find?_eq_none] at hf
    exact absurd (isRow_iff.2 ⟨h1, h2, h3⟩) (hf _ hm)
  | some r =>
    obtain ⟨g1, g2, g3⟩ := isRow_iff.1 (List.find?_some hf)
    have e := codeT_one r (List.mem_of_find?_eq_some hf) _ hm (by
      refine Prod.ext ?_ (Prod.ext ?_ ?_)
      · show r.2.1 = o
        omega
      · show r.2.2.1 = q
        rw [g2, h2]
      · show r.2.2.2 = f
        rw [g3, h3])
    rw [e]; rfl
theorem codeOf_none {op : Int} {qt fu : Bool} (h : ∀ (j c o : Nat) (q f : Bool), codeT[j]? = some (c, o, q, f) → ¬ (((o : Nat) : Int) = op ∧ q = qt ∧ f = fu)) : codeOf op qt fu = none := by
  unfold codeOf
  rw [List.find?_eq_none.2 fun r hr hi => ?_]
  · rfl
  · obtain ⟨j, hj, hjr⟩ := List.getElem_of_mem hr
    exact h j r.1 r.2.1 r.2.2.1 r.2.2.2 (by rw [List.getElem?_eq_getElem hj, hjr]) (isRow_iff.1 hi)
theorem wpl_nextR {P : Program} (w : World) {ops : Array Oper} {rest : List Oper} {o : Oper} {a : Act} {Q : Exit → Act → World → Prop} (hg : o.guard = none) (it : Operand) (hop : o.op = Op.next it false) (b r : Nat) (seen : Array Nat)
    (hit : a.eval it = .pointer (some ⟨r, 0, none⟩)) (h : RangeB w .i64 b r rowsT seen)
    (hDone : Hid ((∀ j p, rowsT[j]? = some p → seen.contains j = true) → wpList P ops Q rest (a.put o.dst (.tuple #[.bool false])) w))
    (hMore : Hid (∀ (j c o' : Nat) (q f : Bool) (w' : World), codeT[j]? = some (c, o', q, f) → RangeB w' .i64 b r rowsT (seen.push j) → w'.rangeLeft b r < w.rangeLeft b r → w.grownBy w' (some r) →
      (Instr.entry (.pointer (some ⟨r, 0, none⟩))).run P w' = .ok (.tuple #[.int .i64 (c : Int), .agg #[.int .i64 (o' : Int), .bool q, .bool f]]) w' → wpList P ops Q rest (a.put o.dst (.tuple #[.bool true, .int .i64 (c : Int), .agg #[.int .i64 (o' : Int), .bool q, .bool f]])) w')) :
    wpList P ops Q (o :: rest) a w := by
  refine wpl_nextB w hg it hop .i64 b r rowsT seen hit h hDone.out ?_
  intro j k v w' hj h1 h2 h3 _ h5
  obtain ⟨c, o', q, f, hc, rfl, rfl⟩ := rowsT_get hj
  exact hMore.out j c o' q f w' hc h1 h2 h3 h5
theorem RangeB.left_eq {w : World} {q : IntKind} {b r : Nat} {L : List (Int × Value)} {seen : Array Nat} (h : RangeB w q b r L seen) : w.rangeLeft b r = (leftOf (esB q 0 L).toArray seen).size := by
  unfold World.rangeLeft
  rw [h.1, h.2.1]
theorem Blk.leftC {w w' : World} {k g : Nat} {cs : Array Value} {T : TypeId} (h : Blk w k cs T) (hg : w.grownBy w' (some g)) (hne : k ≠ g) : Blk w' k cs T := (hg.block k h.lt (fun e => hne (by injection e))).trans h
def BoxQ' (v : Value) (w : World) (e : Ending) (w' : World) : Prop := e = .returned v ∧ Below w.heap.size w w'
def CodeR (op : Int) (qt fu : Bool) (cells : Array Value) (w : World) (g b r : Nat) (wr : World) : Prop :=
  ∃ seen : Array Nat, RangeB wr .i64 b r rowsT seen ∧ (∀ (j c o : Nat) (q f : Bool), seen.contains j = true → codeT[j]? = some (c, o, q, f) → ¬ (((o : Nat) : Int) = op ∧ q = qt ∧ f = fu)) ∧ Blk wr g cells 26 ∧ Below w.heap.size w wr
def CodeQ (r : Option Nat) (w : World) (e : Ending) (w' : World) : Prop := e = .returned (.tuple #[.int .i64 ((r.getD 0 : Nat) : Int), .bool r.isSome]) ∧ Below w.heap.size w w'
theorem contains_push' (seen : Array Nat) (b y : Nat) : (seen.push b).contains y = (seen.contains y || y == b) := Array.contains_push ..
set_option maxRecDepth 100000 in
set_option maxHeartbeats 1000000 in
theorem code_any (op : Int) (qt fu : Bool) (oq : Nat) (K V : Value) (fl ex cas dl ini : Nat) (w : World) :
    Calls Try.prog 43 #[reqV op qt fu 0 oq K V fl ex cas dl ini] w (CodeQ (codeOf op qt fu) w) := by
  unfold reqV
  have k0 := Blk.new w #[.int .i64 op, .bool qt, .bool fu, .int .i64 0, .int .u32 (oq : Nat), K, V, .int .u32 (fl : Nat), .int .u32 (ex : Nat), .int .u64 (cas : Nat), .int .u64 (dl : Nat), .int .u64 (ini : Nat)] 26
  have b0 := below_a1' (Below.refl w.heap.size w) (.cells #[.int .i64 op, .bool qt, .bool fu, .int .i64 0, .int .u32 (oq : Nat), K, V, .int .u32 (fl : Nat), .int .u32 (ex : Nat), .int .u64 (cas : Nat), .int .u64 (dl : Nat), .int .u64 (ini : Nat)] 26)
  go_enter Try.func43, Try.ntmps43
  go_wp2_with fail
  generalize w.alloc (.cells #[.int .i64 op, .bool qt, .bool fu, .int .i64 0, .int .u32 (oq : Nat), K, V, .int .u32 (fl : Nat), .int .u32 (ex : Nat), .int .u64 (cas : Nat), .int .u64 (dl : Nat), .int .u64 (ini : Nat)] 26) = W0 at k0 b0 ⊢
  have hltg := k0.lt
  refine (rows_any W0).mono ?_
  rintro e w1 ⟨b, rfl, hm, hge, b1⟩
  replace k0 := k0.step b1
  replace b0 := below_step b0 b1
  clear b1
  have hmlt := hm.lt
  go_wp2_with (at_range; refine wpl_rangeB _ rfl _ _ rfl 3 140 .i64 Try.underlying137 b rowsT rfl hm ?_)
  intro w2 hR b2
  have k2 := k0.step b2
  have bb2 := below_step b0 b2
  clear b2 k0 b0 hm
  go_wp2_with fail
  go_loopw [4] (fun _ wr => CodeR op qt fu #[.int .i64 op, .bool qt, .bool fu, .int .i64 0, .int .u32 (oq : Nat), K, V, .int .u32 (fl : Nat), .int .u32 (ex : Nat), .int .u64 (cas : Nat), .int .u64 (dl : Nat), .int .u64 (ini : Nat)] w w.heap.size b w1.heap.size wr) (fun _ wr => wr.rangeLeft b w1.heap.size)
  case atStart => exact ⟨#[], hR, fun j c o q f h => by simp at h, k2, bb2⟩
  case round =>
    clear hR k2 bb2
    obtain ⟨seen, hR, hS, k, bb⟩ := hrel
    have HS := Lib.hid hS
    clear hS
    go_step
    first | refine wpl_nextR _ rfl _ rfl b w1.heap.size seen rfl hR (Lib.hid fun hall => ?_) (Lib.hid fun j c o' q f w3 hj hR3 hlt hg hen => ?_) | (go_step; first | refine wpl_nextR _ rfl _ rfl b w1.heap.size seen rfl hR (Lib.hid fun hall => ?_) (Lib.hid fun j c o' q f w3 hj hR3 hlt hg hen => ?_) | (go_step; first | refine wpl_nextR _ rfl _ rfl b w1.heap.size seen rfl hR (Lib.hid fun hall => ?_) (Lib.hid fun j c o' q f w3 hj hR3 hlt hg hen => ?_) | (go_step; refine wpl_nextR _ rfl _ rfl b w1.heap.size seen rfl hR (Lib.hid fun hall => ?_) (Lib.hid fun j c o' q f w3 hj hR3 hlt hg hen => ?_))))
    · have hno : codeOf op qt fu = none := codeOf_none fun j c o q f hj => HS.out j c o q f (hall j _ (by unfold rowsT; rw [List.getElem?_map, hj]; rfl)) hj
      have HNO := Lib.hid hno
      clear hall hno hR
      go_wp2_with fail
      go_ret2
      exact ⟨by rw [HNO.out]; rfl, bb⟩
    · have k3 := k.leftC hg (by omega)
      have b3 := bb.trans (below_grown hg (by have := bb.size; omega) (Array.getElem?_eq_some_iff.1 hR.2.1).1)
      have k4 := k3.alloc (.cells #[.int .i64 (o' : Int), .bool q, .bool f] 140)
      have hR4 : RangeB (w3.alloc (.cells #[.int .i64 (o' : Int), .bool q, .bool f] 140)) .i64 b w1.heap.size rowsT (seen.push j) := hR3.step (below_a1' (Below.refl _ _) _)
      have b4 := below_a1' b3 (.cells #[.int .i64 (o' : Int), .bool q, .bool f] 140)
      obtain ⟨p0, p1, p2, -⟩ := box12 k4
      have HJ := Lib.hid hj
      have HR4 := Lib.hid hR4
      have HLT : Hid ((w3.alloc (.cells #[.int .i64 (o' : Int), .bool q, .bool f] 140)).rangeLeft b w1.heap.size < wr.rangeLeft b w1.heap.size) := Lib.hid (by rw [hR4.left_eq, ← hR3.left_eq]; exact hlt)
      clear hj hR4 hlt hR3 hR k k3 b3 bb hg
      by_cases hmt : ((o' : Nat) : Int) = op ∧ q = qt ∧ f = fu
      · have hco : codeOf op qt fu = some c := codeOf_at HJ.out hmt.1 hmt.2.1 hmt.2.2
        have e1 : ((o' : Int) == op) = true := by rw [beq_iff_eq]; exact hmt.1
        have e2 : (q == qt) = true := by rw [beq_iff_eq]; exact hmt.2.1
        have e3 : (f == fu) = true := by rw [beq_iff_eq]; exact hmt.2.2
        have HCO := Lib.hid hco
        clear hmt hco
        go_wp2_with fail
        go_ret2
        exact ⟨by rw [HCO.out]; rfl, b4⟩
      · have HMT := Lib.hid hmt
        by_cases h1 : ((o' : Nat) : Int) = op
        · have e1 : ((o' : Int) == op) = true := by rw [beq_iff_eq]; exact h1
          by_cases h2 : q = qt
          · have e2 : (q == qt) = true := by rw [beq_iff_eq]; exact h2
            have e3 : (f == fu) = false := beq_eq_false_iff_ne.2 (fun h3 => hmt ⟨h1, h2, h3⟩)
            clear h1 h2 hmt
            go_wp2_with fail
            go_roundw
            case rel => exact ⟨seen.push j, HR4.out, fun j' c' o2 q' f' hc' hj' => by
              rw [contains_push', Bool.or_eq_true] at hc'
              rcases hc' with h1 | h1
              · exact HS.out j' c' o2 q' f' h1 hj'
              · have h2 : j' = j := by simpa using h1
                subst h2
                have h3 := HJ.out
                rw [hj'] at h3
                injection h3 with h3
                injection h3 with h4 h5
                injection h5 with h5 h6
                injection h6 with h6 h7
                subst h5 h6 h7
                exact HMT.out, k4, b4⟩
            case measure => exact HLT.out
          · have e2 : (q == qt) = false := beq_eq_false_iff_ne.2 h2
            clear h1 h2 hmt
            go_wp2_with fail
            go_roundw
            case rel => exact ⟨seen.push j, HR4.out, fun j' c' o2 q' f' hc' hj' => by
              rw [contains_push', Bool.or_eq_true] at hc'
              rcases hc' with h1 | h1
              · exact HS.out j' c' o2 q' f' h1 hj'
              · have h2 : j' = j := by simpa using h1
                subst h2
                have h3 := HJ.out
                rw [hj'] at h3
                injection h3 with h3
                injection h3 with h4 h5
                injection h5 with h5 h6
                injection h6 with h6 h7
                subst h5 h6 h7
                exact HMT.out, k4, b4⟩
            case measure => exact HLT.out
        · have e1 : ((o' : Int) == op) = false := beq_eq_false_iff_ne.2 h1
          clear h1 hmt
          go_wp2_with fail
          go_roundw
          case rel => exact ⟨seen.push j, HR4.out, fun j' c' o2 q' f' hc' hj' => by
            rw [contains_push', Bool.or_eq_true] at hc'
            rcases hc' with h1 | h1
            · exact HS.out j' c' o2 q' f' h1 hj'
            · have h2 : j' = j := by simpa using h1
              subst h2
              have h3 := HJ.out
              rw [hj'] at h3
              injection h3 with h3
              injection h3 with h4 h5
              injection h5 with h5 h6
              injection h6 with h6 h7
              subst h5 h6 h7
              exact HMT.out, k4, b4⟩
          case measure => exact HLT.out
end
section
open Go.RowKit
def codeB (op : Int) (qt fu : Bool) : Nat := match codeOf op qt fu with | some c => c | none => (op % 256).toNat
theorem codeT_small : ∀ r ∈ codeT, r.1 ≤ 64 := by decide +kernel
theorem codeOf_le {op : Int} {qt fu : Bool} {c : Nat} (h : codeOf op qt fu = some c) : c ≤ 64 := by
  unfold codeOf at h
  obtain ⟨r, hr, rfl⟩ := Option.map_eq_some_iff.1 h
  exact codeT_small r (List.mem_of_find?_eq_some hr)
theorem codeB_lt (op : Int) (qt fu : Bool) : codeB op qt fu < 256 := by
  unfold codeB
  cases h : codeOf op qt fu with
  | none => show (op % 256).toNat < 256; omega
  | some c => have := codeOf_le h; show c < 256; omega
set_option maxRecDepth 100000 in
set_option maxHeartbeats 1000000 in
theorem rcode_any (op : Int) (qt fu : Bool) (bad : Int) (oq : Nat) (K V : Value) (fl ex cas dl ini : Nat) (w : World) :
    Calls Try.prog 115 #[reqV op qt fu bad oq K V fl ex cas dl ini] w (BoxQ' (.int .u8 (codeB op qt fu : Nat)) w) := by
  have k0 := Blk.new w #[.int .i64 op, .bool qt, .bool fu, .int .i64 bad, .int .u32 (oq : Nat), K, V, .int .u32 (fl : Nat), .int .u32 (ex : Nat), .int .u64 (cas : Nat), .int .u64 (dl : Nat), .int .u64 (ini : Nat)] 26
  have b0 := below_a1' (Below.refl w.heap.size w) (.cells #[.int .i64 op, .bool qt, .bool fu, .int .i64 bad, .int .u32 (oq : Nat), K, V, .int .u32 (fl : Nat), .int .u32 (ex : Nat), .int .u64 (cas : Nat), .int .u64 (dl : Nat), .int .u64 (ini : Nat)] 26)
  have hc : ∀ W, Calls Try.prog 43 #[.agg #[.int .i64 op, .bool qt, .bool fu, .int .i64 0, .int .u32 0, .slice none 0 0, .slice none 0 0, .int .u32 0, .int .u32 0, .int .u64 0, .int .u64 0, .int .u64 0]] W (CodeQ (codeOf op qt fu) W) := fun W => code_any op qt fu 0 (.slice none 0 0) (.slice none 0 0) 0 0 0 0 0 W
  have HC := Lib.hid hc
  clear hc
  unfold reqV
  go_enter Try.func115, Try.ntmps115
  go_wp2_with fail
  generalize w.alloc (.cells #[.int .i64 op, .bool qt, .bool fu, .int .i64 bad, .int .u32 (oq : Nat), K, V, .int .u32 (fl : Nat), .int .u32 (ex : Nat), .int .u64 (cas : Nat), .int .u64 (dl : Nat), .int .u64 (ini : Nat)] 26) = W0 at k0 b0 ⊢
  refine (HC.out W0).mono ?_
  clear HC
  rintro e w1 ⟨rfl, b1⟩
  replace k0 := k0.step b1
  replace b0 := below_step b0 b1
  clear b1
  obtain ⟨q0, q1, q2, -⟩ := box12 k0
  cases hco : codeOf op qt fu with
  | some c =>
    have hle := codeOf_le hco
    have hcb : codeB op qt fu = c := by unfold codeB; rw [hco]
    have HCB := Lib.hid hcb
    clear hco hcb
    go_wp2_with fail
    go_ret
    exact ⟨by rw [HCB.out]; rfl, b0⟩
  | none =>
    have hcb : ((codeB op qt fu : Nat) : Int) = op % 256 := by unfold codeB; rw [hco]; show (((op % 256).toNat : Nat) : Int) = _; omega
    have HCB := Lib.hid hcb
    clear hco hcb
    go_wp2_with fail
    go_ret
    exact ⟨by rw [HCB.out]; rfl, b0⟩
def textB (s : Int) : ByteArray :=
  if s = 1 then ⟨#[78, 111, 116, 32, 102, 111, 117, 110, 100]⟩
  else if s = 2 then ⟨#[68, 97, 116, 97, 32, 101, 120, 105, 115, 116, 115, 32, 102, 111, 114, 32, 107, 101, 121, 46]⟩
  else if s = 3 then ⟨#[84, 111, 111, 32, 108, 97, 114, 103, 101, 46]⟩
  else if s = 4 then ⟨#[73, 110, 118, 97, 108, 105, 100, 32, 97, 114, 103, 117, 109, 101, 110, 116, 115]⟩
  else if s = 5 then ⟨#[78, 111, 116, 32, 115, 116, 111, 114, 101, 100, 46]⟩
  else if s = 6 then ⟨#[78, 111, 110, 45, 110, 117, 109, 101, 114, 105, 99, 32, 118, 97, 108, 117, 101]⟩
  else if s = 129 then ⟨#[85, 110, 107, 110, 111, 119, 110, 32, 99, 111, 109, 109, 97, 110, 100]⟩
  else if s = 132 then ⟨#[73, 110, 116, 101, 114, 110, 97, 108, 32, 101, 114, 114, 111, 114]⟩
  else ⟨#[]⟩
set_option maxRecDepth 100000 in
set_option maxHeartbeats 1000000 in
theorem text_any (s : Int) (w : World) : Calls Try.prog 30 #[.int .i64 s] w fun e w' => e = .returned (.string (textB s)) ∧ w = w' := by
  by_cases h0 : s = 1
  · subst h0
    go_enter Try.func30, Try.ntmps30
    go_wp2_with fail
    go_ret
    exact ⟨rfl, rfl⟩
  · have e0 : (s == 1) = false := beq_eq_false_iff_ne.2 h0
    by_cases h1 : s = 2
    · subst h1
      clear e0 h0
      go_enter Try.func30, Try.ntmps30
      go_wp2_with fail
      go_ret
      exact ⟨rfl, rfl⟩
    · have e1 : (s == 2) = false := beq_eq_false_iff_ne.2 h1
      by_cases h2 : s = 3
      · subst h2
        clear e0 h0
        clear e1 h1
        go_enter Try.func30, Try.ntmps30
        go_wp2_with fail
        go_ret
        exact ⟨rfl, rfl⟩
      · have e2 : (s == 3) = false := beq_eq_false_iff_ne.2 h2
        by_cases h3 : s = 4
        · subst h3
          clear e0 h0
          clear e1 h1
          clear e2 h2
          go_enter Try.func30, Try.ntmps30
          go_wp2_with fail
          go_ret
          exact ⟨rfl, rfl⟩
        · have e3 : (s == 4) = false := beq_eq_false_iff_ne.2 h3
          by_cases h4 : s = 5
          · subst h4
            clear e0 h0
            clear e1 h1
            clear e2 h2
            clear e3 h3
            go_enter Try.func30, Try.ntmps30
            go_wp2_with fail
            go_ret
            exact ⟨rfl, rfl⟩
          · have e4 : (s == 5) = false := beq_eq_false_iff_ne.2 h4
            by_cases h5 : s = 6
            · subst h5
              clear e0 h0
              clear e1 h1
              clear e2 h2
              clear e3 h3
              clear e4 h4
              go_enter Try.func30, Try.ntmps30
              go_wp2_with fail
              go_ret
              exact ⟨rfl, rfl⟩
            · have e5 : (s == 6) = false := beq_eq_false_iff_ne.2 h5
              by_cases h6 : s = 129
              · subst h6
                clear e0 h0
                clear e1 h1
                clear e2 h2
                clear e3 h3
                clear e4 h4
                clear e5 h5
                go_enter Try.func30, Try.ntmps30
                go_wp2_with fail
                go_ret
                exact ⟨rfl, rfl⟩
              · have e6 : (s == 129) = false := beq_eq_false_iff_ne.2 h6
                by_cases h7 : s = 132
                · subst h7
                  clear e0 h0
                  clear e1 h1
                  clear e2 h2
                  clear e3 h3
                  clear e4 h4
                  clear e5 h5
                  clear e6 h6
                  go_enter Try.func30, Try.ntmps30
                  go_wp2_with fail
                  go_ret
                  exact ⟨rfl, rfl⟩
                · have e7 : (s == 132) = false := beq_eq_false_iff_ne.2 h7
                  have ht : textB s = ⟨#[]⟩ := by unfold textB; rw [if_neg h0, if_neg h1, if_neg h2, if_neg h3, if_neg h4, if_neg h5, if_neg h6, if_neg h7]
                  have HT := Lib.hid ht
                  clear ht h0 h1 h2 h3 h4 h5 h6 h7
                  go_enter Try.func30, Try.ntmps30
                  go_wp2_with fail
                  go_ret
                  exact ⟨by rw [HT.out]; rfl, rfl⟩
end
end Go.Proofs.Ytnghmgbmflcngaa

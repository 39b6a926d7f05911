/- parse.shaped, parse.right, parse.New; the row of a code. Conditions: typed in each theorem. -/
import Derived.Test.YtnghmgbmflcngaaCod
namespace Go.Proofs.Ytnghmgbmflcngaa
set_option linter.unusedVariables false
open Go.RowKit

/-- How a command's frame looks. -/
def shapeOf (op : Int) : Nat × Bool × Bool :=
  if op = 0 ∨ op = 4 then (0, true, false) else if op = 1 ∨ op = 2 ∨ op = 3 then (8, true, true) else if op = 5 ∨ op = 6 then (20, true, false)
  else if op = 14 ∨ op = 15 then (0, true, true) else if op = 28 ∨ op = 29 then (4, true, false) else (0, false, false)
def shapeV (op : Int) : Value := .agg #[.int .i64 ((shapeOf op).1 : Int), .bool (shapeOf op).2.1, .bool (shapeOf op).2.2]
set_option maxRecDepth 100000 in
set_option maxHeartbeats 2000000 in
theorem shaped_any (op : Int) (w : World) : Calls Try.prog 85 #[.int .i64 op] w (BoxQ' (shapeV op) w) := by
  by_cases hin : op = 0 ∨ op = 4 ∨ op = 1 ∨ op = 2 ∨ op = 3 ∨ op = 5 ∨ op = 6 ∨ op = 14 ∨ op = 15 ∨ op = 28 ∨ op = 29
  · rcases hin with rfl | rfl | rfl | rfl | rfl | rfl | rfl | rfl | rfl | rfl | rfl
    · skip
      go_enter Try.func85, Try.ntmps85
      go_wp2_with fail
      refine bodyPost_ret (v := shapeV 0) (by simp [results, Try.results85, go_sem, shapeV, shapeOf]) rfl ?_
      exact ⟨rfl, below_a1' (Below.refl _ _) _⟩
    · skip
      go_enter Try.func85, Try.ntmps85
      go_wp2_with fail
      refine bodyPost_ret (v := shapeV 4) (by simp [results, Try.results85, go_sem, shapeV, shapeOf]) rfl ?_
      exact ⟨rfl, below_a1' (Below.refl _ _) _⟩
    · skip
      go_enter Try.func85, Try.ntmps85
      go_wp2_with fail
      refine bodyPost_ret (v := shapeV 1) (by simp [results, Try.results85, go_sem, shapeV, shapeOf]) rfl ?_
      exact ⟨rfl, below_a1' (Below.refl _ _) _⟩
    · skip
      go_enter Try.func85, Try.ntmps85
      go_wp2_with fail
      refine bodyPost_ret (v := shapeV 2) (by simp [results, Try.results85, go_sem, shapeV, shapeOf]) rfl ?_
      exact ⟨rfl, below_a1' (Below.refl _ _) _⟩
    · skip
      go_enter Try.func85, Try.ntmps85
      go_wp2_with fail
      refine bodyPost_ret (v := shapeV 3) (by simp [results, Try.results85, go_sem, shapeV, shapeOf]) rfl ?_
      exact ⟨rfl, below_a1' (Below.refl _ _) _⟩
    · skip
      go_enter Try.func85, Try.ntmps85
      go_wp2_with fail
      refine bodyPost_ret (v := shapeV 5) (by simp [results, Try.results85, go_sem, shapeV, shapeOf]) rfl ?_
      exact ⟨rfl, below_a1' (Below.refl _ _) _⟩
    · skip
      go_enter Try.func85, Try.ntmps85
      go_wp2_with fail
      refine bodyPost_ret (v := shapeV 6) (by simp [results, Try.results85, go_sem, shapeV, shapeOf]) rfl ?_
      exact ⟨rfl, below_a1' (Below.refl _ _) _⟩
    · skip
      go_enter Try.func85, Try.ntmps85
      go_wp2_with fail
      refine bodyPost_ret (v := shapeV 14) (by simp [results, Try.results85, go_sem, shapeV, shapeOf]) rfl ?_
      exact ⟨rfl, below_a1' (Below.refl _ _) _⟩
    · skip
      go_enter Try.func85, Try.ntmps85
      go_wp2_with fail
      refine bodyPost_ret (v := shapeV 15) (by simp [results, Try.results85, go_sem, shapeV, shapeOf]) rfl ?_
      exact ⟨rfl, below_a1' (Below.refl _ _) _⟩
    · skip
      go_enter Try.func85, Try.ntmps85
      go_wp2_with fail
      refine bodyPost_ret (v := shapeV 28) (by simp [results, Try.results85, go_sem, shapeV, shapeOf]) rfl ?_
      exact ⟨rfl, below_a1' (Below.refl _ _) _⟩
    · skip
      go_enter Try.func85, Try.ntmps85
      go_wp2_with fail
      refine bodyPost_ret (v := shapeV 29) (by simp [results, Try.results85, go_sem, shapeV, shapeOf]) rfl ?_
      exact ⟨rfl, below_a1' (Below.refl _ _) _⟩
  · have e : shapeV op = .agg #[.int .i64 0, .bool false, .bool false] := by
      unfold shapeV shapeOf
      rw [if_neg (by omega), if_neg (by omega), if_neg (by omega), if_neg (by omega), if_neg (by omega)]
      rfl
    rw [e]
    have n0 : (op == 0) = false := beq_eq_false_iff_ne.2 (by omega)
    have n1 : (op == 1) = false := beq_eq_false_iff_ne.2 (by omega)
    have n2 : (op == 2) = false := beq_eq_false_iff_ne.2 (by omega)
    have n3 : (op == 3) = false := beq_eq_false_iff_ne.2 (by omega)
    have n4 : (op == 4) = false := beq_eq_false_iff_ne.2 (by omega)
    have n5 : (op == 5) = false := beq_eq_false_iff_ne.2 (by omega)
    have n6 : (op == 6) = false := beq_eq_false_iff_ne.2 (by omega)
    have n14 : (op == 14) = false := beq_eq_false_iff_ne.2 (by omega)
    have n15 : (op == 15) = false := beq_eq_false_iff_ne.2 (by omega)
    have n28 : (op == 28) = false := beq_eq_false_iff_ne.2 (by omega)
    have n29 : (op == 29) = false := beq_eq_false_iff_ne.2 (by omega)
    clear hin
    go_enter Try.func85, Try.ntmps85
    go_wp2_with fail
    refine bodyPost_ret (v := .agg #[.int .i64 0, .bool false, .bool false]) (by simp [results, Try.results85, go_sem]) rfl ?_
    exact ⟨rfl, below_a1' (Below.refl _ _) _⟩
/-- What a code says: command, quiet, full. -/
def rowOf (c : Nat) : Option (Nat × Bool × Bool) := (codeT.find? (fun r => r.1 == c)).map (·.2)
theorem rowsT_find (c : Nat) : (rowsT.find? (fun p => p.1 == (c : Int))).map (·.2) = (rowOf c).map fun r => rowV (r.1 : Int) r.2.1 r.2.2 := by
  unfold rowsT rowOf
  rw [List.find?_map]
  have e : ((fun p : Int × Value => p.1 == (c : Int)) ∘ rowP) = fun r => r.1 == c := by
    funext r
    simp only [Function.comp, rowP]
    rw [Bool.eq_iff_iff, beq_iff_eq, beq_iff_eq]
    omega
  rw [e]
  cases codeT.find? (fun r => r.1 == c) <;> rfl
theorem rowsT_one (i j : Nat) (p p' : Int × Value) (hi : rowsT[i]? = some p) (hj : rowsT[j]? = some p') (h : p.1 = p'.1) : p = p' := by
  unfold rowsT at hi hj
  rw [List.getElem?_map] at hi hj
  obtain ⟨r, h1, rfl⟩ := Option.map_eq_some_iff.1 hi
  obtain ⟨r', h2, rfl⟩ := Option.map_eq_some_iff.1 hj
  have e : r.1 = r'.1 := by
    simp only [rowP] at h
    omega
  rw [codeT_codes r (List.mem_of_getElem? h1) r' (List.mem_of_getElem? h2) e]
theorem rowsT_ne : rowsT ≠ [] := by
  intro h
  have := rowsT_len
  rw [h] at this
  cases this
theorem rowOf_mem {c o : Nat} {q f : Bool} (h : rowOf c = some (o, q, f)) : (c, o, q, f) ∈ codeT := by
  unfold rowOf at h
  obtain ⟨r, hr, he⟩ := Option.map_eq_some_iff.1 h
  have h1 := List.find?_some hr
  have h2 := List.mem_of_find?_eq_some hr
  have h3 : r.1 = c := by simpa using h1
  obtain ⟨r1, r2⟩ := r
  simp only at he h3
  subst he h3
  exact h2
theorem zrow (w : World) : (zeroValue 140).run Try.prog w = .ok (rowV 0 false false) w := by
  first | kernel_rfl | rfl | (simp [zeroValue, typeInfo]; rfl)
/-- The row of a code, looked up. -/
theorem wpl_lookYes (w : World) {ops : Array Oper} {rest : List Oper} {o : Oper} {a : Act} {Q : Exit → Act → World → Prop} (hg : o.guard = none) (m x : Operand) (t : TypeId) (hop : o.op = Op.lookup t m x true) (ht : Try.prog.underlying t = some (.map 3 140)) (b c : Nat)
    (hm : a.eval m = .map (some b)) (hb : MapB w .i64 b rowsT) (hx : a.eval x = .int .i64 (c : Int)) (r : Nat) (q f : Bool) (hr : rowOf c = some (r, q, f))
    (hK : wpList Try.prog ops Q rest (a.put o.dst (.tuple #[.agg #[.int .i64 (r : Int), .bool q, .bool f], .bool true])) w) : wpList Try.prog ops Q (o :: rest) a w := by
  refine wpl_lookB w hg m x t hop 3 140 .i64 ht Try.underlying3 b rowsT hm hb rowsT_ne c (rowV 0 false false) hx (fun w => zrow w) rowsT_one _ (rowsT_find c) ?_
  rw [hr]
  exact hK
theorem wpl_lookNo (w : World) {ops : Array Oper} {rest : List Oper} {o : Oper} {a : Act} {Q : Exit → Act → World → Prop} (hg : o.guard = none) (m x : Operand) (t : TypeId) (hop : o.op = Op.lookup t m x true) (ht : Try.prog.underlying t = some (.map 3 140)) (b c : Nat)
    (hm : a.eval m = .map (some b)) (hb : MapB w .i64 b rowsT) (hx : a.eval x = .int .i64 (c : Int)) (hr : rowOf c = none)
    (hK : wpList Try.prog ops Q rest (a.put o.dst (.tuple #[.agg #[.int .i64 0, .bool false, .bool false], .bool false])) w) : wpList Try.prog ops Q (o :: rest) a w := by
  refine wpl_lookB w hg m x t hop 3 140 .i64 ht Try.underlying3 b rowsT hm hb rowsT_ne c (rowV 0 false false) hx (fun w => zrow w) rowsT_one _ (rowsT_find c) ?_
  rw [hr]
  exact hK
/-- Growth elsewhere. -/
theorem grown_far {w w1 w2 : World} {g g' : Nat} (h : w.grownBy w1 (some g)) (h2 : w1.grownBy w2 (some g')) (hf : w.heap.size ≤ g') : w.grownBy w2 (some g) :=
  ⟨h2.os.trans h.os, h2.tape.trans h.tape, h2.output.trans h.output, Nat.le_trans h.size h2.size, fun k hk hne => (h2.block k (Nat.lt_of_lt_of_le hk h.size) (fun e => by injection e with e; omega)).trans (h.block k hk hne)⟩
theorem below_far {w w1 w2 : World} {B g' : Nat} (h : Below B w w1) (h2 : w1.grownBy w2 (some g')) (hf : B ≤ g') (hB : B ≤ w.heap.size) : Below B w w2 :=
  ⟨h2.os.trans h.os, h2.tape.trans h.tape, h2.output.trans h.output, Nat.le_trans h.size h2.size, fun k hk => (h2.block k (Nat.lt_of_lt_of_le (Nat.lt_of_lt_of_le hk hB) h.size) (fun e => by injection e with e; omega)).trans (h.block k hk)⟩
end Go.Proofs.Ytnghmgbmflcngaa

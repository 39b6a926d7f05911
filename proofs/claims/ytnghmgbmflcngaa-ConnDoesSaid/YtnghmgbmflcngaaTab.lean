/- The document's table of codes: Table, find, Code. Conditions: typed in each theorem. -/
import Derived.Test.YtnghmgbmflcngaaZcod
import Derived.Test.YtnghmgbmflcngaaZpar
import Derived.Test.YtnghmgbmflcngaaZhld
import Derived.Great.FillDense
namespace Go.Proofs.Ytnghmgbmflcngaa
set_option linter.unusedVariables false
open Go.RowKit
abbrev TRw : Type := Nat × Nat × Bool × Bool × Nat × Bool × Bool
def tblT : List TRw := [(0, 0, false, false, 0, true, false), (9, 0, true, false, 0, true, false), (12, 0, false, true, 0, true, false), (13, 0, true, true, 0, true, false), (1, 1, false, false, 8, true, true), (17, 1, true, false, 8, true, true), (2, 2, false, false, 8, true, true), (18, 2, true, false, 8, true, true), (3, 3, false, false, 8, true, true), (19, 3, true, false, 8, true, true), (4, 4, false, false, 0, true, false), (20, 4, true, false, 0, true, false), (5, 5, false, false, 20, true, false), (21, 5, true, false, 20, true, false), (6, 6, false, false, 20, true, false), (22, 6, true, false, 20, true, false), (7, 7, false, false, 0, false, false), (23, 7, true, false, 0, false, false), (8, 8, false, false, 0, false, false), (24, 8, true, false, 0, false, false), (10, 10, false, false, 0, false, false), (11, 11, false, false, 0, false, false), (14, 14, false, false, 0, true, true), (25, 14, true, false, 0, true, true), (15, 15, false, false, 0, true, true), (26, 15, true, false, 0, true, true), (16, 16, false, false, 0, false, false), (28, 28, false, false, 4, true, false), (29, 29, false, false, 4, true, false), (30, 29, true, false, 4, true, false), (64, 64, false, false, 0, false, false)]
def tcells (r : TRw) : List Value := [.int .i64 (r.1 : Int), .int .i64 (r.2.1 : Int), .bool r.2.2.1, .bool r.2.2.2.1, .int .i64 (r.2.2.2.2.1 : Int), .bool r.2.2.2.2.2.1, .bool r.2.2.2.2.2.2]
def tval (r : TRw) : Value := .agg (tcells r).toArray
def tvals : List Value := tblT.map tval
theorem tvals_len : tvals.length = 31 := rfl
theorem tvals_size : ∀ v ∈ tvals, v.cells.size = 7 := by
  intro v hv
  obtain ⟨r, -, rfl⟩ := List.mem_map.1 hv
  rfl
theorem rowinfo : (Try.prog.info? 144).map (fun i => (i.size, i.zero.map (fun z => z.cells.size))) = some (7, some 7) := by kernel_rfl
theorem row_parts : ∃ i z, Try.prog.info? 144 = some i ∧ i.zero = some z ∧ i.size = 7 ∧ z.cells.size = 7 := by
  have h := rowinfo
  cases hi : Try.prog.info? 144 with
  | none => rw [hi] at h; cases h
  | some i =>
    rw [hi] at h
    simp only [Option.map_some, Option.some.injEq, Prod.mk.injEq] at h
    obtain ⟨h1, h2⟩ := h
    cases hz : i.zero with
    | none => rw [hz] at h2; cases h2
    | some z =>
      rw [hz] at h2
      simp only [Option.map_some, Option.some.injEq] at h2
      exact ⟨i, z, rfl, hz, h1, h2⟩
theorem flat_cells : ∀ l : List TRw, ((l.map tval).flatMap fun v => v.cells.toList) = (l.map tcells).flatten
  | [] => rfl
  | r :: l => by
    rw [List.map_cons, List.flatMap_cons, flat_cells l, List.map_cons, List.flatten_cons]
    rfl
def tabO : Obj := .cells (tblT.map tcells).flatten.toArray 144
theorem tabO_eq : tabO = .cells (tvals.flatMap fun v => v.cells.toList).toArray 144 := by
  unfold tabO tvals
  rw [flat_cells]
theorem wpl_tab (w : World) {ops : Array Oper} {rest : List Oper} {o : Oper} {a : Act} {Q : Exit → Act → World → Prop} (hg : o.guard = none) (parts : Array (Nat × Operand)) (ho : o.op = .buildSlice 141 31 parts)
    (hx : (parts.map fun (i, x) => (i, a.eval x)).toList = (tvals.zipIdx 0).map fun x => (x.2, x.1))
    (h : wpList Try.prog ops Q rest (a.put o.dst (.slice (some ⟨w.heap.size, 0, none⟩) 31 31)) (w.alloc tabO)) : wpList Try.prog ops Q (o :: rest) a w := by
  obtain ⟨i, z, hi, hz, hs, hzs⟩ := row_parts
  rw [tabO_eq] at h
  refine wpList_buildSlice hg _ 144 31 parts ho _ i z Try.underlying141 hi hz (by rw [hs]; decide) (by rw [hs]; decide) ?_ h
  rw [hx, hs]
  exact Great.fill_whole (by decide) tvals _ tvals_size (by rw [tvals_len]; simp)
theorem rz_new (w : World) (xs : List Value) (e : TypeId) (n z : Nat) (hs : xs.length = n * z) (hm : n ≤ maxLen) : Rz (w.alloc (.cells xs.toArray e)) (w.heap.size + 1) z (some ⟨w.heap.size, 0, none⟩) n n xs := by
  refine ⟨hs, Nat.le_refl _, hm, (fun h => by cases h), (fun ad hA _ => by injection hA with hA; subst hA; exact Nat.lt_succ_self _), fun ad i u hA hu => ?_⟩
  injection hA with hA; subst hA
  have ha : (⟨w.heap.size, 0, none⟩ : Addr).add i = ⟨w.heap.size, i, none⟩ := by
    unfold Addr.add
    by_cases hi : i = 0
    · subst hi; rfl
    · rw [if_neg hi]; simp
  rw [ha, cell_of_row _ _ i xs.toArray e (0, 0) (heap_alloc_new w _)]
  simpa using hu
def TableQ (w : World) (e : Ending) (w' : World) : Prop := ∃ g, e = .returned (.slice (some ⟨g, 0, none⟩) 31 31) ∧ Rz w' w'.heap.size 7 (some ⟨g, 0, none⟩) 31 31 (tblT.map tcells).flatten ∧ Below w.heap.size w w'
set_option maxRecDepth 100000 in
set_option maxHeartbeats 4000000 in
theorem table_any (w : World) : Calls Try.prog 92 #[] w (TableQ w) := by
  go_enter Try.func92, Try.ntmps92
  go_wp2_with (refine wpl_tab _ rfl _ rfl (by simp [Act.eval, tvals, tblT, tval, tcells]) ?_)
  have hz := rz_new w (tblT.map tcells).flatten 144 31 7 (by rfl) (by simp [maxLen])
  have hsz : w.heap.size + 1 ≤ (w.alloc tabO).heap.size := by rw [World.size_alloc]; exact Nat.le_refl _
  have hz : Rz (w.alloc tabO) (w.alloc tabO).heap.size 7 (some ⟨w.heap.size, 0, none⟩) 31 31 (tblT.map tcells).flatten := hz.more hsz
  clear hsz
  have b := below_a1' (Below.refl w.heap.size w) tabO
  have HB := Lib.hid (And.intro hz b)
  clear hz b
  go_wp2_with fail
  refine bodyPost_ret (v := .slice (some ⟨w.heap.size, 0, none⟩) 31 31) (by simp [results, Try.results92, go_sem]) (by rfl) ?_
  exact ⟨w.heap.size, rfl, HB.out.1, HB.out.2⟩
end Go.Proofs.Ytnghmgbmflcngaa

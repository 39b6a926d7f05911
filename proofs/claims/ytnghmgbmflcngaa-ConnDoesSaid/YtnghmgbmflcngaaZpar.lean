/- Merged texts: Que, Pra, Prc, Prd, Prp, Prn, Pun, Psp, Tol, Spoi, Spok. Conditions: typed in each theorem. -/
import Derived.Test.YtnghmgbmflcngaaZbas
import Derived.Test.YtnghmgbmflcngaaZcod
import Derived.Test.YtnghmgbmflcngaaZfre
import Derived.Test.YtnghmgbmflcngaaZhld
import Derived.Deep.DeepCutAuto
import Derived.Test.YtnghmgbmflcngaaZfri
namespace Go.Proofs.Ytnghmgbmflcngaa
set_option linter.unusedVariables false
section
open Go.RowKit
def Que (w : World) (B : Nat) (A : Option Addr) (n c : Nat) (l : List UInt8) : Prop :=
  l.length = n ∧ ((A = none ∧ n = 0 ∧ c = 0) ∨ ∃ g i cur, A = some ⟨g, i, none⟩ ∧ B ≤ g ∧ w.heap[g]? = some (.cells cur 5 (0, 0)) ∧ n ≤ c ∧ i + c ≤ maxLen ∧ i + c ≤ cur.size ∧ (cur.toList.drop i).take n = cbs l)
section
variable {w w' : World} {B B' n c : Nat} {A : Option Addr} {l l2 : List UInt8}
theorem Que.len (h : Que w B A n c l) : l.length = n := h.1
theorem Own.que (h : Own w B A n c l) : Que w B A n c l := by
  refine ⟨h.len, ?_⟩
  rcases h.2 with ⟨hv, hn⟩ | ⟨g, cap, cur, hv, hbg, hg, hnc, hcm, hcs, htake⟩
  · injection hv with e1 e2 e3
    exact .inl ⟨e1, hn, e3⟩
  · injection hv with e1 e2 e3
    subst e1 e3
    exact .inr ⟨g, 0, cur, rfl, hbg, hg, hnc, by omega, by omega, by simpa using htake⟩
theorem Que.nil (w : World) (B : Nat) : Que w B none 0 0 [] := ⟨rfl, .inl ⟨rfl, rfl, rfl⟩⟩
theorem Que.rd (h : Que w B A n c l) : Rd w w.heap.size A n c l := by
  obtain ⟨hl, h⟩ := h
  have hlc : (cbs l).length = n := by rw [length_cbs]; exact hl
  rcases h with ⟨rfl, rfl, rfl⟩ | ⟨g, i, cur, rfl, hbg, hg, hnc, hcm, hcs, ht⟩
  · obtain rfl : l = [] := List.eq_nil_of_length_eq_zero hl
    exact Rd.nil _ _
  · refine ⟨hlc, hnc, by omega, (fun h => by cases h), (fun ad hA _ => ?_), (fun ad k u hA hu => ?_)⟩
    · injection hA with hA; subst hA
      exact (Array.getElem?_eq_some_iff.1 hg).1
    · injection hA with hA; subst hA
      have hadd : (⟨g, i, none⟩ : Addr).add k = ⟨g, i + k, none⟩ := by unfold Addr.add; split <;> simp_all
      rw [hadd, cell_of_row w g (i + k) cur _ (0, 0) hg]
      rw [← ht, List.getElem?_take] at hu
      split at hu
      · rw [List.getElem?_drop] at hu
        simpa using hu
      · cases hu
theorem Que.more (h : Que w B A n c l) (hB : B' ≤ B) : Que w B' A n c l := by
  refine ⟨h.1, ?_⟩
  rcases h.2 with h' | ⟨g, i, cur, hv, hg, r⟩
  · exact .inl h'
  · exact .inr ⟨g, i, cur, hv, by omega, r⟩
theorem Que.below (h : Que w B A n c l) (hb : Below w.heap.size w w') : Que w' B A n c l := by
  refine ⟨h.1, ?_⟩
  rcases h.2 with h' | ⟨g, i, cur, hv, hg, hh, r⟩
  · exact .inl h'
  · exact .inr ⟨g, i, cur, hv, hg, (hb.block g (Array.getElem?_eq_some_iff.1 hh).1).trans hh, r⟩
theorem Que.kept {row : Option Nat} (h : Que w B A n c l) (hg : w.grownBy w' row) (hne : ∀ k, row = some k → k < B) : Que w' B A n c l := by
  refine ⟨h.1, ?_⟩
  rcases h.2 with h' | ⟨g, i, cur, hv, hgb, hh, r⟩
  · exact .inl h'
  · exact .inr ⟨g, i, cur, hv, hgb, (hg.block g (Array.getElem?_eq_some_iff.1 hh).1 (fun e => by have := hne g e.symm; omega)).trans hh, r⟩
theorem Que.cut (h : Que w B A n c l) {k : Nat} (hk : k ≤ n) : Que w B (if c = k then A else A.map (·.add k)) (n - k) (c - k) (l.drop k) := by
  obtain ⟨hl, h⟩ := h
  refine ⟨by rw [List.length_drop, hl], ?_⟩
  rcases h with ⟨rfl, rfl, rfl⟩ | ⟨g, i, cur, rfl, hbg, hg, hnc, hcm, hcs, ht⟩
  · exact .inl ⟨by split <;> rfl, by omega, by omega⟩
  · have hd : (cbs l).drop k = cbs (l.drop k) := by unfold cbs; rw [List.map_drop]
    by_cases hc : c = k
    · rw [if_pos hc]
      refine .inr ⟨g, i, cur, rfl, hbg, hg, by omega, by omega, by omega, ?_⟩
      have e : l.drop k = [] := List.eq_nil_of_length_eq_zero (by rw [List.length_drop]; omega)
      rw [e, show n - k = 0 by omega]
      rfl
    · rw [if_neg hc]
      have hadd : (⟨g, i, none⟩ : Addr).add k = ⟨g, i + k, none⟩ := by unfold Addr.add; split <;> simp_all
      refine .inr ⟨g, i + k, cur, by simp only [Option.map_some, hadd], hbg, hg, by omega, by omega, by omega, ?_⟩
      rw [← hd, ← ht, List.drop_take, List.drop_drop]
theorem Que.owner (h : Que w B A n c l) : ∀ k, (Value.slice A n c).ownBlock = some k → B ≤ k ∧ k < w.heap.size := by
  intro k hk
  rcases h.2 with ⟨rfl, _⟩ | ⟨g, i, cur, rfl, hg, hh, r⟩
  · cases hk
  · injection hk with hk
    subst hk
    exact ⟨hg, (Array.getElem?_eq_some_iff.1 hh).1⟩
end
theorem run_appQ {P : Program} (w : World) (B : Nat) (t ty e : TypeId) (ie : TypeInfo) (z : Value) (he : e = 5) (ht : P.underlying t = some (.slice e)) (hi : P.info? e = some ie) (hz : ie.zero = some z)
    (hsize : ie.size = 1) (hby : ie.bytes = 1) (hzs : z.cells.size = 1)
    (A : Option Addr) (n c : Nat) (l : List UInt8) (hown : Que w B A n c l)
    (B2 : Nat) (A2 : Option Addr) (m c2 : Nat) (l2 : List UInt8) (hr : Rd w B2 A2 m c2 l2)
    (hsm : n + m ≤ 140737488355328) (hbase : B ≤ w.heap.size) :
    ∃ A' c' w', (Builtin.append_ #[t, t] ty #[.slice A n c, .slice A2 m c2]).run P w = .ok (.slice A' (n + m) c') w' ∧ Que w' B A' (n + m) c' (l ++ l2) ∧ w.grownBy w' (Value.slice A n c).ownBlock ∧
      ((Value.slice A' (n + m) c').ownBlock = (Value.slice A n c).ownBlock ∨ (Value.slice A' (n + m) c').ownBlock = some w.heap.size) := by
  subst he
  rcases hown.2 with ⟨rfl, rfl, rfl⟩ | ⟨g, i, cur, rfl, hbg, hg, hnc, hcm, hcs, htk⟩
  · have hl : l = [] := List.eq_nil_of_length_eq_zero hown.1
    subst hl
    obtain ⟨A', c', w', h1, h2, h3, h4⟩ := run_app (P := P) w B t ty 5 ie z 1 ht hi hz hsize hby hzs none 0 0 [] (Ov.nil _ _ _) B2 A2 m c2 (cbs l2) hr (cbs_one _) (fits_small (by omega)) (by unfold maxLen; omega) hbase
    refine ⟨A', c', w', h1, Own.que ?_, h3, h4⟩
    unfold Own
    simpa using h2
  · have hrd := hown.rd
    have hxl : (cbs l).length = n * ie.size := by rw [hsize, length_cbs, Nat.mul_one]; exact hown.1
    cases A2 with
    | none =>
      have hc0 : c2 = 0 := hr.2.2.2.1 rfl
      have hm : m = 0 := by have := hr.2.1; omega
      subst hm
      subst hc0
      have hn : l2 = [] := List.eq_nil_of_length_eq_zero hr.len
      subst hn
      refine ⟨_, c, w, ?_, by simpa using hown, World.grownBy.refl w _, Or.inl rfl⟩
      simp [Builtin.append_, run_underlying ht, sizeOf, typeInfo, hi, Builtin.lenOf, Builtin.firstCells, loadCells, storeCells, hnc]
    | some a =>
      have hl : (cbs l2).length = m * ie.size := by rw [hsize, Nat.mul_one]; exact hr.1
      have hnews : ∀ j u, (cbs l2)[j]? = some u → w.cell? (a.add j) = some u := fun j u hu => hr.2.2.2.2.2 a j u rfl hu
      have hl1 : (cbs l2).length = m := hr.1
      by_cases hroom : n + m ≤ c
      · have hf := run_firstCells_some (P := P) w ie.size m a m c2 (cbs l2) hl hnews
        have hst := run_storeCells_at P g (i + n * ie.size) 5 (cbs l2) 0 cur w hg (by rw [hl1, hsize]; omega) (cbs_one _)
        have hadd : (⟨g, i, none⟩ : Addr).add (n * ie.size) = ⟨g, i + n * ie.size, none⟩ := by unfold Addr.add; split <;> simp_all
        have hrun : (Builtin.append_ #[t, t] ty #[.slice (some ⟨g, i, none⟩) n c, .slice (some a) m c2]).run P w = .ok (.slice (some ⟨g, i, none⟩) (n + m) c) (w.setRow g (cur.toList.take (i + n * ie.size) ++ cbs l2 ++ cur.toList.drop (i + n * ie.size + (cbs l2).length)).toArray) := by
          simp only [Nat.add_zero] at hst
          simp [Builtin.append_, run_underlying ht, sizeOf, typeInfo, hi, Builtin.lenOf, hroom, hf, hadd, hst]
        rw [hsize] at hrun
        have hcl : cur.toList.length = cur.size := Array.length_toList
        refine ⟨_, c, _, hrun, ⟨by rw [List.length_append, hown.1, hr.len], .inr ⟨g, i, _, rfl, hbg, setRow_heap w g cur _ _ _ hg, hroom, hcm, ?_, ?_⟩⟩, ⟨rfl, rfl, rfl, by simp, fun k _ hk => setRow_other w g k _ (fun e => hk (by simp [Value.ownBlock, e]))⟩, Or.inl rfl⟩
        · simp only [List.size_toArray, List.length_append, List.length_take, List.length_drop]
          omega
        · simp only [Nat.mul_one, cbs_append]
          rw [← htk]
          have e1 : ((cur.toList.take (i + n) ++ cbs l2 ++ cur.toList.drop (i + n + (cbs l2).length)).drop i) = (cur.toList.drop i).take n ++ cbs l2 ++ cur.toList.drop (i + n + (cbs l2).length) := by
            rw [List.append_assoc, List.drop_append_of_le_length (by rw [List.length_take]; omega), List.drop_take, List.append_assoc, show i + n - i = n by omega]
          rw [e1]
          have e2 : ((cur.toList.drop i).take n ++ cbs l2).length = n + m := by
            rw [List.length_append, hl1, List.length_take, List.length_drop]
            omega
          rw [← e2]
          exact List.take_left
      · have holds : ∀ j u, (cbs l)[j]? = some u → w.cell? ((⟨g, i, none⟩ : Addr).add j) = some u := fun j u hu => hrd.2.2.2.2.2 _ j u rfl hu
        have hr' := run_append_grow (P := P) w t ty 5 ie z ht hi hz ⟨g, i, none⟩ n c (cbs l) hxl holds a m c2 (cbs l2) hl hnews (by omega) (by omega) (by rw [hby]; exact growslice_fits (by omega) (by omega))
        have hge := grownCap_ge w (n + m) c 5
        have hcm2 : grownCap w (n + m) c 5 ≤ maxLen := grownCap_le_maxLen w (n + m) c _ (by unfold maxLen; omega)
        refine ⟨_, _, _, hr', ⟨by rw [List.length_append, hown.1, hr.len], .inr ⟨w.heap.size, 0, _, rfl, hbase, heap_alloc_new w.drew _, hge, by omega, ?_, ?_⟩⟩, ⟨rfl, rfl, rfl, by simp, fun k hk _ => (World.grownBy_alloc w.drew _ none).block k hk (by simp)⟩, Or.inr rfl⟩
        · simp only [Array.size_append, List.size_toArray, size_zeroCells, hzs, hxl, hl, hsize, ← Nat.add_mul]
          omega
        · simp only [Array.toList_append, List.append_assoc, List.drop_zero, cbs_append]
          rw [← List.append_assoc]
          have e2 : (cbs l ++ cbs l2).length = n + m := by rw [List.length_append, hl1, hxl, hsize, Nat.mul_one]
          rw [← e2]
          exact List.take_left
theorem wpList_appQ (w : World) {ops : Array Oper} {rest : List Oper} {o : Oper} {a : Act} {Q : Exit → Act → World → Prop}
    (hg : Region.wanted o (yielded ops a.tmps) = true) (s x : Operand) (hop : o.op = Op.call { callee := Callee.builtin Builtin.append, args := #[s, x], argTypes := #[23, 23] })
    (B : Nat) (A : Option Addr) (n c : Nat) (l : List UInt8) (hs : a.eval s = .slice A n c) (hown : Que w B A n c l)
    (B2 : Nat) (A2 : Option Addr) (m c2 : Nat) (l2 : List UInt8) (hx : a.eval x = .slice A2 m c2) (hr : Rd w B2 A2 m c2 l2)
    (hsm : n + m ≤ 140737488355328) (hbase : B ≤ w.heap.size)
    (hK : ∀ A' c' w', Que w' B A' (n + m) c' (l ++ l2) → w.grownBy w' (Value.slice A n c).ownBlock →
      ((Value.slice A' (n + m) c').ownBlock = (Value.slice A n c).ownBlock ∨ (Value.slice A' (n + m) c').ownBlock = some w.heap.size) → wpList Try.prog ops Q rest (a.put o.dst (.slice A' (n + m) c')) w') :
    wpList Try.prog ops Q (o :: rest) a w := by
  refine wpList_want hg fun K hK' => ?_
  obtain ⟨i0, hi0, hz0, hz1, hz2⟩ := info_parts u8info
  obtain ⟨A', c', w', hrun, r1, r2, r3⟩ := run_appQ (P := Try.prog) w B _ o.type _ i0 _ rfl Try.underlying23 hi0 hz0 hz1 hz2 rfl A n c l hown B2 A2 m c2 l2 hr hsm hbase
  unfold Oper.wp
  simp [execOp, hop, resolve, invoke, builtin, hs, hx, hrun, Result.andThen]
  exact hK' _ _ (hK A' c' w' r1 r2 r3)
end
section
open Go.RowKit
def shapeOf (op : Int) : Nat × Bool × Bool :=
  if op = 0 ∨ op = 4 then (0, true, false) else if op = 1 ∨ op = 2 ∨ op = 3 then (8, true, true) else if op = 5 ∨ op = 6 then (20, true, false)
  else if op = 14 ∨ op = 15 then (0, true, true) else if op = 28 ∨ op = 29 then (4, true, false) else (0, false, false)
def shapeV (op : Int) : Value := .agg #[.int .i64 ((shapeOf op).1 : Int), .bool (shapeOf op).2.1, .bool (shapeOf op).2.2]
set_option maxRecDepth 100000 in
set_option maxHeartbeats 2000000 in
theorem shaped_any (op : Int) (w : World) : Calls Try.prog 85 #[.int .i64 op] w (BoxQ' (shapeV op) w) := by
  by_cases hin : op = 0 ∨ op = 4 ∨ op = 1 ∨ op = 2 ∨ op = 3 ∨ op = 5 ∨ op = 6 ∨ op = 14 ∨ op = 15 ∨ op = 28 ∨ op = 29
  · rcases hin with rfl | rfl | rfl | rfl | rfl | rfl | rfl | rfl | rfl | rfl | rfl
    · skip
      go_enter Try.func85, Try.ntmps85
      go_wp2_with fail
      refine bodyPost_ret (v := shapeV 0) (by simp [results, Try.results85, go_sem, shapeV, shapeOf]) rfl ?_
      exact ⟨rfl, below_a1' (Below.refl _ _) _⟩
    · skip
      go_enter Try.func85, Try.ntmps85
      go_wp2_with fail
      refine bodyPost_ret (v := shapeV 4) (by simp [results, Try.results85, go_sem, shapeV, shapeOf]) rfl ?_
      exact ⟨rfl, below_a1' (Below.refl _ _) _⟩
    · skip
      go_enter Try.func85, Try.ntmps85
      go_wp2_with fail
      refine bodyPost_ret (v := shapeV 1) (by simp [results, Try.results85, go_sem, shapeV, shapeOf]) rfl ?_
      exact ⟨rfl, below_a1' (Below.refl _ _) _⟩
    · skip
      go_enter Try.func85, Try.ntmps85
      go_wp2_with fail
      refine bodyPost_ret (v := shapeV 2) (by simp [results, Try.results85, go_sem, shapeV, shapeOf]) rfl ?_
      exact ⟨rfl, below_a1' (Below.refl _ _) _⟩
    · skip
      go_enter Try.func85, Try.ntmps85
      go_wp2_with fail
      refine bodyPost_ret (v := shapeV 3) (by simp [results, Try.results85, go_sem, shapeV, shapeOf]) rfl ?_
      exact ⟨rfl, below_a1' (Below.refl _ _) _⟩
    · skip
      go_enter Try.func85, Try.ntmps85
      go_wp2_with fail
      refine bodyPost_ret (v := shapeV 5) (by simp [results, Try.results85, go_sem, shapeV, shapeOf]) rfl ?_
      exact ⟨rfl, below_a1' (Below.refl _ _) _⟩
    · skip
      go_enter Try.func85, Try.ntmps85
      go_wp2_with fail
      refine bodyPost_ret (v := shapeV 6) (by simp [results, Try.results85, go_sem, shapeV, shapeOf]) rfl ?_
      exact ⟨rfl, below_a1' (Below.refl _ _) _⟩
    · skip
      go_enter Try.func85, Try.ntmps85
      go_wp2_with fail
      refine bodyPost_ret (v := shapeV 14) (by simp [results, Try.results85, go_sem, shapeV, shapeOf]) rfl ?_
      exact ⟨rfl, below_a1' (Below.refl _ _) _⟩
    · skip
      go_enter Try.func85, Try.ntmps85
      go_wp2_with fail
      refine bodyPost_ret (v := shapeV 15) (by simp [results, Try.results85, go_sem, shapeV, shapeOf]) rfl ?_
      exact ⟨rfl, below_a1' (Below.refl _ _) _⟩
    · skip
      go_enter Try.func85, Try.ntmps85
      go_wp2_with fail
      refine bodyPost_ret (v := shapeV 28) (by simp [results, Try.results85, go_sem, shapeV, shapeOf]) rfl ?_
      exact ⟨rfl, below_a1' (Below.refl _ _) _⟩
    · skip
      go_enter Try.func85, Try.ntmps85
      go_wp2_with fail
      refine bodyPost_ret (v := shapeV 29) (by simp [results, Try.results85, go_sem, shapeV, shapeOf]) rfl ?_
      exact ⟨rfl, below_a1' (Below.refl _ _) _⟩
  · have e : shapeV op = .agg #[.int .i64 0, .bool false, .bool false] := by
      unfold shapeV shapeOf
      rw [if_neg (by omega), if_neg (by omega), if_neg (by omega), if_neg (by omega), if_neg (by omega)]
      rfl
    rw [e]
    have n0 : (op == 0) = false := beq_eq_false_iff_ne.2 (by omega)
    have n1 : (op == 1) = false := beq_eq_false_iff_ne.2 (by omega)
    have n2 : (op == 2) = false := beq_eq_false_iff_ne.2 (by omega)
    have n3 : (op == 3) = false := beq_eq_false_iff_ne.2 (by omega)
    have n4 : (op == 4) = false := beq_eq_false_iff_ne.2 (by omega)
    have n5 : (op == 5) = false := beq_eq_false_iff_ne.2 (by omega)
    have n6 : (op == 6) = false := beq_eq_false_iff_ne.2 (by omega)
    have n14 : (op == 14) = false := beq_eq_false_iff_ne.2 (by omega)
    have n15 : (op == 15) = false := beq_eq_false_iff_ne.2 (by omega)
    have n28 : (op == 28) = false := beq_eq_false_iff_ne.2 (by omega)
    have n29 : (op == 29) = false := beq_eq_false_iff_ne.2 (by omega)
    clear hin
    go_enter Try.func85, Try.ntmps85
    go_wp2_with fail
    refine bodyPost_ret (v := .agg #[.int .i64 0, .bool false, .bool false]) (by simp [results, Try.results85, go_sem]) rfl ?_
    exact ⟨rfl, below_a1' (Below.refl _ _) _⟩
def rowOf (c : Nat) : Option (Nat × Bool × Bool) := (codeT.find? (fun r => r.1 == c)).map (·.2)
theorem rowsT_find (c : Nat) : (rowsT.find? (fun p => p.1 == (c : Int))).map (·.2) = (rowOf c).map fun r => rowV (r.1 : Int) r.2.1 r.2.2 := by
  unfold rowsT rowOf
  rw [List.find?_map]
  have e : ((fun p : Int × Value => p.1 == (c : Int)) ∘ rowP) = fun r => r.1 == c := by
    funext r
    simp only [Function.comp, rowP]
    rw [Bool.eq_iff_iff, beq_iff_eq, beq_iff_eq]
    omega
  rw [e]
  cases codeT.find? (fun r => r.1 == c) <;> rfl
theorem rowsT_one (i j : Nat) (p p' : Int × Value) (hi : rowsT[i]? = some p) (hj : rowsT[j]? = some p') (h : p.1 = p'.1) : p = p' := by
  unfold rowsT at hi hj
  rw [List.getElem?_map] at hi hj
  obtain ⟨r, h1, rfl⟩ := Option.map_eq_some_iff.1 hi
  obtain ⟨r', h2, rfl⟩ := Option.map_eq_some_iff.1 hj
  have e : r.1 = r'.1 := by
    simp only [rowP] at h
    omega
  rw [codeT_codes r (List.mem_of_getElem? h1) r' (List.mem_of_getElem? h2) e]
theorem rowsT_ne : rowsT ≠ [] := by
  intro h
  have := rowsT_len
  rw [h] at this
  cases this
theorem zrow (w : World) : (zeroValue 140).run Try.prog w = .ok (rowV 0 false false) w := by
  first | kernel_rfl | rfl | (simp [zeroValue, typeInfo]; rfl)
theorem wpl_lookYes (w : World) {ops : Array Oper} {rest : List Oper} {o : Oper} {a : Act} {Q : Exit → Act → World → Prop} (hg : o.guard = none) (m x : Operand) (t : TypeId) (hop : o.op = Op.lookup t m x true) (ht : Try.prog.underlying t = some (.map 3 140)) (b c : Nat)
    (hm : a.eval m = .map (some b)) (hb : MapB w .i64 b rowsT) (hx : a.eval x = .int .i64 (c : Int)) (r : Nat) (q f : Bool) (hr : rowOf c = some (r, q, f))
    (hK : wpList Try.prog ops Q rest (a.put o.dst (.tuple #[.agg #[.int .i64 (r : Int), .bool q, .bool f], .bool true])) w) : wpList Try.prog ops Q (o :: rest) a w := by
  refine wpl_lookB w hg m x t hop 3 140 .i64 ht Try.underlying3 b rowsT hm hb rowsT_ne c (rowV 0 false false) hx (fun w => zrow w) rowsT_one _ (rowsT_find c) ?_
  rw [hr]
  exact hK
theorem wpl_lookNo (w : World) {ops : Array Oper} {rest : List Oper} {o : Oper} {a : Act} {Q : Exit → Act → World → Prop} (hg : o.guard = none) (m x : Operand) (t : TypeId) (hop : o.op = Op.lookup t m x true) (ht : Try.prog.underlying t = some (.map 3 140)) (b c : Nat)
    (hm : a.eval m = .map (some b)) (hb : MapB w .i64 b rowsT) (hx : a.eval x = .int .i64 (c : Int)) (hr : rowOf c = none)
    (hK : wpList Try.prog ops Q rest (a.put o.dst (.tuple #[.agg #[.int .i64 0, .bool false, .bool false], .bool false])) w) : wpList Try.prog ops Q (o :: rest) a w := by
  refine wpl_lookB w hg m x t hop 3 140 .i64 ht Try.underlying3 b rowsT hm hb rowsT_ne c (rowV 0 false false) hx (fun w => zrow w) rowsT_one _ (rowsT_find c) ?_
  rw [hr]
  exact hK
theorem grown_far {w w1 w2 : World} {g g' : Nat} (h : w.grownBy w1 (some g)) (h2 : w1.grownBy w2 (some g')) (hf : w.heap.size ≤ g') : w.grownBy w2 (some g) :=
  ⟨h2.os.trans h.os, h2.tape.trans h.tape, h2.output.trans h.output, Nat.le_trans h.size h2.size, fun k hk hne => (h2.block k (Nat.lt_of_lt_of_le hk h.size) (fun e => by injection e with e; omega)).trans (h.block k hk hne)⟩
theorem below_far {w w1 w2 : World} {B g' : Nat} (h : Below B w w1) (h2 : w1.grownBy w2 (some g')) (hf : B ≤ g') (hB : B ≤ w.heap.size) : Below B w w2 :=
  ⟨h2.os.trans h.os, h2.tape.trans h.tape, h2.output.trans h.output, Nat.le_trans h.size h2.size, fun k hk => (h2.block k (Nat.lt_of_lt_of_le (Nat.lt_of_lt_of_le hk hB) h.size) (fun e => by injection e with e; omega)).trans (h.block k hk)⟩
end
section
open Go.RowKit
theorem wrap_small {z : Int} (h0 : -9223372036854775808 ≤ z) (h1 : z < 9223372036854775808) : IntKind.i64.wrap z = z := IntWalk.i64_in _ (by omega)
def ReqQ (op : Int) (qt fu : Bool) (bad : Int) (oq : Nat) (lk lv : List UInt8) (fl ex cs dl ini : Nat) (w : World) (e : Ending) (w' : World) : Prop :=
  ∃ (K V : Option Addr) (nk ck nv cv : Nat), e = .returned (reqV op qt fu bad oq (.slice K nk ck) (.slice V nv cv) fl ex cs dl ini) ∧ Own w' w.heap.size K nk ck lk ∧ Own w' w.heap.size V nv cv lv ∧ Below w.heap.size w w'
def flOf (n : Nat) (l : List UInt8) : Nat := if n = 8 then fld l 0 4 else 0
def exOf (n : Nat) (l : List UInt8) : Nat := if n = 4 then fld l 0 4 else if n = 8 then fld l 4 4 else if n = 20 then fld l 16 4 else 0
def dlOf (n : Nat) (l : List UInt8) : Nat := if n = 20 then fld l 0 8 else 0
def niOf (n : Nat) (l : List UInt8) : Nat := if n = 20 then fld l 8 8 else 0
theorem shaped_at {o : Int} {sx : Nat} {sk sv : Bool} (hs : shapeOf o = (sx, sk, sv)) (w : World) : Calls Try.prog 85 #[.int .i64 o] w (BoxQ' (.agg #[.int .i64 (sx : Nat), .bool sk, .bool sv]) w) := by
  have h := shaped_any o w
  unfold shapeV at h
  rw [hs] at h
  exact h
set_option maxRecDepth 100000 in
set_option maxHeartbeats 4000000 in
theorem preq_unk (mg op kl el ty st bl oq cas : Nat) (X K V : Option Addr) (nx cx nk ck nv cv : Nat) (lx lk lv : List UInt8) (w : World) (rX : Rd w w.heap.size X nx cx lx) (rK : Rd w w.heap.size K nk ck lk) (rV : Rd w w.heap.size V nv cv lv) (hop : op < 256) (hr : rowOf op = none) :
    Calls Try.prog 90 #[frV mg op kl el ty st bl oq cas (.slice X nx cx) (.slice K nk ck) (.slice V nv cv)] w (ReqQ (op : Int) false false 129 oq [] [] 0 0 0 0 0 w) := by
  have HR := Lib.hid hr
  clear hr
  have k1 := (Blk.new w #[.int .u8 (mg : Nat), .int .u8 (op : Nat), .int .u16 (kl : Nat), .int .u8 (el : Nat), .int .u8 (ty : Nat), .int .u16 (st : Nat), .int .u32 (bl : Nat), .int .u32 (oq : Nat), .int .u64 (cas : Nat), .slice X nx cx, .slice K nk ck, .slice V nv cv] 61).alloc (.cells #[.int .i64 0, .bool false, .bool false, .int .i64 0, .int .u32 0, .slice none 0 0, .slice none 0 0, .int .u32 0, .int .u32 0, .int .u64 0, .int .u64 0, .int .u64 0] 26)
  have k2 := Blk.new (w.alloc (.cells #[.int .u8 (mg : Nat), .int .u8 (op : Nat), .int .u16 (kl : Nat), .int .u8 (el : Nat), .int .u8 (ty : Nat), .int .u16 (st : Nat), .int .u32 (bl : Nat), .int .u32 (oq : Nat), .int .u64 (cas : Nat), .slice X nx cx, .slice K nk ck, .slice V nv cv] 61)) #[.int .i64 0, .bool false, .bool false, .int .i64 0, .int .u32 0, .slice none 0 0, .slice none 0 0, .int .u32 0, .int .u32 0, .int .u64 0, .int .u64 0, .int .u64 0] 26
  have b := below_a1' (below_a1' (Below.refl w.heap.size w) (.cells #[.int .u8 (mg : Nat), .int .u8 (op : Nat), .int .u16 (kl : Nat), .int .u8 (el : Nat), .int .u8 (ty : Nat), .int .u16 (st : Nat), .int .u32 (bl : Nat), .int .u32 (oq : Nat), .int .u64 (cas : Nat), .slice X nx cx, .slice K nk ck, .slice V nv cv] 61)) (.cells #[.int .i64 0, .bool false, .bool false, .int .i64 0, .int .u32 0, .slice none 0 0, .slice none 0 0, .int .u32 0, .int .u32 0, .int .u64 0, .int .u64 0, .int .u64 0] 26)
  rw [World.size_alloc] at k2
  unfold frV frC
  go_enter Try.func90, Try.ntmps90
  go_upto_region 1 with fail
  generalize (w.alloc (.cells #[.int .u8 (mg : Nat), .int .u8 (op : Nat), .int .u16 (kl : Nat), .int .u8 (el : Nat), .int .u8 (ty : Nat), .int .u16 (st : Nat), .int .u32 (bl : Nat), .int .u32 (oq : Nat), .int .u64 (cas : Nat), .slice X nx cx, .slice K nk ck, .slice V nv cv] 61)).alloc (.cells #[.int .i64 0, .bool false, .bool false, .int .i64 0, .int .u32 0, .slice none 0 0, .slice none 0 0, .int .u32 0, .int .u32 0, .int .u64 0, .int .u64 0, .int .u64 0] 26) = W0 at k1 k2 b ⊢
  have ho : IntKind.i64.wrap ((op : Nat) : Int) = ((op : Nat) : Int) := wrap_small (by omega) (by omega)
  obtain ⟨p0, p1, p2, p3, p4, p5, p6, p7, p8, p9, p10, p11⟩ := box12 k1
  go_wp2_with fail
  refine (rows_any W0).mono ?_
  rintro e w1 ⟨m, rfl, hm, hge, b1⟩
  replace k1 := k1.step b1
  replace k2 := k2.step b1
  replace b := below_step b b1
  clear b1 ho p0 p1 p2 p3 p4 p5 p6 p7 p8 p9 p10 p11
  go_upto_region 3 with (refine wpl_lookNo _ rfl _ _ _ rfl Try.underlying137 m op rfl hm rfl HR.out ?_)
  have hl2 := k2.lt
  have k4 := Blk.new w1 #[.int .i64 0, .bool false, .bool false] 140
  have b4 := below_a1' (Below.refl w1.heap.size w1) (.cells #[.int .i64 0, .bool false, .bool false] 140)
  replace k1 := k1.step b4
  replace k2 := k2.step b4
  replace b := below_step b b4
  clear hm hge b4
  have hg4 := k2.lt
  generalize hW : w1.alloc (.cells #[.int .i64 0, .bool false, .bool false] 140) = W3 at k1 k2 k4 b hg4 ⊢
  have hs4 : w.heap.size + 2 ≤ w1.heap.size := hl2
  clear hW
  generalize w1.heap.size = g4 at k4 hs4 ⊢
  obtain ⟨p0, p1, p2, p3, p4, p5, p6, p7, p8, p9, p10, p11⟩ := box12 k1
  obtain ⟨x0, x1, x2⟩ := box3 k4
  go_upto_region 4 with fail
  have k6 := Blk.new W3 #[.int .i64 0, .bool false, .bool false, .int .i64 0, .int .u32 (oq : Nat), .slice none 0 0, .slice none 0 0, .int .u32 0, .int .u32 0, .int .u64 0, .int .u64 0, .int .u64 0] 26
  have b4 := below_a1' (Below.refl W3.heap.size W3) (.cells #[.int .i64 0, .bool false, .bool false, .int .i64 0, .int .u32 (oq : Nat), .slice none 0 0, .slice none 0 0, .int .u32 0, .int .u32 0, .int .u64 0, .int .u64 0, .int .u64 0] 26)
  replace k1 := k1.step b4
  replace k2 := k2.step b4
  have hg6 := k4.lt
  replace k4 := k4.step b4
  replace b := below_step b b4
  clear b4 p0 p1 p2 p3 p4 p5 p6 p7 p8 p9 p10 p11 x0 x1 x2
  generalize W3.alloc (.cells #[.int .i64 0, .bool false, .bool false, .int .i64 0, .int .u32 (oq : Nat), .slice none 0 0, .slice none 0 0, .int .u32 0, .int .u32 0, .int .u64 0, .int .u64 0, .int .u64 0] 26) = W6 at k1 k2 k4 k6 b ⊢
  generalize W3.heap.size = g6 at k6 hg6 ⊢
  obtain ⟨p0, p1, p2, p3, p4, p5, p6, p7, p8, p9, p10, p11⟩ := box12 k1
  obtain ⟨x0, x1, x2⟩ := box3 k4
  have y0 := k6.frozen 0
  have y3 := k6.frozen 3
  obtain ⟨z0, z1, z2, z3, z4, z5, z6, z7, z8, z9, z10, z11⟩ := box12 k6
  go_upto_region 6 with fail
  have kq : Blk ((W6.setCell ⟨g6, 0, none⟩ (.int .i64 (op : Nat))).setCell ⟨g6, 3, none⟩ (.int .i64 129)) g6 #[.int .i64 (op : Nat), .bool false, .bool false, .int .i64 129, .int .u32 (oq : Nat), .slice none 0 0, .slice none 0 0, .int .u32 0, .int .u32 0, .int .u64 0, .int .u64 0, .int .u64 0] 26 := (k6.set_ 0 _).set_ 3 _
  have gq := grown_trans (rdr_grown_set W6 g6 0 (.int .i64 (op : Nat))) (rdr_grown_set _ g6 3 (.int .i64 129))
  replace k2 := k2.leftC gq (by omega)
  replace b := b.trans (below_grown gq (by omega) k6.lt)
  clear y0 y3 z0 z1 z2 z3 z4 z5 z6 z7 z8 z9 z10 z11 gq k6 p0 p1 p2 p3 p4 p5 p6 p7 p8 p9 p10 p11 x0 x1 x2
  generalize (W6.setCell ⟨g6, 0, none⟩ (.int .i64 (op : Nat))).setCell ⟨g6, 3, none⟩ (.int .i64 129) = W7 at kq k2 b ⊢
  obtain ⟨z0, z1, z2, z3, z4, z5, z6, z7, z8, z9, z10, z11⟩ := box12 kq
  obtain ⟨u0, u1, u2, u3, u4, u5, u6, u7, u8, u9, u10, u11⟩ := box12 k2
  have y0 := k2.frozen 0
  have y1 := k2.frozen 1
  have y2 := k2.frozen 2
  have y3 := k2.frozen 3
  have y4 := k2.frozen 4
  have y5 := k2.frozen 5
  have y6 := k2.frozen 6
  have y7 := k2.frozen 7
  have y8 := k2.frozen 8
  have y9 := k2.frozen 9
  have y10 := k2.frozen 10
  have y11 := k2.frozen 11
  have kf := blk_set12 k2 (.int .i64 (op : Nat)) (.bool false) (.bool false) (.int .i64 129) (.int .u32 (oq : Nat)) (.slice none 0 0) (.slice none 0 0) (.int .u32 0) (.int .u32 0) (.int .u64 0) (.int .u64 0) (.int .u64 0)
  have gs := grown_set12 W7 (w.heap.size + 1) (.int .i64 (op : Nat)) (.bool false) (.bool false) (.int .i64 129) (.int .u32 (oq : Nat)) (.slice none 0 0) (.slice none 0 0) (.int .u32 0) (.int .u32 0) (.int .u64 0) (.int .u64 0) (.int .u64 0)
  have bf := b.trans (below_grown gs (by omega) k2.lt)
  obtain ⟨t0, t1, t2, t3, t4, t5, t6, t7, t8, t9, t10, t11⟩ := box12 kf
  clear kf gs b k1 k2 kq
  go_wp2_with fail
  refine bodyPost_ret (v := .agg #[.int .i64 (op : Nat), .bool false, .bool false, .int .i64 129, .int .u32 (oq : Nat), .slice none 0 0, .slice none 0 0, .int .u32 0, .int .u32 0, .int .u64 0, .int .u64 0, .int .u64 0]) (by simp [results, Try.results90, go_sem, t0, t1, t2, t3, t4, t5, t6, t7, t8, t9, t10, t11]) rfl ?_
  exact ⟨_, _, _, _, _, _, rfl, Own.nil _ _, Own.nil _ _, bf⟩
set_option maxRecDepth 100000 in
set_option maxHeartbeats 4000000 in
theorem preq_good (mg op kl el ty st bl oq cas : Nat) (X K V : Option Addr) (nx cx nk ck nv cv : Nat) (lx lk lv : List UInt8) (w : World) (rX : Rd w w.heap.size X nx cx lx) (rK : Rd w w.heap.size K nk ck lk) (rV : Rd w w.heap.size V nv cv lv) (hop : op < 256) (o : Nat) (q f : Bool) (hr : rowOf op = some (o, q, f)) (sx : Nat) (sk sv : Bool) (hs : shapeOf (o : Int) = (sx, sk, sv)) (later : Bool) (hl : later = (decide (o = 8) && decide (nx = 4))) (hx : nx = sx ∨ later = true) (hk : decide ((0 : Int) < (nk : Int)) = sk) (hk2 : nk ≤ 250) (hv : 0 < nv → sv = true) (hv2 : nv ≤ 512) (hn : nx = 0 ∨ nx = 4 ∨ nx = 8 ∨ nx = 20) :
    Calls Try.prog 90 #[frV mg op kl el ty st bl oq cas (.slice X nx cx) (.slice K nk ck) (.slice V nv cv)] w (ReqQ (o : Int) q f 0 oq lk lv (flOf nx lx) (exOf nx lx) cas (dlOf nx lx) (niOf nx lx) w) := by
  have HR := Lib.hid hr
  have HL := Lib.hid hl
  have HX := Lib.hid hx
  have HN := Lib.hid hn
  clear hr hl hx hn
  have k1 := (Blk.new w #[.int .u8 (mg : Nat), .int .u8 (op : Nat), .int .u16 (kl : Nat), .int .u8 (el : Nat), .int .u8 (ty : Nat), .int .u16 (st : Nat), .int .u32 (bl : Nat), .int .u32 (oq : Nat), .int .u64 (cas : Nat), .slice X nx cx, .slice K nk ck, .slice V nv cv] 61).alloc (.cells #[.int .i64 0, .bool false, .bool false, .int .i64 0, .int .u32 0, .slice none 0 0, .slice none 0 0, .int .u32 0, .int .u32 0, .int .u64 0, .int .u64 0, .int .u64 0] 26)
  have k2 := Blk.new (w.alloc (.cells #[.int .u8 (mg : Nat), .int .u8 (op : Nat), .int .u16 (kl : Nat), .int .u8 (el : Nat), .int .u8 (ty : Nat), .int .u16 (st : Nat), .int .u32 (bl : Nat), .int .u32 (oq : Nat), .int .u64 (cas : Nat), .slice X nx cx, .slice K nk ck, .slice V nv cv] 61)) #[.int .i64 0, .bool false, .bool false, .int .i64 0, .int .u32 0, .slice none 0 0, .slice none 0 0, .int .u32 0, .int .u32 0, .int .u64 0, .int .u64 0, .int .u64 0] 26
  have b := below_a1' (below_a1' (Below.refl w.heap.size w) (.cells #[.int .u8 (mg : Nat), .int .u8 (op : Nat), .int .u16 (kl : Nat), .int .u8 (el : Nat), .int .u8 (ty : Nat), .int .u16 (st : Nat), .int .u32 (bl : Nat), .int .u32 (oq : Nat), .int .u64 (cas : Nat), .slice X nx cx, .slice K nk ck, .slice V nv cv] 61)) (.cells #[.int .i64 0, .bool false, .bool false, .int .i64 0, .int .u32 0, .slice none 0 0, .slice none 0 0, .int .u32 0, .int .u32 0, .int .u64 0, .int .u64 0, .int .u64 0] 26)
  rw [World.size_alloc] at k2
  unfold frV frC
  go_enter Try.func90, Try.ntmps90
  go_upto_region 1 with fail
  generalize (w.alloc (.cells #[.int .u8 (mg : Nat), .int .u8 (op : Nat), .int .u16 (kl : Nat), .int .u8 (el : Nat), .int .u8 (ty : Nat), .int .u16 (st : Nat), .int .u32 (bl : Nat), .int .u32 (oq : Nat), .int .u64 (cas : Nat), .slice X nx cx, .slice K nk ck, .slice V nv cv] 61)).alloc (.cells #[.int .i64 0, .bool false, .bool false, .int .i64 0, .int .u32 0, .slice none 0 0, .slice none 0 0, .int .u32 0, .int .u32 0, .int .u64 0, .int .u64 0, .int .u64 0] 26) = W0 at k1 k2 b ⊢
  have ho : IntKind.i64.wrap ((op : Nat) : Int) = ((op : Nat) : Int) := wrap_small (by omega) (by omega)
  obtain ⟨p0, p1, p2, p3, p4, p5, p6, p7, p8, p9, p10, p11⟩ := box12 k1
  go_wp2_with fail
  refine (rows_any W0).mono ?_
  rintro e w1 ⟨m, rfl, hm, hge, b1⟩
  replace k1 := k1.step b1
  replace k2 := k2.step b1
  replace b := below_step b b1
  clear b1 ho p0 p1 p2 p3 p4 p5 p6 p7 p8 p9 p10 p11
  go_upto_region 3 with (refine wpl_lookYes _ rfl _ _ _ rfl Try.underlying137 m op rfl hm rfl o q f HR.out ?_)
  have hl2 := k2.lt
  have k4 := Blk.new w1 #[.int .i64 (o : Nat), .bool q, .bool f] 140
  have b4 := below_a1' (Below.refl w1.heap.size w1) (.cells #[.int .i64 (o : Nat), .bool q, .bool f] 140)
  replace k1 := k1.step b4
  replace k2 := k2.step b4
  replace b := below_step b b4
  clear hm hge b4
  have hg4 := k2.lt
  generalize hW : w1.alloc (.cells #[.int .i64 (o : Nat), .bool q, .bool f] 140) = W3 at k1 k2 k4 b hg4 ⊢
  have hs4 : w.heap.size + 2 ≤ w1.heap.size := hl2
  clear hW
  generalize w1.heap.size = g4 at k4 hs4 ⊢
  obtain ⟨p0, p1, p2, p3, p4, p5, p6, p7, p8, p9, p10, p11⟩ := box12 k1
  obtain ⟨x0, x1, x2⟩ := box3 k4
  go_upto_region 4 with fail
  have k6 := Blk.new W3 #[.int .i64 (o : Nat), .bool q, .bool f, .int .i64 0, .int .u32 (oq : Nat), .slice none 0 0, .slice none 0 0, .int .u32 0, .int .u32 0, .int .u64 0, .int .u64 0, .int .u64 0] 26
  have b4 := below_a1' (Below.refl W3.heap.size W3) (.cells #[.int .i64 (o : Nat), .bool q, .bool f, .int .i64 0, .int .u32 (oq : Nat), .slice none 0 0, .slice none 0 0, .int .u32 0, .int .u32 0, .int .u64 0, .int .u64 0, .int .u64 0] 26)
  replace k1 := k1.step b4
  replace k2 := k2.step b4
  have hg6 := k4.lt
  replace k4 := k4.step b4
  replace b := below_step b b4
  clear b4 p0 p1 p2 p3 p4 p5 p6 p7 p8 p9 p10 p11 x0 x1 x2
  generalize W3.alloc (.cells #[.int .i64 (o : Nat), .bool q, .bool f, .int .i64 0, .int .u32 (oq : Nat), .slice none 0 0, .slice none 0 0, .int .u32 0, .int .u32 0, .int .u64 0, .int .u64 0, .int .u64 0] 26) = W6 at k1 k2 k4 k6 b ⊢
  generalize W3.heap.size = g6 at k6 hg6 ⊢
  obtain ⟨p0, p1, p2, p3, p4, p5, p6, p7, p8, p9, p10, p11⟩ := box12 k1
  obtain ⟨x0, x1, x2⟩ := box3 k4
  have HS := Lib.hid (fun W => shaped_at hs W)
  go_wp2_with fail
  refine (HS.out _).mono ?_
  rintro e w7 ⟨rfl, b7⟩
  replace k1 := k1.step b7
  replace k2 := k2.step b7
  have hg4' := k4.lt
  replace k4 := k4.step b7
  replace k6 := k6.step b7
  replace b := below_step b b7
  clear b7 p0 p1 p2 p3 p4 p5 p6 p7 p8 p9 p10 p11 x0 x1 x2
  go_upto_region 8 with fail
  have k7 := Blk.new w7 #[.int .i64 (sx : Nat), .bool sk, .bool sv] 131
  have b4 := below_a1' (Below.refl w7.heap.size w7) (.cells #[.int .i64 (sx : Nat), .bool sk, .bool sv] 131)
  have hg7 := k6.lt
  replace k1 := k1.step b4
  replace k2 := k2.step b4
  replace k4 := k4.step b4
  replace k6 := k6.step b4
  replace b := below_step b b4
  clear b4
  generalize w7.alloc (.cells #[.int .i64 (sx : Nat), .bool sk, .bool sv] 131) = W8 at k1 k2 k4 k6 k7 b ⊢
  generalize w7.heap.size = g7 at k7 hg7 ⊢
  obtain ⟨p0, p1, p2, p3, p4, p5, p6, p7, p8, p9, p10, p11⟩ := box12 k1
  obtain ⟨x0, x1, x2⟩ := box3 k4
  obtain ⟨s0, s1, s2⟩ := box3 k7
  go_cut [8] (fun s8 wx => s8 = .bool later ∧ W8 = wx)
  case first =>
    by_cases h8 : o = 8
    · subst h8
      by_cases h4 : nx = 4
      · have HL2 : Hid (later = true) := Lib.hid (by rw [HL.out, h4]; rfl)
        have e4 : ((nx : Int) == 4) = true := beq_iff_eq.2 (by omega)
        clear h4
        go_wp2_with fail
        go_meet
        exact ⟨by rw [HL2.out], rfl⟩
      · have HL2 : Hid (later = false) := Lib.hid (by rw [HL.out, decide_eq_false h4]; rfl)
        have e4 : ((nx : Int) == 4) = false := beq_eq_false_iff_ne.2 (by omega)
        clear h4
        go_wp2_with fail
        go_meet
        exact ⟨by rw [HL2.out], rfl⟩
    · have HL2 : Hid (later = false) := Lib.hid (by rw [HL.out, decide_eq_false h8]; rfl)
      have e8 : ((o : Int) == 8) = false := beq_eq_false_iff_ne.2 (by omega)
      clear h8
      go_wp2_with fail
      go_meet
      exact ⟨by rw [HL2.out], rfl⟩
  case rest =>
    obtain ⟨rfl, rfl⟩ := hcut
    go_upto_region 9 with fail
    go_cut [48] (fun s48 wx => s48 = .bool false ∧ W8 = wx)
    case first =>
      cases hlt : later with
      | true =>
        subst hlt
        by_cases hn : nx = sx
        · have e9 : ((nx : Int) != (sx : Int)) = false := bne_eq_false_iff_eq.2 (by omega)
          clear hn
          go_wp2_with fail
          go_meet
          exact ⟨rfl, rfl⟩
        · have e9 : ((nx : Int) != (sx : Int)) = true := bne_iff_ne.2 (by omega)
          clear hn
          go_wp2_with fail
          go_meet
          exact ⟨rfl, rfl⟩
      | false =>
        subst hlt
        have e9 : ((nx : Int) != (sx : Int)) = false := bne_eq_false_iff_eq.2 (by rcases HX.out with h | h; omega; cases h)
        go_wp2_with fail
        go_meet
        exact ⟨rfl, rfl⟩
    case rest =>
      obtain ⟨rfl, rfl⟩ := hcut
      have HK := Lib.hid hk
      have HV := Lib.hid hv
      have HK2 := Lib.hid hk2
      have HV2 := Lib.hid hv2
      clear hk hv hk2 hv2
      go_upto_region 10 with fail
      go_cut [48] (fun s48 wx => s48 = .bool false ∧ W8 = wx)
      case first =>
        by_cases h0 : (0 : Int) < (nk : Int)
        · have ev : ((0 : Int) < (nk : Int)) = True := eq_true h0
          have ev' : (0 < nk) = True := eq_true (by omega)
          obtain rfl : true = sk := by rw [← HK.out, decide_eq_true h0]
          clear h0
          go_wp2_with fail
          go_meet
          exact ⟨rfl, rfl⟩
        · have ev : ((0 : Int) < (nk : Int)) = False := eq_false h0
          have ev' : (0 < nk) = False := eq_false (by omega)
          obtain rfl : false = sk := by rw [← HK.out, decide_eq_false h0]
          clear h0
          go_wp2_with fail
          go_meet
          exact ⟨rfl, rfl⟩
      case rest =>
       obtain ⟨rfl, rfl⟩ := hcut
       have ek2 : ((250 : Int) < (nk : Int)) = False := eq_false (by have := HK2.out; omega)
       have ev2 : ((512 : Int) < (nv : Int)) = False := eq_false (by have := HV2.out; omega)
       go_upto_region 12 with fail
       go_cut [48] (fun s48 wx => s48 = .bool false ∧ W8 = wx)
       case first =>
        by_cases h0 : (0 : Int) < (nv : Int)
        · have ev : ((0 : Int) < (nv : Int)) = True := eq_true h0
          have ev' : (0 < nv) = True := eq_true (by omega)
          obtain rfl : sv = true := HV.out (by omega)
          clear h0
          go_wp2_with fail
          go_meet
          exact ⟨rfl, rfl⟩
        · have ev : ((0 : Int) < (nv : Int)) = False := eq_false h0
          have ev' : (0 < nv) = False := eq_false (by omega)
          clear h0
          go_wp2_with fail
          go_meet
          exact ⟨rfl, rfl⟩
       case rest =>
        obtain ⟨rfl, rfl⟩ := hcut
        go_upto_region 18 with fail
        have hk2 := HK2.out
        have hv2 := HV2.out
        clear p0 p1 p2 p3 p4 p5 p6 p7 p8 p9 p10 p11 x0 x1 x2 s0 s1 s2 ek2 ev2
        go_cut [] (fun wx => ∃ (K2 V2 : Option Addr) (ck2 cv2 : Nat), Blk wx g6 #[.int .i64 (o : Nat), .bool q, .bool f, .int .i64 0, .int .u32 (oq : Nat), .slice K2 nk ck2, .slice V2 nv cv2, .int .u32 0, .int .u32 0, .int .u64 (cas : Nat), .int .u64 0, .int .u64 0] 26 ∧ Blk wx w.heap.size #[.int .u8 (mg : Nat), .int .u8 (op : Nat), .int .u16 (kl : Nat), .int .u8 (el : Nat), .int .u8 (ty : Nat), .int .u16 (st : Nat), .int .u32 (bl : Nat), .int .u32 (oq : Nat), .int .u64 (cas : Nat), .slice X nx cx, .slice K nk ck, .slice V nv cv] 61 ∧ Blk wx (w.heap.size + 1) #[.int .i64 0, .bool false, .bool false, .int .i64 0, .int .u32 0, .slice none 0 0, .slice none 0 0, .int .u32 0, .int .u32 0, .int .u64 0, .int .u64 0, .int .u64 0] 26 ∧ Own wx (g6 + 1) K2 nk ck2 lk ∧ Own wx (g6 + 1) V2 nv cv2 lv ∧ Below w.heap.size w wx)
        case first =>
          refine wp_region_noPanic ?_
          refine region_T (fun wx => wx.cell? ⟨w.heap.size, 0, none⟩ = some (.int .u8 (mg : Nat)) ∧ wx.cell? ⟨w.heap.size, 1, none⟩ = some (.int .u8 (op : Nat)) ∧ wx.cell? ⟨w.heap.size, 2, none⟩ = some (.int .u16 (kl : Nat)) ∧ wx.cell? ⟨w.heap.size, 3, none⟩ = some (.int .u8 (el : Nat)) ∧ wx.cell? ⟨w.heap.size, 4, none⟩ = some (.int .u8 (ty : Nat)) ∧ wx.cell? ⟨w.heap.size, 5, none⟩ = some (.int .u16 (st : Nat)) ∧ wx.cell? ⟨w.heap.size, 6, none⟩ = some (.int .u32 (bl : Nat)) ∧ wx.cell? ⟨w.heap.size, 7, none⟩ = some (.int .u32 (oq : Nat)) ∧ wx.cell? ⟨w.heap.size, 8, none⟩ = some (.int .u64 (cas : Nat)) ∧ wx.cell? ⟨w.heap.size, 9, none⟩ = some (.slice X nx cx) ∧ wx.cell? ⟨w.heap.size, 10, none⟩ = some (.slice K nk ck) ∧ wx.cell? ⟨w.heap.size, 11, none⟩ = some (.slice V nv cv)) 15 (by kernel_rfl) ?_
          have bD : Below W8.heap.size W8 W8.drew := (Below.refl _ _).drew
          have k1 := k1.step bD
          have k2 := k2.step bD
          have k6 := k6.step bD
          have b := below_step b bD
          have hHeld := box12 k1
          clear bD k4 k7
          generalize W8.drew = Y0 at b hHeld k1 k2 k6 ⊢
          refine takeA (i := 0) (v := ?_) rfl (fun _ _ _ h => h) (Or.inl ⟨by rfl, ?_⟩) hHeld ?_
          rotate_left
          · (intro wx hSw; obtain ⟨a0, a1, a2, a3, a4, a5, a6, a7, a8, a9, a10, a11⟩ := hSw; go_simp; try (with_reducible rfl))
          try simp only [Act.put, List.setIfInBounds_toArray, List.set_cons_zero, List.set_cons_succ]
          refine takeA (i := 1) (v := ?_) rfl (fun _ _ _ h => h) (Or.inl ⟨by rfl, ?_⟩) hHeld ?_
          rotate_left
          · (intro wx hSw; obtain ⟨a0, a1, a2, a3, a4, a5, a6, a7, a8, a9, a10, a11⟩ := hSw; go_simp; try (with_reducible rfl))
          try simp only [Act.put, List.setIfInBounds_toArray, List.set_cons_zero, List.set_cons_succ]
          refine takeA (i := 2) (v := ?_) rfl (fun _ _ _ h => h) (Or.inl ⟨by rfl, ?_⟩) hHeld ?_
          rotate_left
          · (intro wx hSw; obtain ⟨a0, a1, a2, a3, a4, a5, a6, a7, a8, a9, a10, a11⟩ := hSw; go_simp; try (with_reducible rfl))
          try simp only [Act.put, List.setIfInBounds_toArray, List.set_cons_zero, List.set_cons_succ]
          refine takeA (i := 3) (v := ?_) rfl (fun _ _ _ h => h) (Or.inl ⟨by rfl, ?_⟩) hHeld ?_
          rotate_left
          · (intro wx hSw; obtain ⟨a0, a1, a2, a3, a4, a5, a6, a7, a8, a9, a10, a11⟩ := hSw; go_simp; try (with_reducible rfl))
          try simp only [Act.put, List.setIfInBounds_toArray, List.set_cons_zero, List.set_cons_succ]
          refine takeA (i := 4) (v := ?_) rfl (fun _ _ _ h => h) (Or.inl ⟨by rfl, ?_⟩) hHeld ?_
          rotate_left
          · (intro wx hSw; obtain ⟨a0, a1, a2, a3, a4, a5, a6, a7, a8, a9, a10, a11⟩ := hSw; go_simp; try (with_reducible rfl))
          try simp only [Act.put, List.setIfInBounds_toArray, List.set_cons_zero, List.set_cons_succ]
          refine takeA (i := 6) (v := ?_) rfl (fun _ _ _ h => h) (Or.inl ⟨by rfl, ?_⟩) hHeld ?_
          rotate_left
          · (intro wx hSw; obtain ⟨a0, a1, a2, a3, a4, a5, a6, a7, a8, a9, a10, a11⟩ := hSw; go_simp; try (with_reducible rfl))
          try simp only [Act.put, List.setIfInBounds_toArray, List.set_cons_zero, List.set_cons_succ]
          refine takeA (i := 7) (v := ?_) rfl (fun _ _ _ h => h) (Or.inl ⟨by rfl, ?_⟩) hHeld ?_
          rotate_left
          · (intro wx hSw; obtain ⟨a0, a1, a2, a3, a4, a5, a6, a7, a8, a9, a10, a11⟩ := hSw; go_simp; try (with_reducible rfl))
          try simp only [Act.put, List.setIfInBounds_toArray, List.set_cons_zero, List.set_cons_succ]
          refine takeA (i := 9) (v := ?_) rfl (fun _ _ _ h => h) (Or.inl ⟨by rfl, ?_⟩) hHeld ?_
          rotate_left
          · (intro wx hSw; obtain ⟨a0, a1, a2, a3, a4, a5, a6, a7, a8, a9, a10, a11⟩ := hSw; go_simp; try (with_reducible rfl))
          try simp only [Act.put, List.setIfInBounds_toArray, List.set_cons_zero, List.set_cons_succ]
          refine oneT (i := 5) rfl (by kernel_rfl) (fun KK hK => ?_)
          go_simp
          have lt6 := k6.lt
          refine (clone_any K nk ck w.heap.size lk Y0 (rK.below b) b.size (by omega)).mono ?_
          rintro e Y1 ⟨K2, ck2, rfl, oK, b1⟩
          replace oK : Own Y1 (g6 + 1) _ _ _ _ := oK.more (by omega)
          have k1 := k1.step b1
          have k2 := k2.step b1
          have k6 := k6.step b1
          have b := below_step b b1
          have hHeld := box12 k1
          refine hK.out _ _ (fun _ => hHeld) ?_
          clear hK KK
          try simp only [Act.put, List.setIfInBounds_toArray, List.set_cons_zero, List.set_cons_succ]
          refine oneT (i := 8) rfl (by kernel_rfl) (fun KK hK => ?_)
          go_simp
          have lt6 := k6.lt
          refine (clone_any V nv cv w.heap.size lv Y1 (rV.below b) b.size (by omega)).mono ?_
          rintro e Y2 ⟨V2, cv2, rfl, oV, b1⟩
          replace oV : Own Y2 (g6 + 1) _ _ _ _ := oV.more (by omega)
          have k1 := k1.step b1
          have k2 := k2.step b1
          have k6 := k6.step b1
          have oK := Own.step oK b1
          have b := below_step b b1
          have hHeld := box12 k1
          refine hK.out _ _ (fun _ => hHeld) ?_
          clear hK KK
          try simp only [Act.put, List.setIfInBounds_toArray, List.set_cons_zero, List.set_cons_succ]
          obtain ⟨z0, z1, z2, z3, z4, z5, z6, z7, z8, z9, z10, z11⟩ := box12 k6
          have y9 := k6.frozen 9
          have y5 := k6.frozen 5
          have y6 := k6.frozen 6
          have ne : w.heap.size ≠ g6 := by omega
          refine oneT (i := 10) rfl (by kernel_rfl) (fun KK hK => ?_)
          go_simp
          have hHeld := box12 (k1.far (p := ⟨g6, 9, none⟩) ne (.int .u64 (cas : Nat)))
          refine hK.out _ _ (fun _ => hHeld) ?_
          clear hK KK
          try simp only [Act.put, List.setIfInBounds_toArray, List.set_cons_zero, List.set_cons_succ]
          refine takeA (i := 11) (v := ?_) rfl (fun _ _ _ h => h) (Or.inl ⟨by rfl, ?_⟩) hHeld ?_
          rotate_left
          · (intro wx hSw; obtain ⟨a0, a1, a2, a3, a4, a5, a6, a7, a8, a9, a10, a11⟩ := hSw; go_simp; try (with_reducible rfl))
          try simp only [Act.put, List.setIfInBounds_toArray, List.set_cons_zero, List.set_cons_succ]
          refine oneT (i := 12) rfl (by kernel_rfl) (fun KK hK => ?_)
          go_simp
          have hHeld := box12 ((k1.far (p := ⟨g6, 9, none⟩) ne (.int .u64 (cas : Nat))).far (p := ⟨g6, 5, none⟩) ne (.slice K2 nk ck2))
          refine hK.out _ _ (fun _ => hHeld) ?_
          clear hK KK
          try simp only [Act.put, List.setIfInBounds_toArray, List.set_cons_zero, List.set_cons_succ]
          refine takeA (i := 13) (v := ?_) rfl (fun _ _ _ h => h) (Or.inl ⟨by rfl, ?_⟩) hHeld ?_
          rotate_left
          · (intro wx hSw; obtain ⟨a0, a1, a2, a3, a4, a5, a6, a7, a8, a9, a10, a11⟩ := hSw; go_simp; try (with_reducible rfl))
          try simp only [Act.put, List.setIfInBounds_toArray, List.set_cons_zero, List.set_cons_succ]
          refine oneT (i := 14) rfl (by kernel_rfl) (fun KK hK => ?_)
          go_simp
          have hHeld := box12 (((k1.far (p := ⟨g6, 9, none⟩) ne (.int .u64 (cas : Nat))).far (p := ⟨g6, 5, none⟩) ne (.slice K2 nk ck2)).far (p := ⟨g6, 6, none⟩) ne (.slice V2 nv cv2))
          refine hK.out _ _ (fun _ => hHeld) ?_
          clear hK KK
          try simp only [Act.put, List.setIfInBounds_toArray, List.set_cons_zero, List.set_cons_succ]
          refine doneT (by kernel_rfl) ?_ _
          refine NoPanic.normal ?_
          go_wp2_with fail
          go_meet
          have gs := grown_trans (grown_trans (rdr_grown_set Y2 g6 9 (.int .u64 (cas : Nat))) (rdr_grown_set _ g6 5 (.slice K2 nk ck2))) (rdr_grown_set _ g6 6 (.slice V2 nv cv2))
          exact ⟨K2, V2, ck2, cv2, ((k6.set_ 9 _).set_ 5 _).set_ 6 _, (((k1.far (p := ⟨g6, 9, none⟩) ne (.int .u64 (cas : Nat))).far (p := ⟨g6, 5, none⟩) ne (.slice K2 nk ck2)).far (p := ⟨g6, 6, none⟩) ne (.slice V2 nv cv2)), k2.leftC gs (by omega), oK.kept gs (by omega), oV.kept gs (by omega), b.trans (below_grown gs (by omega) k6.lt)⟩
        case rest =>
          obtain ⟨K2, V2, ck2, cv2, kq, k1, k2, oK, oV, b⟩ := hcut
          clear k6 k4 k7
          have G := World.grownBy.refl wc (some g6)
          obtain ⟨p0, p1, p2, p3, p4, p5, p6, p7, p8, p9, p10, p11⟩ := box12 k1
          go_wp2_with fail
          have lq := kq.lt
          have lb := b.size
          refine (read_any X nx cx w.heap.size lx wc (rX.below b) b.size (by have := HN.out; omega)).mono ?_
          rintro e w9 ⟨gR, rfl, hR, b9⟩
          replace kq := kq.step b9
          replace k1 := k1.step b9
          replace k2 := k2.step b9
          replace b := below_step b b9
          replace G := grown_below G b9
          clear b9 p0 p1 p2 p3 p4 p5 p6 p7 p8 p9 p10 p11
          have hge := hR.ge
          generalize hB9 : wc.heap.size = B9 at hR hge lq lb
          obtain ⟨p0, p1, p2, p3, p4, p5, p6, p7, p8, p9, p10, p11⟩ := box12 k1
          rcases HN.out with h | h | h | h
          · have e8 : ((nx : Int) == 8) = false := beq_eq_false_iff_ne.2 (by omega)
            have e20 : ((nx : Int) == 20) = false := beq_eq_false_iff_ne.2 (by omega)
            have e0 : ((0 : Int) < (nx : Int)) = False := eq_false (by omega)
            have e0' : (0 < nx) = False := eq_false (by omega)
            have EQF : Hid (flOf nx lx = 0 ∧ exOf nx lx = 0 ∧ dlOf nx lx = 0 ∧ niOf nx lx = 0) := Lib.hid (by subst h; exact ⟨rfl, rfl, rfl, rfl⟩)
            have HNX := Lib.hid h
            clear h
            go_upto_region 27 with fail
            obtain ⟨z0, z1, z2, z3, z4, z5, z6, z7, z8, z9, z10, z11⟩ := box12 kq
            obtain ⟨u0, u1, u2, u3, u4, u5, u6, u7, u8, u9, u10, u11⟩ := box12 k2
            have y0 := k2.frozen 0
            have y1 := k2.frozen 1
            have y2 := k2.frozen 2
            have y3 := k2.frozen 3
            have y4 := k2.frozen 4
            have y5 := k2.frozen 5
            have y6 := k2.frozen 6
            have y7 := k2.frozen 7
            have y8 := k2.frozen 8
            have y9 := k2.frozen 9
            have y10 := k2.frozen 10
            have y11 := k2.frozen 11
            have kf := blk_set12 k2 (.int .i64 (o : Nat)) (.bool q) (.bool f) (.int .i64 0) (.int .u32 (oq : Nat)) (.slice K2 nk ck2) (.slice V2 nv cv2) (.int .u32 0) (.int .u32 0) (.int .u64 (cas : Nat)) (.int .u64 0) (.int .u64 0)
            have gs := grown_set12 w9 (w.heap.size + 1) (.int .i64 (o : Nat)) (.bool q) (.bool f) (.int .i64 0) (.int .u32 (oq : Nat)) (.slice K2 nk ck2) (.slice V2 nv cv2) (.int .u32 0) (.int .u32 0) (.int .u64 (cas : Nat)) (.int .u64 0) (.int .u64 0)
            have bf := b.trans (below_grown gs (by omega) k2.lt)
            obtain ⟨t0, t1, t2, t3, t4, t5, t6, t7, t8, t9, t10, t11⟩ := box12 kf
            have oKf := ((oK.kept G (by omega)).kept gs (by omega)).more (B' := w.heap.size) (by omega)
            have oVf := ((oV.kept G (by omega)).kept gs (by omega)).more (B' := w.heap.size) (by omega)
            clear kf gs b k1 k2 kq
            go_wp2_with fail
            refine bodyPost_ret (v := .agg #[.int .i64 (o : Nat), .bool q, .bool f, .int .i64 0, .int .u32 (oq : Nat), .slice K2 nk ck2, .slice V2 nv cv2, .int .u32 0, .int .u32 0, .int .u64 (cas : Nat), .int .u64 0, .int .u64 0]) (by simp [results, Try.results90, go_sem, t0, t1, t2, t3, t4, t5, t6, t7, t8, t9, t10, t11]) rfl ?_
            exact ⟨_, _, _, _, _, _, (by first | (rw [EQF.out.1, EQF.out.2.1, EQF.out.2.2.1, EQF.out.2.2.2]; done) | (rw [EQF.out.1, EQF.out.2.1, EQF.out.2.2.1, EQF.out.2.2.2]; rfl)), oKf, oVf, bf⟩
          · have e8 : ((nx : Int) == 8) = false := beq_eq_false_iff_ne.2 (by omega)
            have e20 : ((nx : Int) == 20) = false := beq_eq_false_iff_ne.2 (by omega)
            have e0 : ((0 : Int) < (nx : Int)) = True := eq_true (by omega)
            have e0' : (0 < nx) = True := eq_true (by omega)
            have EQF : Hid (flOf nx lx = 0 ∧ exOf nx lx = fld lx 0 4 ∧ dlOf nx lx = 0 ∧ niOf nx lx = 0) := Lib.hid (by subst h; exact ⟨rfl, rfl, rfl, rfl⟩)
            have HNX := Lib.hid h
            clear h
            go_wp2_with fail
            refine (u32_at lx 0 (fld lx 0 4) rfl gR B9 _ hR (by have := rX.len; have := HNX.out; omega)).mono ?_
            rintro e w12 ⟨rfl, hR, gg⟩
            replace kq := kq.leftC gg (by omega)
            replace k1 := k1.leftC gg (by omega)
            replace k2 := k2.leftC gg (by omega)
            replace b := below_far b gg (by omega) (Nat.le_refl _)
            replace G := grown_far G gg (by omega)
            clear gg p0 p1 p2 p3 p4 p5 p6 p7 p8 p9 p10 p11
            have y := kq.frozen 8
            obtain ⟨z0, z1, z2, z3, z4, z5, z6, z7, z8, z9, z10, z11⟩ := box12 kq
            go_upto_region 27 with fail
            clear z0 z1 z2 z3 z4 z5 z6 z7 z8 z9 z10 z11
            have gq := rdr_grown_set w12 g6 8 (.int .u32 (fld lx 0 4 : Nat))
            replace k1 := k1.leftC gq (by omega)
            replace k2 := k2.leftC gq (by omega)
            replace hR := hR.kept gq (by omega)
            replace b := b.trans (below_grown gq (by omega) kq.lt)
            replace G := grown_trans G gq
            replace kq : Blk (w12.setCell ⟨g6, 8, none⟩ (.int .u32 (fld lx 0 4 : Nat))) g6 #[.int .i64 (o : Nat), .bool q, .bool f, .int .i64 0, .int .u32 (oq : Nat), .slice K2 nk ck2, .slice V2 nv cv2, .int .u32 0, .int .u32 (fld lx 0 4 : Nat), .int .u64 (cas : Nat), .int .u64 0, .int .u64 0] 26 := kq.set_ 8 _
            clear gq y
            generalize w12.setCell ⟨g6, 8, none⟩ (.int .u32 (fld lx 0 4 : Nat)) = W12 at kq k1 k2 hR b G ⊢
            obtain ⟨p0, p1, p2, p3, p4, p5, p6, p7, p8, p9, p10, p11⟩ := box12 k1
            obtain ⟨z0, z1, z2, z3, z4, z5, z6, z7, z8, z9, z10, z11⟩ := box12 kq
            obtain ⟨u0, u1, u2, u3, u4, u5, u6, u7, u8, u9, u10, u11⟩ := box12 k2
            have y0 := k2.frozen 0
            have y1 := k2.frozen 1
            have y2 := k2.frozen 2
            have y3 := k2.frozen 3
            have y4 := k2.frozen 4
            have y5 := k2.frozen 5
            have y6 := k2.frozen 6
            have y7 := k2.frozen 7
            have y8 := k2.frozen 8
            have y9 := k2.frozen 9
            have y10 := k2.frozen 10
            have y11 := k2.frozen 11
            have kf := blk_set12 k2 (.int .i64 (o : Nat)) (.bool q) (.bool f) (.int .i64 0) (.int .u32 (oq : Nat)) (.slice K2 nk ck2) (.slice V2 nv cv2) (.int .u32 0) (.int .u32 (fld lx 0 4 : Nat)) (.int .u64 (cas : Nat)) (.int .u64 0) (.int .u64 0)
            have gs := grown_set12 W12 (w.heap.size + 1) (.int .i64 (o : Nat)) (.bool q) (.bool f) (.int .i64 0) (.int .u32 (oq : Nat)) (.slice K2 nk ck2) (.slice V2 nv cv2) (.int .u32 0) (.int .u32 (fld lx 0 4 : Nat)) (.int .u64 (cas : Nat)) (.int .u64 0) (.int .u64 0)
            have bf := b.trans (below_grown gs (by omega) k2.lt)
            obtain ⟨t0, t1, t2, t3, t4, t5, t6, t7, t8, t9, t10, t11⟩ := box12 kf
            have oKf := ((oK.kept G (by omega)).kept gs (by omega)).more (B' := w.heap.size) (by omega)
            have oVf := ((oV.kept G (by omega)).kept gs (by omega)).more (B' := w.heap.size) (by omega)
            clear kf gs b k1 k2 kq
            go_wp2_with fail
            refine bodyPost_ret (v := .agg #[.int .i64 (o : Nat), .bool q, .bool f, .int .i64 0, .int .u32 (oq : Nat), .slice K2 nk ck2, .slice V2 nv cv2, .int .u32 0, .int .u32 (fld lx 0 4 : Nat), .int .u64 (cas : Nat), .int .u64 0, .int .u64 0]) (by simp [results, Try.results90, go_sem, t0, t1, t2, t3, t4, t5, t6, t7, t8, t9, t10, t11]) rfl ?_
            exact ⟨_, _, _, _, _, _, (by first | (rw [EQF.out.1, EQF.out.2.1, EQF.out.2.2.1, EQF.out.2.2.2]; done) | (rw [EQF.out.1, EQF.out.2.1, EQF.out.2.2.1, EQF.out.2.2.2]; rfl)), oKf, oVf, bf⟩
          · have e8 : ((nx : Int) == 8) = true := beq_iff_eq.2 (by omega)
            have e20 : ((nx : Int) == 20) = false := beq_eq_false_iff_ne.2 (by omega)
            have e0 : ((0 : Int) < (nx : Int)) = True := eq_true (by omega)
            have e0' : (0 < nx) = True := eq_true (by omega)
            have EQF : Hid (flOf nx lx = fld lx 0 4 ∧ exOf nx lx = fld lx 4 4 ∧ dlOf nx lx = 0 ∧ niOf nx lx = 0) := Lib.hid (by subst h; exact ⟨rfl, rfl, rfl, rfl⟩)
            have HNX := Lib.hid h
            clear h
            have y := kq.frozen 7
            go_upto_region 22 with fail
            go_wp2_with fail
            refine (u32_at lx 0 (fld lx 0 4) rfl gR B9 _ hR (by have := rX.len; have := HNX.out; omega)).mono ?_
            rintro e w10 ⟨rfl, hR, gg⟩
            replace kq := kq.leftC gg (by omega)
            replace k1 := k1.leftC gg (by omega)
            replace k2 := k2.leftC gg (by omega)
            replace b := below_far b gg (by omega) (Nat.le_refl _)
            replace G := grown_far G gg (by omega)
            clear gg p0 p1 p2 p3 p4 p5 p6 p7 p8 p9 p10 p11
            have y := kq.frozen 7
            have lk6 := kq.lt
            obtain ⟨z0, z1, z2, z3, z4, z5, z6, z7, z8, z9, z10, z11⟩ := box12 kq
            go_upto_region 25 with fail
            clear z0 z1 z2 z3 z4 z5 z6 z7 z8 z9 z10 z11
            have gq := rdr_grown_set w10 g6 7 (.int .u32 (fld lx 0 4 : Nat))
            replace k1 := k1.leftC gq (by omega)
            replace k2 := k2.leftC gq (by omega)
            replace hR := hR.kept gq (by omega)
            replace b := b.trans (below_grown gq (by omega) kq.lt)
            replace G := grown_trans G gq
            replace kq : Blk (w10.setCell ⟨g6, 7, none⟩ (.int .u32 (fld lx 0 4 : Nat))) g6 #[.int .i64 (o : Nat), .bool q, .bool f, .int .i64 0, .int .u32 (oq : Nat), .slice K2 nk ck2, .slice V2 nv cv2, .int .u32 (fld lx 0 4 : Nat), .int .u32 0, .int .u64 (cas : Nat), .int .u64 0, .int .u64 0] 26 := kq.set_ 7 _
            clear gq y
            generalize w10.setCell ⟨g6, 7, none⟩ (.int .u32 (fld lx 0 4 : Nat)) = W10 at kq k1 k2 hR b G ⊢
            obtain ⟨p0, p1, p2, p3, p4, p5, p6, p7, p8, p9, p10, p11⟩ := box12 k1
            go_wp2_with fail
            refine (u32_at lx 4 (fld lx 4 4) rfl gR B9 _ hR (by have := rX.len; have := HNX.out; omega)).mono ?_
            rintro e w12 ⟨rfl, hR, gg⟩
            replace kq := kq.leftC gg (by omega)
            replace k1 := k1.leftC gg (by omega)
            replace k2 := k2.leftC gg (by omega)
            replace b := below_far b gg (by omega) (Nat.le_refl _)
            replace G := grown_far G gg (by omega)
            clear gg p0 p1 p2 p3 p4 p5 p6 p7 p8 p9 p10 p11
            have y := kq.frozen 8
            obtain ⟨z0, z1, z2, z3, z4, z5, z6, z7, z8, z9, z10, z11⟩ := box12 kq
            go_upto_region 27 with fail
            clear z0 z1 z2 z3 z4 z5 z6 z7 z8 z9 z10 z11
            have gq := rdr_grown_set w12 g6 8 (.int .u32 (fld lx 4 4 : Nat))
            replace k1 := k1.leftC gq (by omega)
            replace k2 := k2.leftC gq (by omega)
            replace hR := hR.kept gq (by omega)
            replace b := b.trans (below_grown gq (by omega) kq.lt)
            replace G := grown_trans G gq
            replace kq : Blk (w12.setCell ⟨g6, 8, none⟩ (.int .u32 (fld lx 4 4 : Nat))) g6 #[.int .i64 (o : Nat), .bool q, .bool f, .int .i64 0, .int .u32 (oq : Nat), .slice K2 nk ck2, .slice V2 nv cv2, .int .u32 (fld lx 0 4 : Nat), .int .u32 (fld lx 4 4 : Nat), .int .u64 (cas : Nat), .int .u64 0, .int .u64 0] 26 := kq.set_ 8 _
            clear gq y
            generalize w12.setCell ⟨g6, 8, none⟩ (.int .u32 (fld lx 4 4 : Nat)) = W12 at kq k1 k2 hR b G ⊢
            obtain ⟨p0, p1, p2, p3, p4, p5, p6, p7, p8, p9, p10, p11⟩ := box12 k1
            obtain ⟨z0, z1, z2, z3, z4, z5, z6, z7, z8, z9, z10, z11⟩ := box12 kq
            obtain ⟨u0, u1, u2, u3, u4, u5, u6, u7, u8, u9, u10, u11⟩ := box12 k2
            have y0 := k2.frozen 0
            have y1 := k2.frozen 1
            have y2 := k2.frozen 2
            have y3 := k2.frozen 3
            have y4 := k2.frozen 4
            have y5 := k2.frozen 5
            have y6 := k2.frozen 6
            have y7 := k2.frozen 7
            have y8 := k2.frozen 8
            have y9 := k2.frozen 9
            have y10 := k2.frozen 10
            have y11 := k2.frozen 11
            have kf := blk_set12 k2 (.int .i64 (o : Nat)) (.bool q) (.bool f) (.int .i64 0) (.int .u32 (oq : Nat)) (.slice K2 nk ck2) (.slice V2 nv cv2) (.int .u32 (fld lx 0 4 : Nat)) (.int .u32 (fld lx 4 4 : Nat)) (.int .u64 (cas : Nat)) (.int .u64 0) (.int .u64 0)
            have gs := grown_set12 W12 (w.heap.size + 1) (.int .i64 (o : Nat)) (.bool q) (.bool f) (.int .i64 0) (.int .u32 (oq : Nat)) (.slice K2 nk ck2) (.slice V2 nv cv2) (.int .u32 (fld lx 0 4 : Nat)) (.int .u32 (fld lx 4 4 : Nat)) (.int .u64 (cas : Nat)) (.int .u64 0) (.int .u64 0)
            have bf := b.trans (below_grown gs (by omega) k2.lt)
            obtain ⟨t0, t1, t2, t3, t4, t5, t6, t7, t8, t9, t10, t11⟩ := box12 kf
            have oKf := ((oK.kept G (by omega)).kept gs (by omega)).more (B' := w.heap.size) (by omega)
            have oVf := ((oV.kept G (by omega)).kept gs (by omega)).more (B' := w.heap.size) (by omega)
            clear kf gs b k1 k2 kq
            go_wp2_with fail
            refine bodyPost_ret (v := .agg #[.int .i64 (o : Nat), .bool q, .bool f, .int .i64 0, .int .u32 (oq : Nat), .slice K2 nk ck2, .slice V2 nv cv2, .int .u32 (fld lx 0 4 : Nat), .int .u32 (fld lx 4 4 : Nat), .int .u64 (cas : Nat), .int .u64 0, .int .u64 0]) (by simp [results, Try.results90, go_sem, t0, t1, t2, t3, t4, t5, t6, t7, t8, t9, t10, t11]) rfl ?_
            exact ⟨_, _, _, _, _, _, (by first | (rw [EQF.out.1, EQF.out.2.1, EQF.out.2.2.1, EQF.out.2.2.2]; done) | (rw [EQF.out.1, EQF.out.2.1, EQF.out.2.2.1, EQF.out.2.2.2]; rfl)), oKf, oVf, bf⟩
          · have e8 : ((nx : Int) == 8) = false := beq_eq_false_iff_ne.2 (by omega)
            have e20 : ((nx : Int) == 20) = true := beq_iff_eq.2 (by omega)
            have e0 : ((0 : Int) < (nx : Int)) = True := eq_true (by omega)
            have e0' : (0 < nx) = True := eq_true (by omega)
            have EQF : Hid (flOf nx lx = 0 ∧ exOf nx lx = fld lx 16 4 ∧ dlOf nx lx = fld lx 0 8 ∧ niOf nx lx = fld lx 8 8) := Lib.hid (by subst h; exact ⟨rfl, rfl, rfl, rfl⟩)
            have HNX := Lib.hid h
            clear h
            go_upto_region 24 with fail
            go_wp2_with fail
            refine (u64_at lx 0 (fld lx 0 8) rfl gR B9 _ hR (by have := rX.len; have := HNX.out; omega)).mono ?_
            rintro e w10 ⟨rfl, hR, gg⟩
            replace kq := kq.leftC gg (by omega)
            replace k1 := k1.leftC gg (by omega)
            replace k2 := k2.leftC gg (by omega)
            replace b := below_far b gg (by omega) (Nat.le_refl _)
            replace G := grown_far G gg (by omega)
            clear gg p0 p1 p2 p3 p4 p5 p6 p7 p8 p9 p10 p11
            go_wp2_with fail
            refine (u64_at lx 8 (fld lx 8 8) rfl gR B9 _ hR (by have := rX.len; have := HNX.out; omega)).mono ?_
            rintro e w11 ⟨rfl, hR, gg⟩
            replace kq := kq.leftC gg (by omega)
            replace k1 := k1.leftC gg (by omega)
            replace k2 := k2.leftC gg (by omega)
            replace b := below_far b gg (by omega) (Nat.le_refl _)
            replace G := grown_far G gg (by omega)
            clear gg
            have y := kq.frozen 10
            have y' := kq.frozen 11
            obtain ⟨z0, z1, z2, z3, z4, z5, z6, z7, z8, z9, z10, z11⟩ := box12 kq
            go_upto_region 25 with fail
            clear z0 z1 z2 z3 z4 z5 z6 z7 z8 z9 z10 z11
            have gq := grown_trans (rdr_grown_set w11 g6 10 (.int .u64 (fld lx 0 8 : Nat))) (rdr_grown_set _ g6 11 (.int .u64 (fld lx 8 8 : Nat)))
            replace k1 := k1.leftC gq (by omega)
            replace k2 := k2.leftC gq (by omega)
            replace hR := hR.kept gq (by omega)
            replace b := b.trans (below_grown gq (by omega) kq.lt)
            replace G := grown_trans G gq
            replace kq : Blk ((w11.setCell ⟨g6, 10, none⟩ (.int .u64 (fld lx 0 8 : Nat))).setCell ⟨g6, 11, none⟩ (.int .u64 (fld lx 8 8 : Nat))) g6 #[.int .i64 (o : Nat), .bool q, .bool f, .int .i64 0, .int .u32 (oq : Nat), .slice K2 nk ck2, .slice V2 nv cv2, .int .u32 0, .int .u32 0, .int .u64 (cas : Nat), .int .u64 (fld lx 0 8 : Nat), .int .u64 (fld lx 8 8 : Nat)] 26 := (kq.set_ 10 _).set_ 11 _
            clear gq y y'
            generalize (w11.setCell ⟨g6, 10, none⟩ (.int .u64 (fld lx 0 8 : Nat))).setCell ⟨g6, 11, none⟩ (.int .u64 (fld lx 8 8 : Nat)) = W10 at kq k1 k2 hR b G ⊢
            obtain ⟨p0, p1, p2, p3, p4, p5, p6, p7, p8, p9, p10, p11⟩ := box12 k1
            go_wp2_with fail
            refine (u32_at lx 16 (fld lx 16 4) rfl gR B9 _ hR (by have := rX.len; have := HNX.out; omega)).mono ?_
            rintro e w12 ⟨rfl, hR, gg⟩
            replace kq := kq.leftC gg (by omega)
            replace k1 := k1.leftC gg (by omega)
            replace k2 := k2.leftC gg (by omega)
            replace b := below_far b gg (by omega) (Nat.le_refl _)
            replace G := grown_far G gg (by omega)
            clear gg p0 p1 p2 p3 p4 p5 p6 p7 p8 p9 p10 p11
            have y := kq.frozen 8
            obtain ⟨z0, z1, z2, z3, z4, z5, z6, z7, z8, z9, z10, z11⟩ := box12 kq
            go_upto_region 27 with fail
            clear z0 z1 z2 z3 z4 z5 z6 z7 z8 z9 z10 z11
            have gq := rdr_grown_set w12 g6 8 (.int .u32 (fld lx 16 4 : Nat))
            replace k1 := k1.leftC gq (by omega)
            replace k2 := k2.leftC gq (by omega)
            replace hR := hR.kept gq (by omega)
            replace b := b.trans (below_grown gq (by omega) kq.lt)
            replace G := grown_trans G gq
            replace kq : Blk (w12.setCell ⟨g6, 8, none⟩ (.int .u32 (fld lx 16 4 : Nat))) g6 #[.int .i64 (o : Nat), .bool q, .bool f, .int .i64 0, .int .u32 (oq : Nat), .slice K2 nk ck2, .slice V2 nv cv2, .int .u32 0, .int .u32 (fld lx 16 4 : Nat), .int .u64 (cas : Nat), .int .u64 (fld lx 0 8 : Nat), .int .u64 (fld lx 8 8 : Nat)] 26 := kq.set_ 8 _
            clear gq y
            generalize w12.setCell ⟨g6, 8, none⟩ (.int .u32 (fld lx 16 4 : Nat)) = W12 at kq k1 k2 hR b G ⊢
            obtain ⟨p0, p1, p2, p3, p4, p5, p6, p7, p8, p9, p10, p11⟩ := box12 k1
            obtain ⟨z0, z1, z2, z3, z4, z5, z6, z7, z8, z9, z10, z11⟩ := box12 kq
            obtain ⟨u0, u1, u2, u3, u4, u5, u6, u7, u8, u9, u10, u11⟩ := box12 k2
            have y0 := k2.frozen 0
            have y1 := k2.frozen 1
            have y2 := k2.frozen 2
            have y3 := k2.frozen 3
            have y4 := k2.frozen 4
            have y5 := k2.frozen 5
            have y6 := k2.frozen 6
            have y7 := k2.frozen 7
            have y8 := k2.frozen 8
            have y9 := k2.frozen 9
            have y10 := k2.frozen 10
            have y11 := k2.frozen 11
            have kf := blk_set12 k2 (.int .i64 (o : Nat)) (.bool q) (.bool f) (.int .i64 0) (.int .u32 (oq : Nat)) (.slice K2 nk ck2) (.slice V2 nv cv2) (.int .u32 0) (.int .u32 (fld lx 16 4 : Nat)) (.int .u64 (cas : Nat)) (.int .u64 (fld lx 0 8 : Nat)) (.int .u64 (fld lx 8 8 : Nat))
            have gs := grown_set12 W12 (w.heap.size + 1) (.int .i64 (o : Nat)) (.bool q) (.bool f) (.int .i64 0) (.int .u32 (oq : Nat)) (.slice K2 nk ck2) (.slice V2 nv cv2) (.int .u32 0) (.int .u32 (fld lx 16 4 : Nat)) (.int .u64 (cas : Nat)) (.int .u64 (fld lx 0 8 : Nat)) (.int .u64 (fld lx 8 8 : Nat))
            have bf := b.trans (below_grown gs (by omega) k2.lt)
            obtain ⟨t0, t1, t2, t3, t4, t5, t6, t7, t8, t9, t10, t11⟩ := box12 kf
            have oKf := ((oK.kept G (by omega)).kept gs (by omega)).more (B' := w.heap.size) (by omega)
            have oVf := ((oV.kept G (by omega)).kept gs (by omega)).more (B' := w.heap.size) (by omega)
            clear kf gs b k1 k2 kq
            go_wp2_with fail
            refine bodyPost_ret (v := .agg #[.int .i64 (o : Nat), .bool q, .bool f, .int .i64 0, .int .u32 (oq : Nat), .slice K2 nk ck2, .slice V2 nv cv2, .int .u32 0, .int .u32 (fld lx 16 4 : Nat), .int .u64 (cas : Nat), .int .u64 (fld lx 0 8 : Nat), .int .u64 (fld lx 8 8 : Nat)]) (by simp [results, Try.results90, go_sem, t0, t1, t2, t3, t4, t5, t6, t7, t8, t9, t10, t11]) rfl ?_
            exact ⟨_, _, _, _, _, _, (by first | (rw [EQF.out.1, EQF.out.2.1, EQF.out.2.2.1, EQF.out.2.2.2]; done) | (rw [EQF.out.1, EQF.out.2.1, EQF.out.2.2.1, EQF.out.2.2.2]; rfl)), oKf, oVf, bf⟩
end
section
open Go.RowKit
set_option maxRecDepth 100000 in
set_option maxHeartbeats 4000000 in
theorem preq_x (mg op kl el ty st bl oq cas : Nat) (X K V : Option Addr) (nx cx nk ck nv cv : Nat) (lx lk lv : List UInt8) (w : World) (rX : Rd w w.heap.size X nx cx lx) (rK : Rd w w.heap.size K nk ck lk) (rV : Rd w w.heap.size V nv cv lv) (hop : op < 256) (o : Nat) (q f : Bool) (hr : rowOf op = some (o, q, f)) (sx : Nat) (sk sv : Bool) (hs : shapeOf (o : Int) = (sx, sk, sv)) (later : Bool) (hl : later = (decide (o = 8) && decide (nx = 4))) (hx : nx ≠ sx) (hx2 : later = false) :
    Calls Try.prog 90 #[frV mg op kl el ty st bl oq cas (.slice X nx cx) (.slice K nk ck) (.slice V nv cv)] w (ReqQ (o : Int) q f 4 oq [] [] 0 0 0 0 0 w) := by
  have HR := Lib.hid hr
  have HL := Lib.hid hl
  have HX := Lib.hid hx
  clear hr hl hx
  have HX2 := Lib.hid hx2
  clear hx2
  have k1 := (Blk.new w #[.int .u8 (mg : Nat), .int .u8 (op : Nat), .int .u16 (kl : Nat), .int .u8 (el : Nat), .int .u8 (ty : Nat), .int .u16 (st : Nat), .int .u32 (bl : Nat), .int .u32 (oq : Nat), .int .u64 (cas : Nat), .slice X nx cx, .slice K nk ck, .slice V nv cv] 61).alloc (.cells #[.int .i64 0, .bool false, .bool false, .int .i64 0, .int .u32 0, .slice none 0 0, .slice none 0 0, .int .u32 0, .int .u32 0, .int .u64 0, .int .u64 0, .int .u64 0] 26)
  have k2 := Blk.new (w.alloc (.cells #[.int .u8 (mg : Nat), .int .u8 (op : Nat), .int .u16 (kl : Nat), .int .u8 (el : Nat), .int .u8 (ty : Nat), .int .u16 (st : Nat), .int .u32 (bl : Nat), .int .u32 (oq : Nat), .int .u64 (cas : Nat), .slice X nx cx, .slice K nk ck, .slice V nv cv] 61)) #[.int .i64 0, .bool false, .bool false, .int .i64 0, .int .u32 0, .slice none 0 0, .slice none 0 0, .int .u32 0, .int .u32 0, .int .u64 0, .int .u64 0, .int .u64 0] 26
  have b := below_a1' (below_a1' (Below.refl w.heap.size w) (.cells #[.int .u8 (mg : Nat), .int .u8 (op : Nat), .int .u16 (kl : Nat), .int .u8 (el : Nat), .int .u8 (ty : Nat), .int .u16 (st : Nat), .int .u32 (bl : Nat), .int .u32 (oq : Nat), .int .u64 (cas : Nat), .slice X nx cx, .slice K nk ck, .slice V nv cv] 61)) (.cells #[.int .i64 0, .bool false, .bool false, .int .i64 0, .int .u32 0, .slice none 0 0, .slice none 0 0, .int .u32 0, .int .u32 0, .int .u64 0, .int .u64 0, .int .u64 0] 26)
  rw [World.size_alloc] at k2
  unfold frV frC
  go_enter Try.func90, Try.ntmps90
  go_upto_region 1 with fail
  generalize (w.alloc (.cells #[.int .u8 (mg : Nat), .int .u8 (op : Nat), .int .u16 (kl : Nat), .int .u8 (el : Nat), .int .u8 (ty : Nat), .int .u16 (st : Nat), .int .u32 (bl : Nat), .int .u32 (oq : Nat), .int .u64 (cas : Nat), .slice X nx cx, .slice K nk ck, .slice V nv cv] 61)).alloc (.cells #[.int .i64 0, .bool false, .bool false, .int .i64 0, .int .u32 0, .slice none 0 0, .slice none 0 0, .int .u32 0, .int .u32 0, .int .u64 0, .int .u64 0, .int .u64 0] 26) = W0 at k1 k2 b ⊢
  have ho : IntKind.i64.wrap ((op : Nat) : Int) = ((op : Nat) : Int) := wrap_small (by omega) (by omega)
  obtain ⟨p0, p1, p2, p3, p4, p5, p6, p7, p8, p9, p10, p11⟩ := box12 k1
  go_wp2_with fail
  refine (rows_any W0).mono ?_
  rintro e w1 ⟨m, rfl, hm, hge, b1⟩
  replace k1 := k1.step b1
  replace k2 := k2.step b1
  replace b := below_step b b1
  clear b1 ho p0 p1 p2 p3 p4 p5 p6 p7 p8 p9 p10 p11
  go_upto_region 3 with (refine wpl_lookYes _ rfl _ _ _ rfl Try.underlying137 m op rfl hm rfl o q f HR.out ?_)
  have hl2 := k2.lt
  have k4 := Blk.new w1 #[.int .i64 (o : Nat), .bool q, .bool f] 140
  have b4 := below_a1' (Below.refl w1.heap.size w1) (.cells #[.int .i64 (o : Nat), .bool q, .bool f] 140)
  replace k1 := k1.step b4
  replace k2 := k2.step b4
  replace b := below_step b b4
  clear hm hge b4
  have hg4 := k2.lt
  generalize hW : w1.alloc (.cells #[.int .i64 (o : Nat), .bool q, .bool f] 140) = W3 at k1 k2 k4 b hg4 ⊢
  have hs4 : w.heap.size + 2 ≤ w1.heap.size := hl2
  clear hW
  generalize w1.heap.size = g4 at k4 hs4 ⊢
  obtain ⟨p0, p1, p2, p3, p4, p5, p6, p7, p8, p9, p10, p11⟩ := box12 k1
  obtain ⟨x0, x1, x2⟩ := box3 k4
  go_upto_region 4 with fail
  have k6 := Blk.new W3 #[.int .i64 (o : Nat), .bool q, .bool f, .int .i64 0, .int .u32 (oq : Nat), .slice none 0 0, .slice none 0 0, .int .u32 0, .int .u32 0, .int .u64 0, .int .u64 0, .int .u64 0] 26
  have b4 := below_a1' (Below.refl W3.heap.size W3) (.cells #[.int .i64 (o : Nat), .bool q, .bool f, .int .i64 0, .int .u32 (oq : Nat), .slice none 0 0, .slice none 0 0, .int .u32 0, .int .u32 0, .int .u64 0, .int .u64 0, .int .u64 0] 26)
  replace k1 := k1.step b4
  replace k2 := k2.step b4
  have hg6 := k4.lt
  replace k4 := k4.step b4
  replace b := below_step b b4
  clear b4 p0 p1 p2 p3 p4 p5 p6 p7 p8 p9 p10 p11 x0 x1 x2
  generalize W3.alloc (.cells #[.int .i64 (o : Nat), .bool q, .bool f, .int .i64 0, .int .u32 (oq : Nat), .slice none 0 0, .slice none 0 0, .int .u32 0, .int .u32 0, .int .u64 0, .int .u64 0, .int .u64 0] 26) = W6 at k1 k2 k4 k6 b ⊢
  generalize W3.heap.size = g6 at k6 hg6 ⊢
  obtain ⟨p0, p1, p2, p3, p4, p5, p6, p7, p8, p9, p10, p11⟩ := box12 k1
  obtain ⟨x0, x1, x2⟩ := box3 k4
  have HS := Lib.hid (fun W => shaped_at hs W)
  go_wp2_with fail
  refine (HS.out _).mono ?_
  rintro e w7 ⟨rfl, b7⟩
  replace k1 := k1.step b7
  replace k2 := k2.step b7
  have hg4' := k4.lt
  replace k4 := k4.step b7
  replace k6 := k6.step b7
  replace b := below_step b b7
  clear b7 p0 p1 p2 p3 p4 p5 p6 p7 p8 p9 p10 p11 x0 x1 x2
  go_upto_region 8 with fail
  have k7 := Blk.new w7 #[.int .i64 (sx : Nat), .bool sk, .bool sv] 131
  have b4 := below_a1' (Below.refl w7.heap.size w7) (.cells #[.int .i64 (sx : Nat), .bool sk, .bool sv] 131)
  have hg7 := k6.lt
  replace k1 := k1.step b4
  replace k2 := k2.step b4
  replace k4 := k4.step b4
  replace k6 := k6.step b4
  replace b := below_step b b4
  clear b4
  generalize w7.alloc (.cells #[.int .i64 (sx : Nat), .bool sk, .bool sv] 131) = W8 at k1 k2 k4 k6 k7 b ⊢
  generalize w7.heap.size = g7 at k7 hg7 ⊢
  obtain ⟨p0, p1, p2, p3, p4, p5, p6, p7, p8, p9, p10, p11⟩ := box12 k1
  obtain ⟨x0, x1, x2⟩ := box3 k4
  obtain ⟨s0, s1, s2⟩ := box3 k7
  go_cut [8] (fun s8 wx => s8 = .bool later ∧ W8 = wx)
  case first =>
    by_cases h8 : o = 8
    · subst h8
      by_cases h4 : nx = 4
      · have HL2 : Hid (later = true) := Lib.hid (by rw [HL.out, h4]; rfl)
        have e4 : ((nx : Int) == 4) = true := beq_iff_eq.2 (by omega)
        clear h4
        go_wp2_with fail
        go_meet
        exact ⟨by rw [HL2.out], rfl⟩
      · have HL2 : Hid (later = false) := Lib.hid (by rw [HL.out, decide_eq_false h4]; rfl)
        have e4 : ((nx : Int) == 4) = false := beq_eq_false_iff_ne.2 (by omega)
        clear h4
        go_wp2_with fail
        go_meet
        exact ⟨by rw [HL2.out], rfl⟩
    · have HL2 : Hid (later = false) := Lib.hid (by rw [HL.out, decide_eq_false h8]; rfl)
      have e8 : ((o : Int) == 8) = false := beq_eq_false_iff_ne.2 (by omega)
      clear h8
      go_wp2_with fail
      go_meet
      exact ⟨by rw [HL2.out], rfl⟩
  case rest =>
    obtain ⟨rfl, rfl⟩ := hcut
    go_upto_region 9 with fail
    have e9 : ((nx : Int) != (sx : Int)) = true := bne_iff_ne.2 (by have := HX.out; omega)
    obtain rfl : false = later := HX2.out.symm
    have y3 := k6.frozen 3
    obtain ⟨z0, z1, z2, z3, z4, z5, z6, z7, z8, z9, z10, z11⟩ := box12 k6
    go_upto_region 14 with fail
    have gq := rdr_grown_set W8 g6 3 (.int .i64 4)
    replace k2 := k2.leftC gq (by omega)
    replace b := b.trans (below_grown gq (by omega) k6.lt)
    have kq : Blk (W8.setCell ⟨g6, 3, none⟩ (.int .i64 4)) g6 #[.int .i64 (o : Nat), .bool q, .bool f, .int .i64 4, .int .u32 (oq : Nat), .slice none 0 0, .slice none 0 0, .int .u32 0, .int .u32 0, .int .u64 0, .int .u64 0, .int .u64 0] 26 := k6.set_ 3 _
    clear k1 k4 k6 k7 gq y3 z0 z1 z2 z3 z4 z5 z6 z7 z8 z9 z10 z11 p0 p1 p2 p3 p4 p5 p6 p7 p8 p9 p10 p11 x0 x1 x2 s0 s1 s2
    generalize W8.setCell ⟨g6, 3, none⟩ (.int .i64 4) = W9 at kq k2 b ⊢
    obtain ⟨z0, z1, z2, z3, z4, z5, z6, z7, z8, z9, z10, z11⟩ := box12 kq
    obtain ⟨u0, u1, u2, u3, u4, u5, u6, u7, u8, u9, u10, u11⟩ := box12 k2
    have y0 := k2.frozen 0
    have y1 := k2.frozen 1
    have y2 := k2.frozen 2
    have y3 := k2.frozen 3
    have y4 := k2.frozen 4
    have y5 := k2.frozen 5
    have y6 := k2.frozen 6
    have y7 := k2.frozen 7
    have y8 := k2.frozen 8
    have y9 := k2.frozen 9
    have y10 := k2.frozen 10
    have y11 := k2.frozen 11
    have kf := blk_set12 k2 (.int .i64 (o : Nat)) (.bool q) (.bool f) (.int .i64 4) (.int .u32 (oq : Nat)) (.slice none 0 0) (.slice none 0 0) (.int .u32 0) (.int .u32 0) (.int .u64 0) (.int .u64 0) (.int .u64 0)
    have gs := grown_set12 W9 (w.heap.size + 1) (.int .i64 (o : Nat)) (.bool q) (.bool f) (.int .i64 4) (.int .u32 (oq : Nat)) (.slice none 0 0) (.slice none 0 0) (.int .u32 0) (.int .u32 0) (.int .u64 0) (.int .u64 0) (.int .u64 0)
    have bf := b.trans (below_grown gs (by omega) k2.lt)
    obtain ⟨t0, t1, t2, t3, t4, t5, t6, t7, t8, t9, t10, t11⟩ := box12 kf
    clear kf gs b k2 kq
    go_wp2_with fail
    refine bodyPost_ret (v := .agg #[.int .i64 (o : Nat), .bool q, .bool f, .int .i64 4, .int .u32 (oq : Nat), .slice none 0 0, .slice none 0 0, .int .u32 0, .int .u32 0, .int .u64 0, .int .u64 0, .int .u64 0]) (by simp [results, Try.results90, go_sem, t0, t1, t2, t3, t4, t5, t6, t7, t8, t9, t10, t11]) rfl ?_
    exact ⟨_, _, _, _, _, _, rfl, Own.nil _ _, Own.nil _ _, bf⟩
set_option maxRecDepth 100000 in
set_option maxHeartbeats 4000000 in
theorem preq_k (mg op kl el ty st bl oq cas : Nat) (X K V : Option Addr) (nx cx nk ck nv cv : Nat) (lx lk lv : List UInt8) (w : World) (rX : Rd w w.heap.size X nx cx lx) (rK : Rd w w.heap.size K nk ck lk) (rV : Rd w w.heap.size V nv cv lv) (hop : op < 256) (o : Nat) (q f : Bool) (hr : rowOf op = some (o, q, f)) (sx : Nat) (sk sv : Bool) (hs : shapeOf (o : Int) = (sx, sk, sv)) (later : Bool) (hl : later = (decide (o = 8) && decide (nx = 4))) (hx : nx = sx ∨ later = true) (hk : decide ((0 : Int) < (nk : Int)) ≠ sk) :
    Calls Try.prog 90 #[frV mg op kl el ty st bl oq cas (.slice X nx cx) (.slice K nk ck) (.slice V nv cv)] w (ReqQ (o : Int) q f 4 oq [] [] 0 0 0 0 0 w) := by
  have HR := Lib.hid hr
  have HL := Lib.hid hl
  have HX := Lib.hid hx
  have HK := Lib.hid hk
  clear hr hl hx hk
  have k1 := (Blk.new w #[.int .u8 (mg : Nat), .int .u8 (op : Nat), .int .u16 (kl : Nat), .int .u8 (el : Nat), .int .u8 (ty : Nat), .int .u16 (st : Nat), .int .u32 (bl : Nat), .int .u32 (oq : Nat), .int .u64 (cas : Nat), .slice X nx cx, .slice K nk ck, .slice V nv cv] 61).alloc (.cells #[.int .i64 0, .bool false, .bool false, .int .i64 0, .int .u32 0, .slice none 0 0, .slice none 0 0, .int .u32 0, .int .u32 0, .int .u64 0, .int .u64 0, .int .u64 0] 26)
  have k2 := Blk.new (w.alloc (.cells #[.int .u8 (mg : Nat), .int .u8 (op : Nat), .int .u16 (kl : Nat), .int .u8 (el : Nat), .int .u8 (ty : Nat), .int .u16 (st : Nat), .int .u32 (bl : Nat), .int .u32 (oq : Nat), .int .u64 (cas : Nat), .slice X nx cx, .slice K nk ck, .slice V nv cv] 61)) #[.int .i64 0, .bool false, .bool false, .int .i64 0, .int .u32 0, .slice none 0 0, .slice none 0 0, .int .u32 0, .int .u32 0, .int .u64 0, .int .u64 0, .int .u64 0] 26
  have b := below_a1' (below_a1' (Below.refl w.heap.size w) (.cells #[.int .u8 (mg : Nat), .int .u8 (op : Nat), .int .u16 (kl : Nat), .int .u8 (el : Nat), .int .u8 (ty : Nat), .int .u16 (st : Nat), .int .u32 (bl : Nat), .int .u32 (oq : Nat), .int .u64 (cas : Nat), .slice X nx cx, .slice K nk ck, .slice V nv cv] 61)) (.cells #[.int .i64 0, .bool false, .bool false, .int .i64 0, .int .u32 0, .slice none 0 0, .slice none 0 0, .int .u32 0, .int .u32 0, .int .u64 0, .int .u64 0, .int .u64 0] 26)
  rw [World.size_alloc] at k2
  unfold frV frC
  go_enter Try.func90, Try.ntmps90
  go_upto_region 1 with fail
  generalize (w.alloc (.cells #[.int .u8 (mg : Nat), .int .u8 (op : Nat), .int .u16 (kl : Nat), .int .u8 (el : Nat), .int .u8 (ty : Nat), .int .u16 (st : Nat), .int .u32 (bl : Nat), .int .u32 (oq : Nat), .int .u64 (cas : Nat), .slice X nx cx, .slice K nk ck, .slice V nv cv] 61)).alloc (.cells #[.int .i64 0, .bool false, .bool false, .int .i64 0, .int .u32 0, .slice none 0 0, .slice none 0 0, .int .u32 0, .int .u32 0, .int .u64 0, .int .u64 0, .int .u64 0] 26) = W0 at k1 k2 b ⊢
  have ho : IntKind.i64.wrap ((op : Nat) : Int) = ((op : Nat) : Int) := wrap_small (by omega) (by omega)
  obtain ⟨p0, p1, p2, p3, p4, p5, p6, p7, p8, p9, p10, p11⟩ := box12 k1
  go_wp2_with fail
  refine (rows_any W0).mono ?_
  rintro e w1 ⟨m, rfl, hm, hge, b1⟩
  replace k1 := k1.step b1
  replace k2 := k2.step b1
  replace b := below_step b b1
  clear b1 ho p0 p1 p2 p3 p4 p5 p6 p7 p8 p9 p10 p11
  go_upto_region 3 with (refine wpl_lookYes _ rfl _ _ _ rfl Try.underlying137 m op rfl hm rfl o q f HR.out ?_)
  have hl2 := k2.lt
  have k4 := Blk.new w1 #[.int .i64 (o : Nat), .bool q, .bool f] 140
  have b4 := below_a1' (Below.refl w1.heap.size w1) (.cells #[.int .i64 (o : Nat), .bool q, .bool f] 140)
  replace k1 := k1.step b4
  replace k2 := k2.step b4
  replace b := below_step b b4
  clear hm hge b4
  have hg4 := k2.lt
  generalize hW : w1.alloc (.cells #[.int .i64 (o : Nat), .bool q, .bool f] 140) = W3 at k1 k2 k4 b hg4 ⊢
  have hs4 : w.heap.size + 2 ≤ w1.heap.size := hl2
  clear hW
  generalize w1.heap.size = g4 at k4 hs4 ⊢
  obtain ⟨p0, p1, p2, p3, p4, p5, p6, p7, p8, p9, p10, p11⟩ := box12 k1
  obtain ⟨x0, x1, x2⟩ := box3 k4
  go_upto_region 4 with fail
  have k6 := Blk.new W3 #[.int .i64 (o : Nat), .bool q, .bool f, .int .i64 0, .int .u32 (oq : Nat), .slice none 0 0, .slice none 0 0, .int .u32 0, .int .u32 0, .int .u64 0, .int .u64 0, .int .u64 0] 26
  have b4 := below_a1' (Below.refl W3.heap.size W3) (.cells #[.int .i64 (o : Nat), .bool q, .bool f, .int .i64 0, .int .u32 (oq : Nat), .slice none 0 0, .slice none 0 0, .int .u32 0, .int .u32 0, .int .u64 0, .int .u64 0, .int .u64 0] 26)
  replace k1 := k1.step b4
  replace k2 := k2.step b4
  have hg6 := k4.lt
  replace k4 := k4.step b4
  replace b := below_step b b4
  clear b4 p0 p1 p2 p3 p4 p5 p6 p7 p8 p9 p10 p11 x0 x1 x2
  generalize W3.alloc (.cells #[.int .i64 (o : Nat), .bool q, .bool f, .int .i64 0, .int .u32 (oq : Nat), .slice none 0 0, .slice none 0 0, .int .u32 0, .int .u32 0, .int .u64 0, .int .u64 0, .int .u64 0] 26) = W6 at k1 k2 k4 k6 b ⊢
  generalize W3.heap.size = g6 at k6 hg6 ⊢
  obtain ⟨p0, p1, p2, p3, p4, p5, p6, p7, p8, p9, p10, p11⟩ := box12 k1
  obtain ⟨x0, x1, x2⟩ := box3 k4
  have HS := Lib.hid (fun W => shaped_at hs W)
  go_wp2_with fail
  refine (HS.out _).mono ?_
  rintro e w7 ⟨rfl, b7⟩
  replace k1 := k1.step b7
  replace k2 := k2.step b7
  have hg4' := k4.lt
  replace k4 := k4.step b7
  replace k6 := k6.step b7
  replace b := below_step b b7
  clear b7 p0 p1 p2 p3 p4 p5 p6 p7 p8 p9 p10 p11 x0 x1 x2
  go_upto_region 8 with fail
  have k7 := Blk.new w7 #[.int .i64 (sx : Nat), .bool sk, .bool sv] 131
  have b4 := below_a1' (Below.refl w7.heap.size w7) (.cells #[.int .i64 (sx : Nat), .bool sk, .bool sv] 131)
  have hg7 := k6.lt
  replace k1 := k1.step b4
  replace k2 := k2.step b4
  replace k4 := k4.step b4
  replace k6 := k6.step b4
  replace b := below_step b b4
  clear b4
  generalize w7.alloc (.cells #[.int .i64 (sx : Nat), .bool sk, .bool sv] 131) = W8 at k1 k2 k4 k6 k7 b ⊢
  generalize w7.heap.size = g7 at k7 hg7 ⊢
  obtain ⟨p0, p1, p2, p3, p4, p5, p6, p7, p8, p9, p10, p11⟩ := box12 k1
  obtain ⟨x0, x1, x2⟩ := box3 k4
  obtain ⟨s0, s1, s2⟩ := box3 k7
  go_cut [8] (fun s8 wx => s8 = .bool later ∧ W8 = wx)
  case first =>
    by_cases h8 : o = 8
    · subst h8
      by_cases h4 : nx = 4
      · have HL2 : Hid (later = true) := Lib.hid (by rw [HL.out, h4]; rfl)
        have e4 : ((nx : Int) == 4) = true := beq_iff_eq.2 (by omega)
        clear h4
        go_wp2_with fail
        go_meet
        exact ⟨by rw [HL2.out], rfl⟩
      · have HL2 : Hid (later = false) := Lib.hid (by rw [HL.out, decide_eq_false h4]; rfl)
        have e4 : ((nx : Int) == 4) = false := beq_eq_false_iff_ne.2 (by omega)
        clear h4
        go_wp2_with fail
        go_meet
        exact ⟨by rw [HL2.out], rfl⟩
    · have HL2 : Hid (later = false) := Lib.hid (by rw [HL.out, decide_eq_false h8]; rfl)
      have e8 : ((o : Int) == 8) = false := beq_eq_false_iff_ne.2 (by omega)
      clear h8
      go_wp2_with fail
      go_meet
      exact ⟨by rw [HL2.out], rfl⟩
  case rest =>
    obtain ⟨rfl, rfl⟩ := hcut
    go_upto_region 9 with fail
    go_cut [48] (fun s48 wx => s48 = .bool false ∧ W8 = wx)
    case first =>
      cases hlt : later with
      | true =>
        subst hlt
        by_cases hn : nx = sx
        · have e9 : ((nx : Int) != (sx : Int)) = false := bne_eq_false_iff_eq.2 (by omega)
          clear hn
          go_wp2_with fail
          go_meet
          exact ⟨rfl, rfl⟩
        · have e9 : ((nx : Int) != (sx : Int)) = true := bne_iff_ne.2 (by omega)
          clear hn
          go_wp2_with fail
          go_meet
          exact ⟨rfl, rfl⟩
      | false =>
        subst hlt
        have e9 : ((nx : Int) != (sx : Int)) = false := bne_eq_false_iff_eq.2 (by rcases HX.out with h | h; omega; cases h)
        go_wp2_with fail
        go_meet
        exact ⟨rfl, rfl⟩
    case rest =>
      obtain ⟨rfl, rfl⟩ := hcut
      go_upto_region 10 with fail
      go_cut [48] (fun s48 wx => s48 = .bool true ∧ W8 = wx)
      case first =>
        by_cases h0 : (0 : Int) < (nk : Int)
        · have ev : ((0 : Int) < (nk : Int)) = True := eq_true h0
          have ev' : (0 < nk) = True := eq_true (by omega)
          obtain rfl : sk = false := by cases sk with | false => rfl | true => exact absurd (decide_eq_true h0) HK.out
          clear h0
          go_wp2_with fail
          go_meet
          exact ⟨rfl, rfl⟩
        · have ev : ((0 : Int) < (nk : Int)) = False := eq_false h0
          have ev' : (0 < nk) = False := eq_false (by omega)
          obtain rfl : sk = true := by cases sk with | true => rfl | false => exact absurd (decide_eq_false h0) HK.out
          clear h0
          go_wp2_with fail
          go_meet
          exact ⟨rfl, rfl⟩
      case rest =>
        obtain ⟨rfl, rfl⟩ := hcut
        have y3 := k6.frozen 3
        obtain ⟨z0, z1, z2, z3, z4, z5, z6, z7, z8, z9, z10, z11⟩ := box12 k6
        go_upto_region 14 with fail
        have gq := rdr_grown_set W8 g6 3 (.int .i64 4)
        replace k2 := k2.leftC gq (by omega)
        replace b := b.trans (below_grown gq (by omega) k6.lt)
        have kq : Blk (W8.setCell ⟨g6, 3, none⟩ (.int .i64 4)) g6 #[.int .i64 (o : Nat), .bool q, .bool f, .int .i64 4, .int .u32 (oq : Nat), .slice none 0 0, .slice none 0 0, .int .u32 0, .int .u32 0, .int .u64 0, .int .u64 0, .int .u64 0] 26 := k6.set_ 3 _
        clear k1 k4 k6 k7 gq y3 z0 z1 z2 z3 z4 z5 z6 z7 z8 z9 z10 z11 p0 p1 p2 p3 p4 p5 p6 p7 p8 p9 p10 p11 x0 x1 x2 s0 s1 s2
        generalize W8.setCell ⟨g6, 3, none⟩ (.int .i64 4) = W9 at kq k2 b ⊢
        obtain ⟨z0, z1, z2, z3, z4, z5, z6, z7, z8, z9, z10, z11⟩ := box12 kq
        obtain ⟨u0, u1, u2, u3, u4, u5, u6, u7, u8, u9, u10, u11⟩ := box12 k2
        have y0 := k2.frozen 0
        have y1 := k2.frozen 1
        have y2 := k2.frozen 2
        have y3 := k2.frozen 3
        have y4 := k2.frozen 4
        have y5 := k2.frozen 5
        have y6 := k2.frozen 6
        have y7 := k2.frozen 7
        have y8 := k2.frozen 8
        have y9 := k2.frozen 9
        have y10 := k2.frozen 10
        have y11 := k2.frozen 11
        have kf := blk_set12 k2 (.int .i64 (o : Nat)) (.bool q) (.bool f) (.int .i64 4) (.int .u32 (oq : Nat)) (.slice none 0 0) (.slice none 0 0) (.int .u32 0) (.int .u32 0) (.int .u64 0) (.int .u64 0) (.int .u64 0)
        have gs := grown_set12 W9 (w.heap.size + 1) (.int .i64 (o : Nat)) (.bool q) (.bool f) (.int .i64 4) (.int .u32 (oq : Nat)) (.slice none 0 0) (.slice none 0 0) (.int .u32 0) (.int .u32 0) (.int .u64 0) (.int .u64 0) (.int .u64 0)
        have bf := b.trans (below_grown gs (by omega) k2.lt)
        obtain ⟨t0, t1, t2, t3, t4, t5, t6, t7, t8, t9, t10, t11⟩ := box12 kf
        clear kf gs b k2 kq
        go_wp2_with fail
        refine bodyPost_ret (v := .agg #[.int .i64 (o : Nat), .bool q, .bool f, .int .i64 4, .int .u32 (oq : Nat), .slice none 0 0, .slice none 0 0, .int .u32 0, .int .u32 0, .int .u64 0, .int .u64 0, .int .u64 0]) (by simp [results, Try.results90, go_sem, t0, t1, t2, t3, t4, t5, t6, t7, t8, t9, t10, t11]) rfl ?_
        exact ⟨_, _, _, _, _, _, rfl, Own.nil _ _, Own.nil _ _, bf⟩
set_option maxRecDepth 100000 in
set_option maxHeartbeats 4000000 in
theorem preq_l (mg op kl el ty st bl oq cas : Nat) (X K V : Option Addr) (nx cx nk ck nv cv : Nat) (lx lk lv : List UInt8) (w : World) (rX : Rd w w.heap.size X nx cx lx) (rK : Rd w w.heap.size K nk ck lk) (rV : Rd w w.heap.size V nv cv lv) (hop : op < 256) (o : Nat) (q f : Bool) (hr : rowOf op = some (o, q, f)) (sx : Nat) (sk sv : Bool) (hs : shapeOf (o : Int) = (sx, sk, sv)) (later : Bool) (hl : later = (decide (o = 8) && decide (nx = 4))) (hx : nx = sx ∨ later = true) (hk : decide ((0 : Int) < (nk : Int)) = sk) (hk2 : 250 < nk) :
    Calls Try.prog 90 #[frV mg op kl el ty st bl oq cas (.slice X nx cx) (.slice K nk ck) (.slice V nv cv)] w (ReqQ (o : Int) q f 4 oq [] [] 0 0 0 0 0 w) := by
  have HR := Lib.hid hr
  have HL := Lib.hid hl
  have HX := Lib.hid hx
  have HK := Lib.hid hk
  clear hr hl hx hk
  have ek2 : ((250 : Int) < (nk : Int)) = True := eq_true (by omega)
  have ek2' : (250 < nk) = True := eq_true hk2
  clear hk2
  have k1 := (Blk.new w #[.int .u8 (mg : Nat), .int .u8 (op : Nat), .int .u16 (kl : Nat), .int .u8 (el : Nat), .int .u8 (ty : Nat), .int .u16 (st : Nat), .int .u32 (bl : Nat), .int .u32 (oq : Nat), .int .u64 (cas : Nat), .slice X nx cx, .slice K nk ck, .slice V nv cv] 61).alloc (.cells #[.int .i64 0, .bool false, .bool false, .int .i64 0, .int .u32 0, .slice none 0 0, .slice none 0 0, .int .u32 0, .int .u32 0, .int .u64 0, .int .u64 0, .int .u64 0] 26)
  have k2 := Blk.new (w.alloc (.cells #[.int .u8 (mg : Nat), .int .u8 (op : Nat), .int .u16 (kl : Nat), .int .u8 (el : Nat), .int .u8 (ty : Nat), .int .u16 (st : Nat), .int .u32 (bl : Nat), .int .u32 (oq : Nat), .int .u64 (cas : Nat), .slice X nx cx, .slice K nk ck, .slice V nv cv] 61)) #[.int .i64 0, .bool false, .bool false, .int .i64 0, .int .u32 0, .slice none 0 0, .slice none 0 0, .int .u32 0, .int .u32 0, .int .u64 0, .int .u64 0, .int .u64 0] 26
  have b := below_a1' (below_a1' (Below.refl w.heap.size w) (.cells #[.int .u8 (mg : Nat), .int .u8 (op : Nat), .int .u16 (kl : Nat), .int .u8 (el : Nat), .int .u8 (ty : Nat), .int .u16 (st : Nat), .int .u32 (bl : Nat), .int .u32 (oq : Nat), .int .u64 (cas : Nat), .slice X nx cx, .slice K nk ck, .slice V nv cv] 61)) (.cells #[.int .i64 0, .bool false, .bool false, .int .i64 0, .int .u32 0, .slice none 0 0, .slice none 0 0, .int .u32 0, .int .u32 0, .int .u64 0, .int .u64 0, .int .u64 0] 26)
  rw [World.size_alloc] at k2
  unfold frV frC
  go_enter Try.func90, Try.ntmps90
  go_upto_region 1 with fail
  generalize (w.alloc (.cells #[.int .u8 (mg : Nat), .int .u8 (op : Nat), .int .u16 (kl : Nat), .int .u8 (el : Nat), .int .u8 (ty : Nat), .int .u16 (st : Nat), .int .u32 (bl : Nat), .int .u32 (oq : Nat), .int .u64 (cas : Nat), .slice X nx cx, .slice K nk ck, .slice V nv cv] 61)).alloc (.cells #[.int .i64 0, .bool false, .bool false, .int .i64 0, .int .u32 0, .slice none 0 0, .slice none 0 0, .int .u32 0, .int .u32 0, .int .u64 0, .int .u64 0, .int .u64 0] 26) = W0 at k1 k2 b ⊢
  have ho : IntKind.i64.wrap ((op : Nat) : Int) = ((op : Nat) : Int) := wrap_small (by omega) (by omega)
  obtain ⟨p0, p1, p2, p3, p4, p5, p6, p7, p8, p9, p10, p11⟩ := box12 k1
  go_wp2_with fail
  refine (rows_any W0).mono ?_
  rintro e w1 ⟨m, rfl, hm, hge, b1⟩
  replace k1 := k1.step b1
  replace k2 := k2.step b1
  replace b := below_step b b1
  clear b1 ho p0 p1 p2 p3 p4 p5 p6 p7 p8 p9 p10 p11
  go_upto_region 3 with (refine wpl_lookYes _ rfl _ _ _ rfl Try.underlying137 m op rfl hm rfl o q f HR.out ?_)
  have hl2 := k2.lt
  have k4 := Blk.new w1 #[.int .i64 (o : Nat), .bool q, .bool f] 140
  have b4 := below_a1' (Below.refl w1.heap.size w1) (.cells #[.int .i64 (o : Nat), .bool q, .bool f] 140)
  replace k1 := k1.step b4
  replace k2 := k2.step b4
  replace b := below_step b b4
  clear hm hge b4
  have hg4 := k2.lt
  generalize hW : w1.alloc (.cells #[.int .i64 (o : Nat), .bool q, .bool f] 140) = W3 at k1 k2 k4 b hg4 ⊢
  have hs4 : w.heap.size + 2 ≤ w1.heap.size := hl2
  clear hW
  generalize w1.heap.size = g4 at k4 hs4 ⊢
  obtain ⟨p0, p1, p2, p3, p4, p5, p6, p7, p8, p9, p10, p11⟩ := box12 k1
  obtain ⟨x0, x1, x2⟩ := box3 k4
  go_upto_region 4 with fail
  have k6 := Blk.new W3 #[.int .i64 (o : Nat), .bool q, .bool f, .int .i64 0, .int .u32 (oq : Nat), .slice none 0 0, .slice none 0 0, .int .u32 0, .int .u32 0, .int .u64 0, .int .u64 0, .int .u64 0] 26
  have b4 := below_a1' (Below.refl W3.heap.size W3) (.cells #[.int .i64 (o : Nat), .bool q, .bool f, .int .i64 0, .int .u32 (oq : Nat), .slice none 0 0, .slice none 0 0, .int .u32 0, .int .u32 0, .int .u64 0, .int .u64 0, .int .u64 0] 26)
  replace k1 := k1.step b4
  replace k2 := k2.step b4
  have hg6 := k4.lt
  replace k4 := k4.step b4
  replace b := below_step b b4
  clear b4 p0 p1 p2 p3 p4 p5 p6 p7 p8 p9 p10 p11 x0 x1 x2
  generalize W3.alloc (.cells #[.int .i64 (o : Nat), .bool q, .bool f, .int .i64 0, .int .u32 (oq : Nat), .slice none 0 0, .slice none 0 0, .int .u32 0, .int .u32 0, .int .u64 0, .int .u64 0, .int .u64 0] 26) = W6 at k1 k2 k4 k6 b ⊢
  generalize W3.heap.size = g6 at k6 hg6 ⊢
  obtain ⟨p0, p1, p2, p3, p4, p5, p6, p7, p8, p9, p10, p11⟩ := box12 k1
  obtain ⟨x0, x1, x2⟩ := box3 k4
  have HS := Lib.hid (fun W => shaped_at hs W)
  go_wp2_with fail
  refine (HS.out _).mono ?_
  rintro e w7 ⟨rfl, b7⟩
  replace k1 := k1.step b7
  replace k2 := k2.step b7
  have hg4' := k4.lt
  replace k4 := k4.step b7
  replace k6 := k6.step b7
  replace b := below_step b b7
  clear b7 p0 p1 p2 p3 p4 p5 p6 p7 p8 p9 p10 p11 x0 x1 x2
  go_upto_region 8 with fail
  have k7 := Blk.new w7 #[.int .i64 (sx : Nat), .bool sk, .bool sv] 131
  have b4 := below_a1' (Below.refl w7.heap.size w7) (.cells #[.int .i64 (sx : Nat), .bool sk, .bool sv] 131)
  have hg7 := k6.lt
  replace k1 := k1.step b4
  replace k2 := k2.step b4
  replace k4 := k4.step b4
  replace k6 := k6.step b4
  replace b := below_step b b4
  clear b4
  generalize w7.alloc (.cells #[.int .i64 (sx : Nat), .bool sk, .bool sv] 131) = W8 at k1 k2 k4 k6 k7 b ⊢
  generalize w7.heap.size = g7 at k7 hg7 ⊢
  obtain ⟨p0, p1, p2, p3, p4, p5, p6, p7, p8, p9, p10, p11⟩ := box12 k1
  obtain ⟨x0, x1, x2⟩ := box3 k4
  obtain ⟨s0, s1, s2⟩ := box3 k7
  go_cut [8] (fun s8 wx => s8 = .bool later ∧ W8 = wx)
  case first =>
    by_cases h8 : o = 8
    · subst h8
      by_cases h4 : nx = 4
      · have HL2 : Hid (later = true) := Lib.hid (by rw [HL.out, h4]; rfl)
        have e4 : ((nx : Int) == 4) = true := beq_iff_eq.2 (by omega)
        clear h4
        go_wp2_with fail
        go_meet
        exact ⟨by rw [HL2.out], rfl⟩
      · have HL2 : Hid (later = false) := Lib.hid (by rw [HL.out, decide_eq_false h4]; rfl)
        have e4 : ((nx : Int) == 4) = false := beq_eq_false_iff_ne.2 (by omega)
        clear h4
        go_wp2_with fail
        go_meet
        exact ⟨by rw [HL2.out], rfl⟩
    · have HL2 : Hid (later = false) := Lib.hid (by rw [HL.out, decide_eq_false h8]; rfl)
      have e8 : ((o : Int) == 8) = false := beq_eq_false_iff_ne.2 (by omega)
      clear h8
      go_wp2_with fail
      go_meet
      exact ⟨by rw [HL2.out], rfl⟩
  case rest =>
    obtain ⟨rfl, rfl⟩ := hcut
    go_upto_region 9 with fail
    go_cut [48] (fun s48 wx => s48 = .bool false ∧ W8 = wx)
    case first =>
      cases hlt : later with
      | true =>
        subst hlt
        by_cases hn : nx = sx
        · have e9 : ((nx : Int) != (sx : Int)) = false := bne_eq_false_iff_eq.2 (by omega)
          clear hn
          go_wp2_with fail
          go_meet
          exact ⟨rfl, rfl⟩
        · have e9 : ((nx : Int) != (sx : Int)) = true := bne_iff_ne.2 (by omega)
          clear hn
          go_wp2_with fail
          go_meet
          exact ⟨rfl, rfl⟩
      | false =>
        subst hlt
        have e9 : ((nx : Int) != (sx : Int)) = false := bne_eq_false_iff_eq.2 (by rcases HX.out with h | h; omega; cases h)
        go_wp2_with fail
        go_meet
        exact ⟨rfl, rfl⟩
    case rest =>
      obtain ⟨rfl, rfl⟩ := hcut
      go_upto_region 10 with fail
      go_cut [48] (fun s48 wx => s48 = .bool false ∧ W8 = wx)
      case first =>
        by_cases h0 : (0 : Int) < (nk : Int)
        · have ev : ((0 : Int) < (nk : Int)) = True := eq_true h0
          have ev' : (0 < nk) = True := eq_true (by omega)
          obtain rfl : true = sk := by rw [← HK.out, decide_eq_true h0]
          clear h0
          go_wp2_with fail
          go_meet
          exact ⟨rfl, rfl⟩
        · have ev : ((0 : Int) < (nk : Int)) = False := eq_false h0
          have ev' : (0 < nk) = False := eq_false (by omega)
          obtain rfl : false = sk := by rw [← HK.out, decide_eq_false h0]
          clear h0
          go_wp2_with fail
          go_meet
          exact ⟨rfl, rfl⟩
      case rest =>
        obtain ⟨rfl, rfl⟩ := hcut
        have y3 := k6.frozen 3
        obtain ⟨z0, z1, z2, z3, z4, z5, z6, z7, z8, z9, z10, z11⟩ := box12 k6
        go_upto_region 14 with fail
        have gq := rdr_grown_set W8 g6 3 (.int .i64 4)
        replace k2 := k2.leftC gq (by omega)
        replace b := b.trans (below_grown gq (by omega) k6.lt)
        have kq : Blk (W8.setCell ⟨g6, 3, none⟩ (.int .i64 4)) g6 #[.int .i64 (o : Nat), .bool q, .bool f, .int .i64 4, .int .u32 (oq : Nat), .slice none 0 0, .slice none 0 0, .int .u32 0, .int .u32 0, .int .u64 0, .int .u64 0, .int .u64 0] 26 := k6.set_ 3 _
        clear k1 k4 k6 k7 gq y3 z0 z1 z2 z3 z4 z5 z6 z7 z8 z9 z10 z11 p0 p1 p2 p3 p4 p5 p6 p7 p8 p9 p10 p11 x0 x1 x2 s0 s1 s2
        generalize W8.setCell ⟨g6, 3, none⟩ (.int .i64 4) = W9 at kq k2 b ⊢
        obtain ⟨z0, z1, z2, z3, z4, z5, z6, z7, z8, z9, z10, z11⟩ := box12 kq
        obtain ⟨u0, u1, u2, u3, u4, u5, u6, u7, u8, u9, u10, u11⟩ := box12 k2
        have y0 := k2.frozen 0
        have y1 := k2.frozen 1
        have y2 := k2.frozen 2
        have y3 := k2.frozen 3
        have y4 := k2.frozen 4
        have y5 := k2.frozen 5
        have y6 := k2.frozen 6
        have y7 := k2.frozen 7
        have y8 := k2.frozen 8
        have y9 := k2.frozen 9
        have y10 := k2.frozen 10
        have y11 := k2.frozen 11
        have kf := blk_set12 k2 (.int .i64 (o : Nat)) (.bool q) (.bool f) (.int .i64 4) (.int .u32 (oq : Nat)) (.slice none 0 0) (.slice none 0 0) (.int .u32 0) (.int .u32 0) (.int .u64 0) (.int .u64 0) (.int .u64 0)
        have gs := grown_set12 W9 (w.heap.size + 1) (.int .i64 (o : Nat)) (.bool q) (.bool f) (.int .i64 4) (.int .u32 (oq : Nat)) (.slice none 0 0) (.slice none 0 0) (.int .u32 0) (.int .u32 0) (.int .u64 0) (.int .u64 0) (.int .u64 0)
        have bf := b.trans (below_grown gs (by omega) k2.lt)
        obtain ⟨t0, t1, t2, t3, t4, t5, t6, t7, t8, t9, t10, t11⟩ := box12 kf
        clear kf gs b k2 kq
        go_wp2_with fail
        refine bodyPost_ret (v := .agg #[.int .i64 (o : Nat), .bool q, .bool f, .int .i64 4, .int .u32 (oq : Nat), .slice none 0 0, .slice none 0 0, .int .u32 0, .int .u32 0, .int .u64 0, .int .u64 0, .int .u64 0]) (by simp [results, Try.results90, go_sem, t0, t1, t2, t3, t4, t5, t6, t7, t8, t9, t10, t11]) rfl ?_
        exact ⟨_, _, _, _, _, _, rfl, Own.nil _ _, Own.nil _ _, bf⟩
set_option maxRecDepth 100000 in
set_option maxHeartbeats 4000000 in
theorem preq_v (mg op kl el ty st bl oq cas : Nat) (X K V : Option Addr) (nx cx nk ck nv cv : Nat) (lx lk lv : List UInt8) (w : World) (rX : Rd w w.heap.size X nx cx lx) (rK : Rd w w.heap.size K nk ck lk) (rV : Rd w w.heap.size V nv cv lv) (hop : op < 256) (o : Nat) (q f : Bool) (hr : rowOf op = some (o, q, f)) (sx : Nat) (sk sv : Bool) (hs : shapeOf (o : Int) = (sx, sk, sv)) (later : Bool) (hl : later = (decide (o = 8) && decide (nx = 4))) (hx : nx = sx ∨ later = true) (hk : decide ((0 : Int) < (nk : Int)) = sk) (hk2 : nk ≤ 250) (hv : 0 < nv) (hv1 : sv = false) :
    Calls Try.prog 90 #[frV mg op kl el ty st bl oq cas (.slice X nx cx) (.slice K nk ck) (.slice V nv cv)] w (ReqQ (o : Int) q f 4 oq [] [] 0 0 0 0 0 w) := by
  have HR := Lib.hid hr
  have HL := Lib.hid hl
  have HX := Lib.hid hx
  have HK := Lib.hid hk
  clear hr hl hx hk
  have ek2 : ((250 : Int) < (nk : Int)) = False := eq_false (by omega)
  have ek2' : (250 < nk) = False := eq_false (by omega)
  clear hk2
  have ev0 : ((0 : Int) < (nv : Int)) = True := eq_true (by omega)
  have ev0' : (0 < nv) = True := eq_true hv
  have HV1 := Lib.hid hv1
  clear hv hv1
  have k1 := (Blk.new w #[.int .u8 (mg : Nat), .int .u8 (op : Nat), .int .u16 (kl : Nat), .int .u8 (el : Nat), .int .u8 (ty : Nat), .int .u16 (st : Nat), .int .u32 (bl : Nat), .int .u32 (oq : Nat), .int .u64 (cas : Nat), .slice X nx cx, .slice K nk ck, .slice V nv cv] 61).alloc (.cells #[.int .i64 0, .bool false, .bool false, .int .i64 0, .int .u32 0, .slice none 0 0, .slice none 0 0, .int .u32 0, .int .u32 0, .int .u64 0, .int .u64 0, .int .u64 0] 26)
  have k2 := Blk.new (w.alloc (.cells #[.int .u8 (mg : Nat), .int .u8 (op : Nat), .int .u16 (kl : Nat), .int .u8 (el : Nat), .int .u8 (ty : Nat), .int .u16 (st : Nat), .int .u32 (bl : Nat), .int .u32 (oq : Nat), .int .u64 (cas : Nat), .slice X nx cx, .slice K nk ck, .slice V nv cv] 61)) #[.int .i64 0, .bool false, .bool false, .int .i64 0, .int .u32 0, .slice none 0 0, .slice none 0 0, .int .u32 0, .int .u32 0, .int .u64 0, .int .u64 0, .int .u64 0] 26
  have b := below_a1' (below_a1' (Below.refl w.heap.size w) (.cells #[.int .u8 (mg : Nat), .int .u8 (op : Nat), .int .u16 (kl : Nat), .int .u8 (el : Nat), .int .u8 (ty : Nat), .int .u16 (st : Nat), .int .u32 (bl : Nat), .int .u32 (oq : Nat), .int .u64 (cas : Nat), .slice X nx cx, .slice K nk ck, .slice V nv cv] 61)) (.cells #[.int .i64 0, .bool false, .bool false, .int .i64 0, .int .u32 0, .slice none 0 0, .slice none 0 0, .int .u32 0, .int .u32 0, .int .u64 0, .int .u64 0, .int .u64 0] 26)
  rw [World.size_alloc] at k2
  unfold frV frC
  go_enter Try.func90, Try.ntmps90
  go_upto_region 1 with fail
  generalize (w.alloc (.cells #[.int .u8 (mg : Nat), .int .u8 (op : Nat), .int .u16 (kl : Nat), .int .u8 (el : Nat), .int .u8 (ty : Nat), .int .u16 (st : Nat), .int .u32 (bl : Nat), .int .u32 (oq : Nat), .int .u64 (cas : Nat), .slice X nx cx, .slice K nk ck, .slice V nv cv] 61)).alloc (.cells #[.int .i64 0, .bool false, .bool false, .int .i64 0, .int .u32 0, .slice none 0 0, .slice none 0 0, .int .u32 0, .int .u32 0, .int .u64 0, .int .u64 0, .int .u64 0] 26) = W0 at k1 k2 b ⊢
  have ho : IntKind.i64.wrap ((op : Nat) : Int) = ((op : Nat) : Int) := wrap_small (by omega) (by omega)
  obtain ⟨p0, p1, p2, p3, p4, p5, p6, p7, p8, p9, p10, p11⟩ := box12 k1
  go_wp2_with fail
  refine (rows_any W0).mono ?_
  rintro e w1 ⟨m, rfl, hm, hge, b1⟩
  replace k1 := k1.step b1
  replace k2 := k2.step b1
  replace b := below_step b b1
  clear b1 ho p0 p1 p2 p3 p4 p5 p6 p7 p8 p9 p10 p11
  go_upto_region 3 with (refine wpl_lookYes _ rfl _ _ _ rfl Try.underlying137 m op rfl hm rfl o q f HR.out ?_)
  have hl2 := k2.lt
  have k4 := Blk.new w1 #[.int .i64 (o : Nat), .bool q, .bool f] 140
  have b4 := below_a1' (Below.refl w1.heap.size w1) (.cells #[.int .i64 (o : Nat), .bool q, .bool f] 140)
  replace k1 := k1.step b4
  replace k2 := k2.step b4
  replace b := below_step b b4
  clear hm hge b4
  have hg4 := k2.lt
  generalize hW : w1.alloc (.cells #[.int .i64 (o : Nat), .bool q, .bool f] 140) = W3 at k1 k2 k4 b hg4 ⊢
  have hs4 : w.heap.size + 2 ≤ w1.heap.size := hl2
  clear hW
  generalize w1.heap.size = g4 at k4 hs4 ⊢
  obtain ⟨p0, p1, p2, p3, p4, p5, p6, p7, p8, p9, p10, p11⟩ := box12 k1
  obtain ⟨x0, x1, x2⟩ := box3 k4
  go_upto_region 4 with fail
  have k6 := Blk.new W3 #[.int .i64 (o : Nat), .bool q, .bool f, .int .i64 0, .int .u32 (oq : Nat), .slice none 0 0, .slice none 0 0, .int .u32 0, .int .u32 0, .int .u64 0, .int .u64 0, .int .u64 0] 26
  have b4 := below_a1' (Below.refl W3.heap.size W3) (.cells #[.int .i64 (o : Nat), .bool q, .bool f, .int .i64 0, .int .u32 (oq : Nat), .slice none 0 0, .slice none 0 0, .int .u32 0, .int .u32 0, .int .u64 0, .int .u64 0, .int .u64 0] 26)
  replace k1 := k1.step b4
  replace k2 := k2.step b4
  have hg6 := k4.lt
  replace k4 := k4.step b4
  replace b := below_step b b4
  clear b4 p0 p1 p2 p3 p4 p5 p6 p7 p8 p9 p10 p11 x0 x1 x2
  generalize W3.alloc (.cells #[.int .i64 (o : Nat), .bool q, .bool f, .int .i64 0, .int .u32 (oq : Nat), .slice none 0 0, .slice none 0 0, .int .u32 0, .int .u32 0, .int .u64 0, .int .u64 0, .int .u64 0] 26) = W6 at k1 k2 k4 k6 b ⊢
  generalize W3.heap.size = g6 at k6 hg6 ⊢
  obtain ⟨p0, p1, p2, p3, p4, p5, p6, p7, p8, p9, p10, p11⟩ := box12 k1
  obtain ⟨x0, x1, x2⟩ := box3 k4
  have HS := Lib.hid (fun W => shaped_at hs W)
  go_wp2_with fail
  refine (HS.out _).mono ?_
  rintro e w7 ⟨rfl, b7⟩
  replace k1 := k1.step b7
  replace k2 := k2.step b7
  have hg4' := k4.lt
  replace k4 := k4.step b7
  replace k6 := k6.step b7
  replace b := below_step b b7
  clear b7 p0 p1 p2 p3 p4 p5 p6 p7 p8 p9 p10 p11 x0 x1 x2
  go_upto_region 8 with fail
  have k7 := Blk.new w7 #[.int .i64 (sx : Nat), .bool sk, .bool sv] 131
  have b4 := below_a1' (Below.refl w7.heap.size w7) (.cells #[.int .i64 (sx : Nat), .bool sk, .bool sv] 131)
  have hg7 := k6.lt
  replace k1 := k1.step b4
  replace k2 := k2.step b4
  replace k4 := k4.step b4
  replace k6 := k6.step b4
  replace b := below_step b b4
  clear b4
  generalize w7.alloc (.cells #[.int .i64 (sx : Nat), .bool sk, .bool sv] 131) = W8 at k1 k2 k4 k6 k7 b ⊢
  generalize w7.heap.size = g7 at k7 hg7 ⊢
  obtain ⟨p0, p1, p2, p3, p4, p5, p6, p7, p8, p9, p10, p11⟩ := box12 k1
  obtain ⟨x0, x1, x2⟩ := box3 k4
  obtain ⟨s0, s1, s2⟩ := box3 k7
  go_cut [8] (fun s8 wx => s8 = .bool later ∧ W8 = wx)
  case first =>
    by_cases h8 : o = 8
    · subst h8
      by_cases h4 : nx = 4
      · have HL2 : Hid (later = true) := Lib.hid (by rw [HL.out, h4]; rfl)
        have e4 : ((nx : Int) == 4) = true := beq_iff_eq.2 (by omega)
        clear h4
        go_wp2_with fail
        go_meet
        exact ⟨by rw [HL2.out], rfl⟩
      · have HL2 : Hid (later = false) := Lib.hid (by rw [HL.out, decide_eq_false h4]; rfl)
        have e4 : ((nx : Int) == 4) = false := beq_eq_false_iff_ne.2 (by omega)
        clear h4
        go_wp2_with fail
        go_meet
        exact ⟨by rw [HL2.out], rfl⟩
    · have HL2 : Hid (later = false) := Lib.hid (by rw [HL.out, decide_eq_false h8]; rfl)
      have e8 : ((o : Int) == 8) = false := beq_eq_false_iff_ne.2 (by omega)
      clear h8
      go_wp2_with fail
      go_meet
      exact ⟨by rw [HL2.out], rfl⟩
  case rest =>
    obtain ⟨rfl, rfl⟩ := hcut
    go_upto_region 9 with fail
    go_cut [48] (fun s48 wx => s48 = .bool false ∧ W8 = wx)
    case first =>
      cases hlt : later with
      | true =>
        subst hlt
        by_cases hn : nx = sx
        · have e9 : ((nx : Int) != (sx : Int)) = false := bne_eq_false_iff_eq.2 (by omega)
          clear hn
          go_wp2_with fail
          go_meet
          exact ⟨rfl, rfl⟩
        · have e9 : ((nx : Int) != (sx : Int)) = true := bne_iff_ne.2 (by omega)
          clear hn
          go_wp2_with fail
          go_meet
          exact ⟨rfl, rfl⟩
      | false =>
        subst hlt
        have e9 : ((nx : Int) != (sx : Int)) = false := bne_eq_false_iff_eq.2 (by rcases HX.out with h | h; omega; cases h)
        go_wp2_with fail
        go_meet
        exact ⟨rfl, rfl⟩
    case rest =>
      obtain ⟨rfl, rfl⟩ := hcut
      go_upto_region 10 with fail
      go_cut [48] (fun s48 wx => s48 = .bool false ∧ W8 = wx)
      case first =>
        by_cases h0 : (0 : Int) < (nk : Int)
        · have ev : ((0 : Int) < (nk : Int)) = True := eq_true h0
          have ev' : (0 < nk) = True := eq_true (by omega)
          obtain rfl : true = sk := by rw [← HK.out, decide_eq_true h0]
          clear h0
          go_wp2_with fail
          go_meet
          exact ⟨rfl, rfl⟩
        · have ev : ((0 : Int) < (nk : Int)) = False := eq_false h0
          have ev' : (0 < nk) = False := eq_false (by omega)
          obtain rfl : false = sk := by rw [← HK.out, decide_eq_false h0]
          clear h0
          go_wp2_with fail
          go_meet
          exact ⟨rfl, rfl⟩
      case rest =>
        obtain ⟨rfl, rfl⟩ := hcut
        obtain rfl : sv = false := HV1.out
        have y3 := k6.frozen 3
        obtain ⟨z0, z1, z2, z3, z4, z5, z6, z7, z8, z9, z10, z11⟩ := box12 k6
        go_upto_region 14 with fail
        have gq := rdr_grown_set W8 g6 3 (.int .i64 4)
        replace k2 := k2.leftC gq (by omega)
        replace b := b.trans (below_grown gq (by omega) k6.lt)
        have kq : Blk (W8.setCell ⟨g6, 3, none⟩ (.int .i64 4)) g6 #[.int .i64 (o : Nat), .bool q, .bool f, .int .i64 4, .int .u32 (oq : Nat), .slice none 0 0, .slice none 0 0, .int .u32 0, .int .u32 0, .int .u64 0, .int .u64 0, .int .u64 0] 26 := k6.set_ 3 _
        clear k1 k4 k6 k7 gq y3 z0 z1 z2 z3 z4 z5 z6 z7 z8 z9 z10 z11 p0 p1 p2 p3 p4 p5 p6 p7 p8 p9 p10 p11 x0 x1 x2 s0 s1 s2
        generalize W8.setCell ⟨g6, 3, none⟩ (.int .i64 4) = W9 at kq k2 b ⊢
        obtain ⟨z0, z1, z2, z3, z4, z5, z6, z7, z8, z9, z10, z11⟩ := box12 kq
        obtain ⟨u0, u1, u2, u3, u4, u5, u6, u7, u8, u9, u10, u11⟩ := box12 k2
        have y0 := k2.frozen 0
        have y1 := k2.frozen 1
        have y2 := k2.frozen 2
        have y3 := k2.frozen 3
        have y4 := k2.frozen 4
        have y5 := k2.frozen 5
        have y6 := k2.frozen 6
        have y7 := k2.frozen 7
        have y8 := k2.frozen 8
        have y9 := k2.frozen 9
        have y10 := k2.frozen 10
        have y11 := k2.frozen 11
        have kf := blk_set12 k2 (.int .i64 (o : Nat)) (.bool q) (.bool f) (.int .i64 4) (.int .u32 (oq : Nat)) (.slice none 0 0) (.slice none 0 0) (.int .u32 0) (.int .u32 0) (.int .u64 0) (.int .u64 0) (.int .u64 0)
        have gs := grown_set12 W9 (w.heap.size + 1) (.int .i64 (o : Nat)) (.bool q) (.bool f) (.int .i64 4) (.int .u32 (oq : Nat)) (.slice none 0 0) (.slice none 0 0) (.int .u32 0) (.int .u32 0) (.int .u64 0) (.int .u64 0) (.int .u64 0)
        have bf := b.trans (below_grown gs (by omega) k2.lt)
        obtain ⟨t0, t1, t2, t3, t4, t5, t6, t7, t8, t9, t10, t11⟩ := box12 kf
        clear kf gs b k2 kq
        go_wp2_with fail
        refine bodyPost_ret (v := .agg #[.int .i64 (o : Nat), .bool q, .bool f, .int .i64 4, .int .u32 (oq : Nat), .slice none 0 0, .slice none 0 0, .int .u32 0, .int .u32 0, .int .u64 0, .int .u64 0, .int .u64 0]) (by simp [results, Try.results90, go_sem, t0, t1, t2, t3, t4, t5, t6, t7, t8, t9, t10, t11]) rfl ?_
        exact ⟨_, _, _, _, _, _, rfl, Own.nil _ _, Own.nil _ _, bf⟩
set_option maxRecDepth 100000 in
set_option maxHeartbeats 4000000 in
theorem preq_b (mg op kl el ty st bl oq cas : Nat) (X K V : Option Addr) (nx cx nk ck nv cv : Nat) (lx lk lv : List UInt8) (w : World) (rX : Rd w w.heap.size X nx cx lx) (rK : Rd w w.heap.size K nk ck lk) (rV : Rd w w.heap.size V nv cv lv) (hop : op < 256) (o : Nat) (q f : Bool) (hr : rowOf op = some (o, q, f)) (sx : Nat) (sk sv : Bool) (hs : shapeOf (o : Int) = (sx, sk, sv)) (later : Bool) (hl : later = (decide (o = 8) && decide (nx = 4))) (hx : nx = sx ∨ later = true) (hk : decide ((0 : Int) < (nk : Int)) = sk) (hk2 : nk ≤ 250) (hv : 0 < nv → sv = true) (hv2 : 512 < nv) :
    Calls Try.prog 90 #[frV mg op kl el ty st bl oq cas (.slice X nx cx) (.slice K nk ck) (.slice V nv cv)] w (ReqQ (o : Int) q f 3 oq [] [] 0 0 0 0 0 w) := by
  have HR := Lib.hid hr
  have HL := Lib.hid hl
  have HX := Lib.hid hx
  have HK := Lib.hid hk
  have HV := Lib.hid hv
  clear hr hl hx hk hv
  have ek2 : ((250 : Int) < (nk : Int)) = False := eq_false (by omega)
  have ek2' : (250 < nk) = False := eq_false (by omega)
  clear hk2
  have ev2 : ((512 : Int) < (nv : Int)) = True := eq_true (by omega)
  have ev2' : (512 < nv) = True := eq_true hv2
  clear hv2
  have k1 := (Blk.new w #[.int .u8 (mg : Nat), .int .u8 (op : Nat), .int .u16 (kl : Nat), .int .u8 (el : Nat), .int .u8 (ty : Nat), .int .u16 (st : Nat), .int .u32 (bl : Nat), .int .u32 (oq : Nat), .int .u64 (cas : Nat), .slice X nx cx, .slice K nk ck, .slice V nv cv] 61).alloc (.cells #[.int .i64 0, .bool false, .bool false, .int .i64 0, .int .u32 0, .slice none 0 0, .slice none 0 0, .int .u32 0, .int .u32 0, .int .u64 0, .int .u64 0, .int .u64 0] 26)
  have k2 := Blk.new (w.alloc (.cells #[.int .u8 (mg : Nat), .int .u8 (op : Nat), .int .u16 (kl : Nat), .int .u8 (el : Nat), .int .u8 (ty : Nat), .int .u16 (st : Nat), .int .u32 (bl : Nat), .int .u32 (oq : Nat), .int .u64 (cas : Nat), .slice X nx cx, .slice K nk ck, .slice V nv cv] 61)) #[.int .i64 0, .bool false, .bool false, .int .i64 0, .int .u32 0, .slice none 0 0, .slice none 0 0, .int .u32 0, .int .u32 0, .int .u64 0, .int .u64 0, .int .u64 0] 26
  have b := below_a1' (below_a1' (Below.refl w.heap.size w) (.cells #[.int .u8 (mg : Nat), .int .u8 (op : Nat), .int .u16 (kl : Nat), .int .u8 (el : Nat), .int .u8 (ty : Nat), .int .u16 (st : Nat), .int .u32 (bl : Nat), .int .u32 (oq : Nat), .int .u64 (cas : Nat), .slice X nx cx, .slice K nk ck, .slice V nv cv] 61)) (.cells #[.int .i64 0, .bool false, .bool false, .int .i64 0, .int .u32 0, .slice none 0 0, .slice none 0 0, .int .u32 0, .int .u32 0, .int .u64 0, .int .u64 0, .int .u64 0] 26)
  rw [World.size_alloc] at k2
  unfold frV frC
  go_enter Try.func90, Try.ntmps90
  go_upto_region 1 with fail
  generalize (w.alloc (.cells #[.int .u8 (mg : Nat), .int .u8 (op : Nat), .int .u16 (kl : Nat), .int .u8 (el : Nat), .int .u8 (ty : Nat), .int .u16 (st : Nat), .int .u32 (bl : Nat), .int .u32 (oq : Nat), .int .u64 (cas : Nat), .slice X nx cx, .slice K nk ck, .slice V nv cv] 61)).alloc (.cells #[.int .i64 0, .bool false, .bool false, .int .i64 0, .int .u32 0, .slice none 0 0, .slice none 0 0, .int .u32 0, .int .u32 0, .int .u64 0, .int .u64 0, .int .u64 0] 26) = W0 at k1 k2 b ⊢
  have ho : IntKind.i64.wrap ((op : Nat) : Int) = ((op : Nat) : Int) := wrap_small (by omega) (by omega)
  obtain ⟨p0, p1, p2, p3, p4, p5, p6, p7, p8, p9, p10, p11⟩ := box12 k1
  go_wp2_with fail
  refine (rows_any W0).mono ?_
  rintro e w1 ⟨m, rfl, hm, hge, b1⟩
  replace k1 := k1.step b1
  replace k2 := k2.step b1
  replace b := below_step b b1
  clear b1 ho p0 p1 p2 p3 p4 p5 p6 p7 p8 p9 p10 p11
  go_upto_region 3 with (refine wpl_lookYes _ rfl _ _ _ rfl Try.underlying137 m op rfl hm rfl o q f HR.out ?_)
  have hl2 := k2.lt
  have k4 := Blk.new w1 #[.int .i64 (o : Nat), .bool q, .bool f] 140
  have b4 := below_a1' (Below.refl w1.heap.size w1) (.cells #[.int .i64 (o : Nat), .bool q, .bool f] 140)
  replace k1 := k1.step b4
  replace k2 := k2.step b4
  replace b := below_step b b4
  clear hm hge b4
  have hg4 := k2.lt
  generalize hW : w1.alloc (.cells #[.int .i64 (o : Nat), .bool q, .bool f] 140) = W3 at k1 k2 k4 b hg4 ⊢
  have hs4 : w.heap.size + 2 ≤ w1.heap.size := hl2
  clear hW
  generalize w1.heap.size = g4 at k4 hs4 ⊢
  obtain ⟨p0, p1, p2, p3, p4, p5, p6, p7, p8, p9, p10, p11⟩ := box12 k1
  obtain ⟨x0, x1, x2⟩ := box3 k4
  go_upto_region 4 with fail
  have k6 := Blk.new W3 #[.int .i64 (o : Nat), .bool q, .bool f, .int .i64 0, .int .u32 (oq : Nat), .slice none 0 0, .slice none 0 0, .int .u32 0, .int .u32 0, .int .u64 0, .int .u64 0, .int .u64 0] 26
  have b4 := below_a1' (Below.refl W3.heap.size W3) (.cells #[.int .i64 (o : Nat), .bool q, .bool f, .int .i64 0, .int .u32 (oq : Nat), .slice none 0 0, .slice none 0 0, .int .u32 0, .int .u32 0, .int .u64 0, .int .u64 0, .int .u64 0] 26)
  replace k1 := k1.step b4
  replace k2 := k2.step b4
  have hg6 := k4.lt
  replace k4 := k4.step b4
  replace b := below_step b b4
  clear b4 p0 p1 p2 p3 p4 p5 p6 p7 p8 p9 p10 p11 x0 x1 x2
  generalize W3.alloc (.cells #[.int .i64 (o : Nat), .bool q, .bool f, .int .i64 0, .int .u32 (oq : Nat), .slice none 0 0, .slice none 0 0, .int .u32 0, .int .u32 0, .int .u64 0, .int .u64 0, .int .u64 0] 26) = W6 at k1 k2 k4 k6 b ⊢
  generalize W3.heap.size = g6 at k6 hg6 ⊢
  obtain ⟨p0, p1, p2, p3, p4, p5, p6, p7, p8, p9, p10, p11⟩ := box12 k1
  obtain ⟨x0, x1, x2⟩ := box3 k4
  have HS := Lib.hid (fun W => shaped_at hs W)
  go_wp2_with fail
  refine (HS.out _).mono ?_
  rintro e w7 ⟨rfl, b7⟩
  replace k1 := k1.step b7
  replace k2 := k2.step b7
  have hg4' := k4.lt
  replace k4 := k4.step b7
  replace k6 := k6.step b7
  replace b := below_step b b7
  clear b7 p0 p1 p2 p3 p4 p5 p6 p7 p8 p9 p10 p11 x0 x1 x2
  go_upto_region 8 with fail
  have k7 := Blk.new w7 #[.int .i64 (sx : Nat), .bool sk, .bool sv] 131
  have b4 := below_a1' (Below.refl w7.heap.size w7) (.cells #[.int .i64 (sx : Nat), .bool sk, .bool sv] 131)
  have hg7 := k6.lt
  replace k1 := k1.step b4
  replace k2 := k2.step b4
  replace k4 := k4.step b4
  replace k6 := k6.step b4
  replace b := below_step b b4
  clear b4
  generalize w7.alloc (.cells #[.int .i64 (sx : Nat), .bool sk, .bool sv] 131) = W8 at k1 k2 k4 k6 k7 b ⊢
  generalize w7.heap.size = g7 at k7 hg7 ⊢
  obtain ⟨p0, p1, p2, p3, p4, p5, p6, p7, p8, p9, p10, p11⟩ := box12 k1
  obtain ⟨x0, x1, x2⟩ := box3 k4
  obtain ⟨s0, s1, s2⟩ := box3 k7
  go_cut [8] (fun s8 wx => s8 = .bool later ∧ W8 = wx)
  case first =>
    by_cases h8 : o = 8
    · subst h8
      by_cases h4 : nx = 4
      · have HL2 : Hid (later = true) := Lib.hid (by rw [HL.out, h4]; rfl)
        have e4 : ((nx : Int) == 4) = true := beq_iff_eq.2 (by omega)
        clear h4
        go_wp2_with fail
        go_meet
        exact ⟨by rw [HL2.out], rfl⟩
      · have HL2 : Hid (later = false) := Lib.hid (by rw [HL.out, decide_eq_false h4]; rfl)
        have e4 : ((nx : Int) == 4) = false := beq_eq_false_iff_ne.2 (by omega)
        clear h4
        go_wp2_with fail
        go_meet
        exact ⟨by rw [HL2.out], rfl⟩
    · have HL2 : Hid (later = false) := Lib.hid (by rw [HL.out, decide_eq_false h8]; rfl)
      have e8 : ((o : Int) == 8) = false := beq_eq_false_iff_ne.2 (by omega)
      clear h8
      go_wp2_with fail
      go_meet
      exact ⟨by rw [HL2.out], rfl⟩
  case rest =>
    obtain ⟨rfl, rfl⟩ := hcut
    go_upto_region 9 with fail
    go_cut [48] (fun s48 wx => s48 = .bool false ∧ W8 = wx)
    case first =>
      cases hlt : later with
      | true =>
        subst hlt
        by_cases hn : nx = sx
        · have e9 : ((nx : Int) != (sx : Int)) = false := bne_eq_false_iff_eq.2 (by omega)
          clear hn
          go_wp2_with fail
          go_meet
          exact ⟨rfl, rfl⟩
        · have e9 : ((nx : Int) != (sx : Int)) = true := bne_iff_ne.2 (by omega)
          clear hn
          go_wp2_with fail
          go_meet
          exact ⟨rfl, rfl⟩
      | false =>
        subst hlt
        have e9 : ((nx : Int) != (sx : Int)) = false := bne_eq_false_iff_eq.2 (by rcases HX.out with h | h; omega; cases h)
        go_wp2_with fail
        go_meet
        exact ⟨rfl, rfl⟩
    case rest =>
      obtain ⟨rfl, rfl⟩ := hcut
      go_upto_region 10 with fail
      go_cut [48] (fun s48 wx => s48 = .bool false ∧ W8 = wx)
      case first =>
        by_cases h0 : (0 : Int) < (nk : Int)
        · have ev : ((0 : Int) < (nk : Int)) = True := eq_true h0
          have ev' : (0 < nk) = True := eq_true (by omega)
          obtain rfl : true = sk := by rw [← HK.out, decide_eq_true h0]
          clear h0
          go_wp2_with fail
          go_meet
          exact ⟨rfl, rfl⟩
        · have ev : ((0 : Int) < (nk : Int)) = False := eq_false h0
          have ev' : (0 < nk) = False := eq_false (by omega)
          obtain rfl : false = sk := by rw [← HK.out, decide_eq_false h0]
          clear h0
          go_wp2_with fail
          go_meet
          exact ⟨rfl, rfl⟩
      case rest =>
        obtain ⟨rfl, rfl⟩ := hcut
        go_upto_region 12 with fail
        go_cut [48] (fun s48 wx => s48 = .bool false ∧ W8 = wx)
        case first =>
          by_cases h0 : (0 : Int) < (nv : Int)
          · have ev : ((0 : Int) < (nv : Int)) = True := eq_true h0
            have ev' : (0 < nv) = True := eq_true (by omega)
            obtain rfl : sv = true := HV.out (by omega)
            clear h0
            go_wp2_with fail
            go_meet
            exact ⟨rfl, rfl⟩
          · have ev : ((0 : Int) < (nv : Int)) = False := eq_false h0
            have ev' : (0 < nv) = False := eq_false (by omega)
            clear h0
            go_wp2_with fail
            go_meet
            exact ⟨rfl, rfl⟩
        case rest =>
          obtain ⟨rfl, rfl⟩ := hcut
          have y3 := k6.frozen 3
          obtain ⟨z0, z1, z2, z3, z4, z5, z6, z7, z8, z9, z10, z11⟩ := box12 k6
          go_upto_region 17 with fail
          have gq := rdr_grown_set W8 g6 3 (.int .i64 3)
          replace k2 := k2.leftC gq (by omega)
          replace b := b.trans (below_grown gq (by omega) k6.lt)
          have kq : Blk (W8.setCell ⟨g6, 3, none⟩ (.int .i64 3)) g6 #[.int .i64 (o : Nat), .bool q, .bool f, .int .i64 3, .int .u32 (oq : Nat), .slice none 0 0, .slice none 0 0, .int .u32 0, .int .u32 0, .int .u64 0, .int .u64 0, .int .u64 0] 26 := k6.set_ 3 _
          clear k1 k4 k6 k7 gq y3 z0 z1 z2 z3 z4 z5 z6 z7 z8 z9 z10 z11 p0 p1 p2 p3 p4 p5 p6 p7 p8 p9 p10 p11 x0 x1 x2 s0 s1 s2
          generalize W8.setCell ⟨g6, 3, none⟩ (.int .i64 3) = W9 at kq k2 b ⊢
          obtain ⟨z0, z1, z2, z3, z4, z5, z6, z7, z8, z9, z10, z11⟩ := box12 kq
          obtain ⟨u0, u1, u2, u3, u4, u5, u6, u7, u8, u9, u10, u11⟩ := box12 k2
          have y0 := k2.frozen 0
          have y1 := k2.frozen 1
          have y2 := k2.frozen 2
          have y3 := k2.frozen 3
          have y4 := k2.frozen 4
          have y5 := k2.frozen 5
          have y6 := k2.frozen 6
          have y7 := k2.frozen 7
          have y8 := k2.frozen 8
          have y9 := k2.frozen 9
          have y10 := k2.frozen 10
          have y11 := k2.frozen 11
          have kf := blk_set12 k2 (.int .i64 (o : Nat)) (.bool q) (.bool f) (.int .i64 3) (.int .u32 (oq : Nat)) (.slice none 0 0) (.slice none 0 0) (.int .u32 0) (.int .u32 0) (.int .u64 0) (.int .u64 0) (.int .u64 0)
          have gs := grown_set12 W9 (w.heap.size + 1) (.int .i64 (o : Nat)) (.bool q) (.bool f) (.int .i64 3) (.int .u32 (oq : Nat)) (.slice none 0 0) (.slice none 0 0) (.int .u32 0) (.int .u32 0) (.int .u64 0) (.int .u64 0) (.int .u64 0)
          have bf := b.trans (below_grown gs (by omega) k2.lt)
          obtain ⟨t0, t1, t2, t3, t4, t5, t6, t7, t8, t9, t10, t11⟩ := box12 kf
          clear kf gs b k2 kq
          go_wp2_with fail
          refine bodyPost_ret (v := .agg #[.int .i64 (o : Nat), .bool q, .bool f, .int .i64 3, .int .u32 (oq : Nat), .slice none 0 0, .slice none 0 0, .int .u32 0, .int .u32 0, .int .u64 0, .int .u64 0, .int .u64 0]) (by simp [results, Try.results90, go_sem, t0, t1, t2, t3, t4, t5, t6, t7, t8, t9, t10, t11]) rfl ?_
          exact ⟨_, _, _, _, _, _, rfl, Own.nil _ _, Own.nil _ _, bf⟩
end
section
open Go.RowKit
def PrsA (w : World) (g : Nat) (A : Option Addr) (n c : Nat) (l : List UInt8) (br : Bool) : Prop := Blk w g #[.slice A n c, .bool br] 127 ∧ Que w (g + 1) A n c l
structure TwoK (w w' : World) (g : Nat) (r : Option Nat) : Prop where
  os : w'.os = w.os
  tape : w'.tape = w.tape
  output : w'.output = w.output
  size : w.heap.size ≤ w'.heap.size
  block : ∀ k, k < w.heap.size → k ≠ g → some k ≠ r → w'.heap[k]? = w.heap[k]?
theorem TwoK.of_grown {w w' : World} {g : Nat} {r : Option Nat} (h : w.grownBy w' (some g)) : TwoK w w' g r := ⟨h.os, h.tape, h.output, h.size, fun k hk hg _ => h.block k hk (fun e => hg (by injection e))⟩
theorem TwoK.below {w w' : World} {g B : Nat} {r : Option Nat} (h : TwoK w w' g r) (hg : B ≤ g) (hr : ∀ k, r = some k → B ≤ k) (hB : B ≤ w.heap.size) : Below B w w' :=
  ⟨h.os, h.tape, h.output, h.size, fun k hk => h.block k (by omega) (by omega) (fun e => by have := hr k e.symm; omega)⟩
theorem PrsA.lt {w : World} {g n c : Nat} {A : Option Addr} {l : List UInt8} {br : Bool} (h : PrsA w g A n c l br) : g < w.heap.size := h.1.lt
theorem PrsA.step {w w' : World} {g n c : Nat} {A : Option Addr} {l : List UInt8} {br : Bool} (h : PrsA w g A n c l br) (hb : Below w.heap.size w w') : PrsA w' g A n c l br := ⟨h.1.step hb, h.2.below hb⟩
set_option maxRecDepth 100000 in
set_option maxHeartbeats 600000 in
theorem new_any (w : World) : Calls Try.prog 34 #[] w fun e w' => e = .returned (.pointer (some ⟨w.heap.size, 0, none⟩)) ∧ PrsA w' w.heap.size none 0 0 [] false ∧ Below w.heap.size w w' := by
  go_enter Try.func34, Try.ntmps34
  go_wp2_with fail
  go_ret
  exact ⟨rfl, ⟨Blk.new w _ _, Que.nil _ _⟩, below_a1' (Below.refl _ _) _⟩
set_option maxRecDepth 100000 in
set_option maxHeartbeats 600000 in
theorem feed_long (g n c : Nat) (A : Option Addr) (l : List UInt8) (A2 : Option Addr) (m c2 : Nat) (w : World) (h : PrsA w g A n c l false) (hm : 65536 < n + m) (hn : n + m ≤ 9223372036854775807) : Calls Try.prog 36 #[.pointer (some ⟨g, 0, none⟩), .slice A2 m c2] w fun e w' => e = .returned (.int .i64 3) ∧ w = w' := by
  obtain ⟨p0, p1⟩ := box2 h.1
  have W1 : IntKind.i64.wrap ((n : Int) + (m : Int)) = (n : Int) + (m : Int) := IntWalk.i64_in _ (by omega)
  have L1 : ((65536 : Int) < (n : Int) + (m : Int)) = True := eq_true (by omega)
  clear hm hn
  go_enter Try.func36, Try.ntmps36
  go_wp2_with fail
  go_ret
  exact ⟨rfl, rfl⟩
def FeedOk (g n m : Nat) (A : Option Addr) (l : List UInt8) (w : World) (e : Ending) (w' : World) : Prop := ∃ (A' : Option Addr) (c' : Nat), e = .returned (.int .i64 0) ∧ PrsA w' g A' (n + m) c' l false ∧ TwoK w w' g (Value.slice A n 0).ownBlock ∧ ((Value.slice A' n 0).ownBlock = (Value.slice A n 0).ownBlock ∨ (Value.slice A' n 0).ownBlock = some w.heap.size)
theorem ob_eq (A : Option Addr) (n c n' c' : Nat) : (Value.slice A n c).ownBlock = (Value.slice A n' c').ownBlock := by cases A <;> rfl
set_option maxRecDepth 100000 in
set_option maxHeartbeats 600000 in
theorem feed_ok (g n c : Nat) (A : Option Addr) (l : List UInt8) (A2 : Option Addr) (m c2 : Nat) (l2 : List UInt8) (w : World) (h : PrsA w g A n c l false) (r : Rd w w.heap.size A2 m c2 l2) (hm : n + m ≤ 65536) : Calls Try.prog 36 #[.pointer (some ⟨g, 0, none⟩), .slice A2 m c2] w (FeedOk g n m A (l ++ l2) w) := by
  have hlt := h.lt
  obtain ⟨kb, hq⟩ := h
  obtain ⟨p0, p1⟩ := box2 kb
  have W1 : IntKind.i64.wrap ((n : Int) + (m : Int)) = (n : Int) + (m : Int) := IntWalk.i64_in _ (by omega)
  have L1 : ((65536 : Int) < (n : Int) + (m : Int)) = False := eq_false (by omega)
  have HM := Lib.hid hm
  clear hm
  go_enter Try.func36, Try.ntmps36
  go_wp2_with (at_builtin; refine wpList_appQ _ rfl _ _ rfl (g + 1) A n c l rfl hq w.heap.size A2 m c2 l2 rfl r (by have := HM.out; omega) (by omega) ?_)
  intro A' c' w1 q1 g1 ho
  have hne : ∀ k, (Value.slice A n c).ownBlock = some k → g + 1 ≤ k := fun k hk => (hq.owner k hk).1
  have k1 : Blk w1 g #[.slice A n c, .bool false] 127 := (g1.block g hlt (fun e => by have := hne g e.symm; omega)).trans kb
  have y0 := k1.frozen 0
  clear p0 p1
  obtain ⟨p0, p1⟩ := box2 k1
  have HG := Lib.hid g1
  have HO := Lib.hid ho
  have HE := Lib.hid hne
  clear g1 ho hne hq kb
  go_wp2_with fail
  go_ret
  have gs := rdr_grown_set w1 g 0 (.slice A' (n + m) c')
  have g1 := HG.out
  refine ⟨A', c', rfl, ⟨k1.set_ 0 _, q1.kept gs (fun k hk => by injection hk with hk; omega)⟩, ⟨gs.os.trans g1.os, gs.tape.trans g1.tape, gs.output.trans g1.output, Nat.le_trans g1.size gs.size, fun k hk hkg hkr => ?_⟩, ?_⟩
  · exact (gs.block k (Nat.lt_of_lt_of_le hk g1.size) (fun e => hkg (by injection e))).trans (g1.block k hk (by rw [ob_eq A n c n 0]; exact hkr))
  · rw [ob_eq A' n 0 (n + m) c', ob_eq A n 0 n c]
    exact HO.out
def NextNo (err : Int) (w : World) (e : Ending) (w' : World) : Prop := e = .returned (.tuple #[.agg #[.int .i64 0, .bool false, .bool false, .int .i64 0, .int .u32 0, .slice none 0 0, .slice none 0 0, .int .u32 0, .int .u32 0, .int .u64 0, .int .u64 0, .int .u64 0], .bool false, .int .i64 err]) ∧ Below w.heap.size w w'
set_option maxRecDepth 100000 in
set_option maxHeartbeats 600000 in
theorem next_short (g n c : Nat) (A : Option Addr) (l : List UInt8) (w : World) (h : PrsA w g A n c l false) (hn : needE l = 9) : Calls Try.prog 49 #[.pointer (some ⟨g, 0, none⟩)] w (NextNo 0 w) := by
  have HC : Hid (∀ W, Rd W W.heap.size A n c l → Calls Try.prog 96 #[.slice A n c] W (NeedQ (needN l : Nat) 9 W)) := Lib.hid (fun W r => hn ▸ need_any A n c l W r)
  clear hn
  have k2 := Blk.new w #[.int .i64 0, .bool false, .bool false, .int .i64 0, .int .u32 0, .slice none 0 0, .slice none 0 0, .int .u32 0, .int .u32 0, .int .u64 0, .int .u64 0, .int .u64 0] 26
  have b := below_a1' (Below.refl w.heap.size w) (.cells #[.int .i64 0, .bool false, .bool false, .int .i64 0, .int .u32 0, .slice none 0 0, .slice none 0 0, .int .u32 0, .int .u32 0, .int .u64 0, .int .u64 0, .int .u64 0] 26)
  have kb := h.1.step b
  have hq := h.2.below b
  have hlt := h.lt
  clear h
  go_enter Try.func49, Try.ntmps49
  go_upto_region 1 with fail
  generalize w.alloc (.cells #[.int .i64 0, .bool false, .bool false, .int .i64 0, .int .u32 0, .slice none 0 0, .slice none 0 0, .int .u32 0, .int .u32 0, .int .u64 0, .int .u64 0, .int .u64 0] 26) = W0 at k2 b kb hq ⊢
  obtain ⟨p0, p1⟩ := box2 kb
  go_wp2_with fail
  refine (HC.out W0 hq.rd).mono ?_
  rintro e w1 ⟨rfl, bb⟩
  replace k2 := k2.step bb
  replace kb := kb.step bb
  replace hq := Que.below hq bb
  replace b := below_step b bb
  clear bb p0 p1
  obtain ⟨p0, p1⟩ := box2 kb
  have y0 := k2.frozen 0
  have y1 := k2.frozen 1
  have y2 := k2.frozen 2
  have y3 := k2.frozen 3
  have y4 := k2.frozen 4
  have y5 := k2.frozen 5
  have y6 := k2.frozen 6
  have y7 := k2.frozen 7
  have y8 := k2.frozen 8
  have y9 := k2.frozen 9
  have y10 := k2.frozen 10
  have y11 := k2.frozen 11
  obtain ⟨u0, u1, u2, u3, u4, u5, u6, u7, u8, u9, u10, u11⟩ := box12 k2
  have kf := blk_set12 k2 (.int .i64 0) (.bool false) (.bool false) (.int .i64 0) (.int .u32 0) (.slice none 0 0) (.slice none 0 0) (.int .u32 0) (.int .u32 0) (.int .u64 0) (.int .u64 0) (.int .u64 0)
  have gs := grown_set12 w1 w.heap.size (.int .i64 0) (.bool false) (.bool false) (.int .i64 0) (.int .u32 0) (.slice none 0 0) (.slice none 0 0) (.int .u32 0) (.int .u32 0) (.int .u64 0) (.int .u64 0) (.int .u64 0)
  have bf := b.trans (below_grown gs (Nat.le_refl _) k2.lt)
  obtain ⟨t0, t1, t2, t3, t4, t5, t6, t7, t8, t9, t10, t11⟩ := box12 kf
  clear kf gs b k2 kb
  go_wp2_with fail
  refine bodyPost_ret (v := .tuple #[.agg #[.int .i64 0, .bool false, .bool false, .int .i64 0, .int .u32 0, .slice none 0 0, .slice none 0 0, .int .u32 0, .int .u32 0, .int .u64 0, .int .u64 0, .int .u64 0], .bool false, .int .i64 0]) (by simp [results, Try.results49, go_sem, t0, t1, t2, t3, t4, t5, t6, t7, t8, t9, t10, t11]) rfl ?_
  exact ⟨rfl, bf⟩
end
section
open Go.RowKit
def rightB (mg ty : Nat) : Bool := mg == 128 && ty == 0
set_option maxRecDepth 100000 in
set_option maxHeartbeats 3000000 in
theorem pright_any (mg op kl el ty st bl oq cas : Nat) (w : World) : Calls Try.prog 98 #[.agg #[.int .u8 (mg : Nat), .int .u8 (op : Nat), .int .u16 (kl : Nat), .int .u8 (el : Nat), .int .u8 (ty : Nat), .int .u16 (st : Nat), .int .u32 (bl : Nat), .int .u32 (oq : Nat), .int .u64 (cas : Nat)]] w (BoxQ' (.bool (rightB mg ty)) w) := by
  unfold rightB
  by_cases h : mg = 128
  · have e1 : ((mg : Int) == 128) = true := beq_iff_eq.2 (by omega)
    by_cases h2 : ty = 0
    · have e2 : ((ty : Int) == 0) = true := beq_iff_eq.2 (by omega)
      have HR : Hid ((mg == 128 && ty == 0) = true) := Lib.hid (by subst h; subst h2; rfl)
      clear h h2
      go_enter Try.func98, Try.ntmps98
      go_wp2_with fail
      go_ret
      exact ⟨by rw [HR.out]; rfl, below_a1' (Below.refl _ _) _⟩
    · have e2 : ((ty : Int) == 0) = false := beq_eq_false_iff_ne.2 (by omega)
      have HR : Hid ((mg == 128 && ty == 0) = false) := Lib.hid (by rw [Bool.and_eq_false_iff]; right; exact beq_eq_false_iff_ne.2 h2)
      clear h h2
      go_enter Try.func98, Try.ntmps98
      go_wp2_with fail
      go_ret
      exact ⟨by rw [HR.out]; rfl, below_a1' (Below.refl _ _) _⟩
  · have e1 : ((mg : Int) == 128) = false := beq_eq_false_iff_ne.2 (by omega)
    have HR : Hid ((mg == 128 && ty == 0) = false) := Lib.hid (by rw [Bool.and_eq_false_iff]; left; exact beq_eq_false_iff_ne.2 h)
    clear h
    go_enter Try.func98, Try.ntmps98
    go_wp2_with fail
    go_ret
    exact ⟨by rw [HR.out]; rfl, below_a1' (Below.refl _ _) _⟩
def NextBad (g : Nat) (w : World) (e : Ending) (w' : World) : Prop := e = .returned (.tuple #[.agg #[.int .i64 0, .bool false, .bool false, .int .i64 0, .int .u32 0, .slice none 0 0, .slice none 0 0, .int .u32 0, .int .u32 0, .int .u64 0, .int .u64 0, .int .u64 0], .bool false, .int .i64 300]) ∧ PrsA w' g none 0 0 [] true ∧ w.grownBy w' (some g)
def GhP (mg op kl el ty st bl oq cas : Nat) (er : Int) (w : World) (e : Ending) (w' : World) : Prop := e = .returned (.tuple #[.agg #[.int .u8 (mg : Nat), .int .u8 (op : Nat), .int .u16 (kl : Nat), .int .u8 (el : Nat), .int .u8 (ty : Nat), .int .u16 (st : Nat), .int .u32 (bl : Nat), .int .u32 (oq : Nat), .int .u64 (cas : Nat)], .int .i64 er]) ∧ Below w.heap.size w w'
theorem needN_of {l : List UInt8} (h : needE l = 0) : needN l = 24 + fld l 8 4 := by unfold needN; rw [if_pos h]
theorem need_290 {l : List UInt8} (h : needE l = 290) : 24 ≤ l.length ∧ mayB (fld l 0 1) (fld l 2 2) (fld l 4 1) (fld l 8 4) = false := by
  unfold needE at h
  split at h
  · cases h
  · split at h
    · split at h <;> cases h
    · rename_i h1 h2
      exact ⟨by omega, by simpa using h2⟩
theorem need_3 {l : List UInt8} (h : needE l = 3) : 24 ≤ l.length ∧ mayB (fld l 0 1) (fld l 2 2) (fld l 4 1) (fld l 8 4) = true ∧ 2048 < fld l 8 4 := by
  unfold needE at h
  split at h
  · cases h
  · split at h
    · split at h
      · exact ⟨by omega, by assumption, by assumption⟩
      · cases h
    · cases h
theorem needE_cases (l : List UInt8) : needE l = 9 ∨ needE l = 290 ∨ needE l = 3 ∨ needE l = 0 := by
  unfold needE
  split
  · exact Or.inl rfl
  · split
    · split
      · exact Or.inr (Or.inr (Or.inl rfl))
      · exact Or.inr (Or.inr (Or.inr rfl))
    · exact Or.inr (Or.inl rfl)
theorem needE_take {l : List UInt8} {N : Nat} (h : 24 ≤ N) (hn : N ≤ l.length) : needE (l.take N) = needE l := by
  unfold needE
  rw [List.length_take, Nat.min_eq_left hn, fld_take (by omega), fld_take (by omega), fld_take (by omega), fld_take (by omega)]
  have h1 : (N < 24) = (l.length < 24) := by rw [eq_iff_iff]; omega
  simp only [h1]
theorem que_own (A : Option Addr) (c k : Nat) : (Value.slice (if c = k then A else A.map (·.add k)) 0 0).ownBlock = (Value.slice A 0 0).ownBlock := by
  split
  · rfl
  · cases A with
    | none => rfl
    | some a => show some (a.add k).block = some a.block; rw [block_add]
theorem slc_que {w : World} {B n c : Nat} {A : Option Addr} {l : List UInt8} (h : Que w B A n c l) (i : Nat) (I : Int) (hI : I = (i : Nat)) (hi : i ≤ n) : ∃ X cx, (∀ wx, (Instr.slice 23 (.slice A n c) (some (.int .i64 I)) none none).run Try.prog wx = .ok (.slice X (n - i) cx) wx) ∧ (∀ w' B', Que w' B' A n c l → Que w' B' X (n - i) cx (l.drop i)) ∧ (Value.slice X 0 0).ownBlock = (Value.slice A 0 0).ownBlock := by
  have hc := h.rd.cap
  have hcut : ∀ w' B', Que w' B' A n c l → _ := fun w' B' h' => h'.cut (k := i) hi
  refine ⟨_, _, fun wx => ?_, hcut, que_own A c i⟩
  rw [run_slice_l (P := Try.prog) wx _ A n c un8 .i64 I (by omega) (by omega), sz8 _ el8]
  simp [Result.andThen, sliced, hI]
theorem Que.keptO {w w' : World} {B n c : Nat} {A : Option Addr} {l : List UInt8} {row : Option Nat} (h : Que w B A n c l) (hg : w.grownBy w' row) (hne : ∀ k, (Value.slice A n c).ownBlock = some k → row ≠ some k) : Que w' B A n c l := by
  refine ⟨h.1, ?_⟩
  rcases h.2 with h' | ⟨g, i, cur, hv, hgb, hh, r⟩
  · exact .inl h'
  · exact .inr ⟨g, i, cur, hv, hgb, (hg.block g (Array.getElem?_eq_some_iff.1 hh).1 (fun e => hne g (by rw [hv]; rfl) e.symm)).trans hh, r⟩
theorem rd_off {w : World} {B n c g i : Nat} {A : Option Addr} {l : List UInt8} {v0 v1 u : Value} {T : TypeId} (r : Rd w B A n c l) (kb : Blk w g #[v0, v1] T) (h0 : ∀ x, v0 ≠ cb x) (h1 : ∀ x, v1 ≠ cb x) : Rd (w.setCell ⟨g, i, none⟩ u) B A n c l := by
  obtain ⟨a1, a2, a3, a4, a5, a6⟩ := r
  refine ⟨a1, a2, a3, a4, a5, fun ad j v hA hu => ?_⟩
  have hc := a6 ad j v hA hu
  by_cases e : (ad.add j).block = g
  · exfalso
    rw [cbs_get?] at hu
    obtain ⟨x, hx, rfl⟩ := Option.map_eq_some_iff.1 hu
    have hb : w.heap[(ad.add j).block]? = some (.cells #[v0, v1] T (0, 0)) := by rw [e]; exact kb
    unfold World.cell? at hc
    rw [hb] at hc
    simp only at hc
    split at hc
    · cases hc
    · generalize (ad.add j).off = o at hc
      match o, hc with
      | 0, hc => exact h0 x (by simpa using hc)
      | 1, hc => exact h1 x (by simpa using hc)
      | k + 2, hc => simp at hc
  · exact (World.cell?_setCell_far w _ _ u (fun e' => e e'.symm)).trans hc
def GtP (mg op kl el ty st bl oq cas nx nk nv N : Nat) (lx lk lv : List UInt8) (w : World) (e : Ending) (w' : World) : Prop := ∃ (X : Option Addr) (cx : Nat) (K : Option Addr) (ck : Nat) (V : Option Addr) (cv : Nat), e = .returned (.tuple #[.agg #[.int .u8 (mg : Nat), .int .u8 (op : Nat), .int .u16 (kl : Nat), .int .u8 (el : Nat), .int .u8 (ty : Nat), .int .u16 (st : Nat), .int .u32 (bl : Nat), .int .u32 (oq : Nat), .int .u64 (cas : Nat), .slice X nx cx, .slice K nk ck, .slice V nv cv], .int .i64 (N : Nat), .int .i64 0]) ∧
  Rd w' w'.heap.size X nx cx lx ∧ Rd w' w'.heap.size K nk ck lk ∧ Rd w' w'.heap.size V nv cv lv ∧ Below w.heap.size w w'
def fxB (l : List UInt8) : List UInt8 := (l.drop 24).take (fld l 4 1)
def fkB (l : List UInt8) : List UInt8 := ((l.drop 24).drop (fld l 4 1)).take (fld l 2 2)
def fvB (l : List UInt8) : List UInt8 := ((l.drop 24).take (fld l 8 4)).drop (fld l 4 1 + fld l 2 2)
theorem lists_take {l : List UInt8} {N : Nat} (hN : N = 24 + fld l 8 4) (hm : fld l 2 2 + fld l 4 1 ≤ fld l 8 4) : fxB (l.take N) = fxB l ∧ fkB (l.take N) = fkB l ∧ fvB (l.take N) = fvB l := by
  unfold fxB fkB fvB
  rw [fld_take (by omega), fld_take (by omega), fld_take (by omega)]
  have e : (l.take N).drop 24 = (l.drop 24).take (fld l 8 4) := by rw [List.drop_take, show N - 24 = fld l 8 4 by omega]
  rw [e]
  refine ⟨?_, ?_, ?_⟩
  · rw [List.take_take, Nat.min_eq_left (by omega)]
  · rw [List.drop_take, List.take_take, Nat.min_eq_left (by omega)]
  · rw [List.take_take, Nat.min_self]
def ReqN (op' : Int) (qt' fu' : Bool) (bd' : Int) (oq' : Nat) (lk lv : List UInt8) (fl' ex' cs' dl' ini' : Nat) (w : World) (e : Ending) (w' : World) : Prop :=
  ∃ (K2 V2 : Option Addr) (nk2 ck2 nv2 cv2 : Nat), e = .returned (.agg #[.int .i64 op', .bool qt', .bool fu', .int .i64 bd', .int .u32 (oq' : Nat), .slice K2 nk2 ck2, .slice V2 nv2 cv2, .int .u32 (fl' : Nat), .int .u32 (ex' : Nat), .int .u64 (cs' : Nat), .int .u64 (dl' : Nat), .int .u64 (ini' : Nat)]) ∧ Own w' w.heap.size K2 nk2 ck2 lk ∧ Own w' w.heap.size V2 nv2 cv2 lv ∧ Below w.heap.size w w'
def NextOk (g N n : Nat) (A : Option Addr) (l : List UInt8) (op' : Int) (qt' fu' : Bool) (bd' : Int) (oq' : Nat) (lk' lv' : List UInt8) (fl' ex' cs' dl' ini' : Nat) (w : World) (e : Ending) (w' : World) : Prop :=
  ∃ (K2 V2 : Option Addr) (nk2 ck2 nv2 cv2 : Nat) (X3 : Option Addr) (cx3 : Nat), e = .returned (.tuple #[reqV op' qt' fu' bd' oq' (.slice K2 nk2 ck2) (.slice V2 nv2 cv2) fl' ex' cs' dl' ini', .bool true, .int .i64 0]) ∧ PrsA w' g X3 (n - N) cx3 (l.drop N) false ∧
    Own w' w.heap.size K2 nk2 ck2 lk' ∧ Own w' w.heap.size V2 nv2 cv2 lv' ∧ w.grownBy w' (some g) ∧ (Value.slice X3 0 0).ownBlock = (Value.slice A 0 0).ownBlock
set_option maxRecDepth 100000 in
set_option maxHeartbeats 3000000 in
theorem next_bad_m (g n c : Nat) (A : Option Addr) (l : List UInt8) (w : World) (h : PrsA w g A n c l false) (hn : needE l = 290) : Calls Try.prog 49 #[.pointer (some ⟨g, 0, none⟩)] w (NextBad g w) := by
  have HC : Hid (∀ W, Rd W W.heap.size A n c l → Calls Try.prog 96 #[.slice A n c] W (NeedQ (needN l : Nat) 290 W)) := Lib.hid (fun W r => hn ▸ need_any A n c l W r)
  have hh := need_290 hn
  have HGH : Hid (∀ W, Rd W W.heap.size A n c l → Calls Try.prog 97 #[.slice A n c] W fun e w' => e = .returned (.tuple #[.agg #[.int .u8 0, .int .u8 0, .int .u16 0, .int .u8 0, .int .u8 0, .int .u16 0, .int .u32 0, .int .u32 0, .int .u64 0], .int .i64 290]) ∧ Below W.heap.size W w') := Lib.hid (fun W r => gh_bad A n c l W r (by rw [← r.len]; exact hh.1) hh.2)
  clear hh hn
  have k2 := Blk.new w #[.int .i64 0, .bool false, .bool false, .int .i64 0, .int .u32 0, .slice none 0 0, .slice none 0 0, .int .u32 0, .int .u32 0, .int .u64 0, .int .u64 0, .int .u64 0] 26
  have b := below_a1' (Below.refl w.heap.size w) (.cells #[.int .i64 0, .bool false, .bool false, .int .i64 0, .int .u32 0, .slice none 0 0, .slice none 0 0, .int .u32 0, .int .u32 0, .int .u64 0, .int .u64 0, .int .u64 0] 26)
  have kb := h.1.step b
  have hq := h.2.below b
  have hlt := h.lt
  have ho := h.2.owner
  clear h
  go_enter Try.func49, Try.ntmps49
  go_upto_region 1 with fail
  generalize w.alloc (.cells #[.int .i64 0, .bool false, .bool false, .int .i64 0, .int .u32 0, .slice none 0 0, .slice none 0 0, .int .u32 0, .int .u32 0, .int .u64 0, .int .u64 0, .int .u64 0] 26) = W0 at k2 b kb hq ⊢
  obtain ⟨p0, p1⟩ := box2 kb
  go_wp2_with fail
  refine (HC.out W0 hq.rd).mono ?_
  rintro e w1 ⟨rfl, bb⟩
  replace k2 := k2.step bb
  replace kb := kb.step bb
  replace hq := Que.below hq bb
  replace b := below_step b bb
  clear bb p0 p1
  obtain ⟨p0, p1⟩ := box2 kb
  go_wp2_with fail
  refine (HGH.out w1 hq.rd).mono ?_
  rintro e w2 ⟨rfl, bb⟩
  replace k2 := k2.step bb
  replace kb := kb.step bb
  replace hq := Que.below hq bb
  replace b := below_step b bb
  clear bb p0 p1
  obtain ⟨p0, p1⟩ := box2 kb
  go_upto_region 9 with fail
  have k7 := Blk.new w2 #[.int .u8 0, .int .u8 0, .int .u16 0, .int .u8 0, .int .u8 0, .int .u16 0, .int .u32 0, .int .u32 0, .int .u64 0] 59
  have bb := below_a1' (Below.refl w2.heap.size w2) (.cells #[.int .u8 0, .int .u8 0, .int .u16 0, .int .u8 0, .int .u8 0, .int .u16 0, .int .u32 0, .int .u32 0, .int .u64 0] 59)
  have hg7 := kb.lt
  replace k2 := k2.step bb
  replace kb := kb.step bb
  replace hq := Que.below hq bb
  replace b := below_step b bb
  clear bb p0 p1
  generalize w2.alloc (.cells #[.int .u8 0, .int .u8 0, .int .u16 0, .int .u8 0, .int .u8 0, .int .u16 0, .int .u32 0, .int .u32 0, .int .u64 0] 59) = W7 at k2 b kb hq k7 ⊢
  generalize w2.heap.size = g7 at k7 hg7 ⊢
  obtain ⟨p0, p1⟩ := box2 kb
  obtain ⟨d0, d1, d2, d3, d4, d5, d6, d7, d8⟩ := box9 k7
  have ya := kb.frozen 0
  have yb := kb.frozen 1
  go_upto_region 11 with fail
  have gq := grown_trans (rdr_grown_set W7 g 1 (.bool true)) (rdr_grown_set _ g 0 (.slice none 0 0))
  have kq : Blk ((W7.setCell ⟨g, 1, none⟩ (.bool true)).setCell ⟨g, 0, none⟩ (.slice none 0 0)) g #[.slice none 0 0, .bool true] 127 := (kb.set_ 1 _).set_ 0 _
  have G := grown_trans (grown_of_below (row := some g) b) gq
  replace k2 := k2.leftC gq (by omega)
  clear ya yb p0 p1 gq kb hq b k7 d0 d1 d2 d3 d4 d5 d6 d7 d8
  generalize (W7.setCell ⟨g, 1, none⟩ (.bool true)).setCell ⟨g, 0, none⟩ (.slice none 0 0) = W11 at kq k2 G ⊢
  obtain ⟨u0, u1, u2, u3, u4, u5, u6, u7, u8, u9, u10, u11⟩ := box12 k2
  have y0 := k2.frozen 0
  have y1 := k2.frozen 1
  have y2 := k2.frozen 2
  have y3 := k2.frozen 3
  have y4 := k2.frozen 4
  have y5 := k2.frozen 5
  have y6 := k2.frozen 6
  have y7 := k2.frozen 7
  have y8 := k2.frozen 8
  have y9 := k2.frozen 9
  have y10 := k2.frozen 10
  have y11 := k2.frozen 11
  have kf := blk_set12 k2 (.int .i64 0) (.bool false) (.bool false) (.int .i64 0) (.int .u32 0) (.slice none 0 0) (.slice none 0 0) (.int .u32 0) (.int .u32 0) (.int .u64 0) (.int .u64 0) (.int .u64 0)
  have gs := grown_set12 W11 w.heap.size (.int .i64 0) (.bool false) (.bool false) (.int .i64 0) (.int .u32 0) (.slice none 0 0) (.slice none 0 0) (.int .u32 0) (.int .u32 0) (.int .u64 0) (.int .u64 0) (.int .u64 0)
  have kqf := kq.leftC gs (by omega)
  have Gf := grown_far G gs (Nat.le_refl _)
  clear kq G
  obtain ⟨t0, t1, t2, t3, t4, t5, t6, t7, t8, t9, t10, t11⟩ := box12 kf
  clear kf gs k2
  go_wp2_with fail
  refine bodyPost_ret (v := .tuple #[.agg #[.int .i64 0, .bool false, .bool false, .int .i64 0, .int .u32 0, .slice none 0 0, .slice none 0 0, .int .u32 0, .int .u32 0, .int .u64 0, .int .u64 0, .int .u64 0], .bool false, .int .i64 300]) (by simp [results, Try.results49, go_sem, t0, t1, t2, t3, t4, t5, t6, t7, t8, t9, t10, t11]) rfl ?_
  exact ⟨rfl, ⟨kqf, Que.nil _ _⟩, Gf⟩
set_option maxRecDepth 100000 in
set_option maxHeartbeats 3000000 in
theorem next_bad_l (g n c : Nat) (A : Option Addr) (l : List UInt8) (w : World) (h : PrsA w g A n c l false) (hn : needE l = 3) : Calls Try.prog 49 #[.pointer (some ⟨g, 0, none⟩)] w (NextBad g w) := by
  have HC : Hid (∀ W, Rd W W.heap.size A n c l → Calls Try.prog 96 #[.slice A n c] W (NeedQ (needN l : Nat) 3 W)) := Lib.hid (fun W r => hn ▸ need_any A n c l W r)
  have hh := need_3 hn
  obtain ⟨mg, emg⟩ : ∃ x, x = fld l 0 1 := ⟨_, rfl⟩
  obtain ⟨op, eop⟩ : ∃ x, x = fld l 1 1 := ⟨_, rfl⟩
  obtain ⟨kl, ekl⟩ : ∃ x, x = fld l 2 2 := ⟨_, rfl⟩
  obtain ⟨el, eel⟩ : ∃ x, x = fld l 4 1 := ⟨_, rfl⟩
  obtain ⟨ty, ety⟩ : ∃ x, x = fld l 5 1 := ⟨_, rfl⟩
  obtain ⟨st, est⟩ : ∃ x, x = fld l 6 2 := ⟨_, rfl⟩
  obtain ⟨bl, ebl⟩ : ∃ x, x = fld l 8 4 := ⟨_, rfl⟩
  obtain ⟨oq, eoq⟩ : ∃ x, x = fld l 12 4 := ⟨_, rfl⟩
  obtain ⟨cas, ecas⟩ : ∃ x, x = fld l 16 8 := ⟨_, rfl⟩
  have HGH : Hid (∀ W, Rd W W.heap.size A n c l → Calls Try.prog 97 #[.slice A n c] W (GhP mg op kl el ty st bl oq cas 0 W)) := Lib.hid (fun W r => by rw [emg, eop, ekl, eel, ety, est, ebl, eoq, ecas]; exact gh_ok A n c l W r (by rw [← r.len]; exact hh.1) hh.2.1)
  clear hh hn emg eop ekl eel ety est ebl eoq ecas
  have k2 := Blk.new w #[.int .i64 0, .bool false, .bool false, .int .i64 0, .int .u32 0, .slice none 0 0, .slice none 0 0, .int .u32 0, .int .u32 0, .int .u64 0, .int .u64 0, .int .u64 0] 26
  have b := below_a1' (Below.refl w.heap.size w) (.cells #[.int .i64 0, .bool false, .bool false, .int .i64 0, .int .u32 0, .slice none 0 0, .slice none 0 0, .int .u32 0, .int .u32 0, .int .u64 0, .int .u64 0, .int .u64 0] 26)
  have kb := h.1.step b
  have hq := h.2.below b
  have hlt := h.lt
  have ho := h.2.owner
  clear h
  go_enter Try.func49, Try.ntmps49
  go_upto_region 1 with fail
  generalize w.alloc (.cells #[.int .i64 0, .bool false, .bool false, .int .i64 0, .int .u32 0, .slice none 0 0, .slice none 0 0, .int .u32 0, .int .u32 0, .int .u64 0, .int .u64 0, .int .u64 0] 26) = W0 at k2 b kb hq ⊢
  obtain ⟨p0, p1⟩ := box2 kb
  go_wp2_with fail
  refine (HC.out W0 hq.rd).mono ?_
  rintro e w1 ⟨rfl, bb⟩
  replace k2 := k2.step bb
  replace kb := kb.step bb
  replace hq := Que.below hq bb
  replace b := below_step b bb
  clear bb p0 p1
  obtain ⟨p0, p1⟩ := box2 kb
  go_wp2_with fail
  refine (HGH.out w1 hq.rd).mono ?_
  rintro e w2 ⟨rfl, bb⟩
  replace k2 := k2.step bb
  replace kb := kb.step bb
  replace hq := Que.below hq bb
  replace b := below_step b bb
  clear bb p0 p1
  obtain ⟨p0, p1⟩ := box2 kb
  go_upto_region 9 with fail
  have k7 := Blk.new w2 #[.int .u8 (mg : Nat), .int .u8 (op : Nat), .int .u16 (kl : Nat), .int .u8 (el : Nat), .int .u8 (ty : Nat), .int .u16 (st : Nat), .int .u32 (bl : Nat), .int .u32 (oq : Nat), .int .u64 (cas : Nat)] 59
  have bb := below_a1' (Below.refl w2.heap.size w2) (.cells #[.int .u8 (mg : Nat), .int .u8 (op : Nat), .int .u16 (kl : Nat), .int .u8 (el : Nat), .int .u8 (ty : Nat), .int .u16 (st : Nat), .int .u32 (bl : Nat), .int .u32 (oq : Nat), .int .u64 (cas : Nat)] 59)
  have hg7 := kb.lt
  replace k2 := k2.step bb
  replace kb := kb.step bb
  replace hq := Que.below hq bb
  replace b := below_step b bb
  clear bb p0 p1
  generalize w2.alloc (.cells #[.int .u8 (mg : Nat), .int .u8 (op : Nat), .int .u16 (kl : Nat), .int .u8 (el : Nat), .int .u8 (ty : Nat), .int .u16 (st : Nat), .int .u32 (bl : Nat), .int .u32 (oq : Nat), .int .u64 (cas : Nat)] 59) = W7 at k2 b kb hq k7 ⊢
  generalize w2.heap.size = g7 at k7 hg7 ⊢
  obtain ⟨p0, p1⟩ := box2 kb
  obtain ⟨d0, d1, d2, d3, d4, d5, d6, d7, d8⟩ := box9 k7
  have ya := kb.frozen 0
  have yb := kb.frozen 1
  go_upto_region 11 with fail
  have gq := grown_trans (rdr_grown_set W7 g 1 (.bool true)) (rdr_grown_set _ g 0 (.slice none 0 0))
  have kq : Blk ((W7.setCell ⟨g, 1, none⟩ (.bool true)).setCell ⟨g, 0, none⟩ (.slice none 0 0)) g #[.slice none 0 0, .bool true] 127 := (kb.set_ 1 _).set_ 0 _
  have G := grown_trans (grown_of_below (row := some g) b) gq
  replace k2 := k2.leftC gq (by omega)
  clear ya yb p0 p1 gq kb hq b k7 d0 d1 d2 d3 d4 d5 d6 d7 d8
  generalize (W7.setCell ⟨g, 1, none⟩ (.bool true)).setCell ⟨g, 0, none⟩ (.slice none 0 0) = W11 at kq k2 G ⊢
  obtain ⟨u0, u1, u2, u3, u4, u5, u6, u7, u8, u9, u10, u11⟩ := box12 k2
  have y0 := k2.frozen 0
  have y1 := k2.frozen 1
  have y2 := k2.frozen 2
  have y3 := k2.frozen 3
  have y4 := k2.frozen 4
  have y5 := k2.frozen 5
  have y6 := k2.frozen 6
  have y7 := k2.frozen 7
  have y8 := k2.frozen 8
  have y9 := k2.frozen 9
  have y10 := k2.frozen 10
  have y11 := k2.frozen 11
  have kf := blk_set12 k2 (.int .i64 0) (.bool false) (.bool false) (.int .i64 0) (.int .u32 0) (.slice none 0 0) (.slice none 0 0) (.int .u32 0) (.int .u32 0) (.int .u64 0) (.int .u64 0) (.int .u64 0)
  have gs := grown_set12 W11 w.heap.size (.int .i64 0) (.bool false) (.bool false) (.int .i64 0) (.int .u32 0) (.slice none 0 0) (.slice none 0 0) (.int .u32 0) (.int .u32 0) (.int .u64 0) (.int .u64 0) (.int .u64 0)
  have kqf := kq.leftC gs (by omega)
  have Gf := grown_far G gs (Nat.le_refl _)
  clear kq G
  obtain ⟨t0, t1, t2, t3, t4, t5, t6, t7, t8, t9, t10, t11⟩ := box12 kf
  clear kf gs k2
  go_wp2_with fail
  refine bodyPost_ret (v := .tuple #[.agg #[.int .i64 0, .bool false, .bool false, .int .i64 0, .int .u32 0, .slice none 0 0, .slice none 0 0, .int .u32 0, .int .u32 0, .int .u64 0, .int .u64 0, .int .u64 0], .bool false, .int .i64 300]) (by simp [results, Try.results49, go_sem, t0, t1, t2, t3, t4, t5, t6, t7, t8, t9, t10, t11]) rfl ?_
  exact ⟨rfl, ⟨kqf, Que.nil _ _⟩, Gf⟩
set_option maxRecDepth 100000 in
set_option maxHeartbeats 3000000 in
theorem next_bad_r (g n c : Nat) (A : Option Addr) (l : List UInt8) (w : World) (h : PrsA w g A n c l false) (hn : needE l = 0) (hr : rightB (fld l 0 1) (fld l 5 1) = false) : Calls Try.prog 49 #[.pointer (some ⟨g, 0, none⟩)] w (NextBad g w) := by
  have HC : Hid (∀ W, Rd W W.heap.size A n c l → Calls Try.prog 96 #[.slice A n c] W (NeedQ (needN l : Nat) 0 W)) := Lib.hid (fun W r => hn ▸ need_any A n c l W r)
  have hh := need_0 hn
  obtain ⟨mg, emg⟩ : ∃ x, x = fld l 0 1 := ⟨_, rfl⟩
  obtain ⟨op, eop⟩ : ∃ x, x = fld l 1 1 := ⟨_, rfl⟩
  obtain ⟨kl, ekl⟩ : ∃ x, x = fld l 2 2 := ⟨_, rfl⟩
  obtain ⟨el, eel⟩ : ∃ x, x = fld l 4 1 := ⟨_, rfl⟩
  obtain ⟨ty, ety⟩ : ∃ x, x = fld l 5 1 := ⟨_, rfl⟩
  obtain ⟨st, est⟩ : ∃ x, x = fld l 6 2 := ⟨_, rfl⟩
  obtain ⟨bl, ebl⟩ : ∃ x, x = fld l 8 4 := ⟨_, rfl⟩
  obtain ⟨oq, eoq⟩ : ∃ x, x = fld l 12 4 := ⟨_, rfl⟩
  obtain ⟨cas, ecas⟩ : ∃ x, x = fld l 16 8 := ⟨_, rfl⟩
  have HGH : Hid (∀ W, Rd W W.heap.size A n c l → Calls Try.prog 97 #[.slice A n c] W (GhP mg op kl el ty st bl oq cas 0 W)) := Lib.hid (fun W r => by rw [emg, eop, ekl, eel, ety, est, ebl, eoq, ecas]; exact gh_ok A n c l W r (by rw [← r.len]; exact hh.1) hh.2.1)
  have HRT : Hid (∀ W, Calls Try.prog 98 #[.agg #[.int .u8 (mg : Nat), .int .u8 (op : Nat), .int .u16 (kl : Nat), .int .u8 (el : Nat), .int .u8 (ty : Nat), .int .u16 (st : Nat), .int .u32 (bl : Nat), .int .u32 (oq : Nat), .int .u64 (cas : Nat)]] W (BoxQ' (.bool false) W)) := Lib.hid (fun W => by have h := pright_any mg op kl el ty st bl oq cas W; rw [emg, ety, hr, ← emg, ← ety] at h; exact h)
  clear hh hn hr emg eop ekl eel ety est ebl eoq ecas
  have k2 := Blk.new w #[.int .i64 0, .bool false, .bool false, .int .i64 0, .int .u32 0, .slice none 0 0, .slice none 0 0, .int .u32 0, .int .u32 0, .int .u64 0, .int .u64 0, .int .u64 0] 26
  have b := below_a1' (Below.refl w.heap.size w) (.cells #[.int .i64 0, .bool false, .bool false, .int .i64 0, .int .u32 0, .slice none 0 0, .slice none 0 0, .int .u32 0, .int .u32 0, .int .u64 0, .int .u64 0, .int .u64 0] 26)
  have kb := h.1.step b
  have hq := h.2.below b
  have hlt := h.lt
  have ho := h.2.owner
  clear h
  go_enter Try.func49, Try.ntmps49
  go_upto_region 1 with fail
  generalize w.alloc (.cells #[.int .i64 0, .bool false, .bool false, .int .i64 0, .int .u32 0, .slice none 0 0, .slice none 0 0, .int .u32 0, .int .u32 0, .int .u64 0, .int .u64 0, .int .u64 0] 26) = W0 at k2 b kb hq ⊢
  obtain ⟨p0, p1⟩ := box2 kb
  go_wp2_with fail
  refine (HC.out W0 hq.rd).mono ?_
  rintro e w1 ⟨rfl, bb⟩
  replace k2 := k2.step bb
  replace kb := kb.step bb
  replace hq := Que.below hq bb
  replace b := below_step b bb
  clear bb p0 p1
  obtain ⟨p0, p1⟩ := box2 kb
  go_wp2_with fail
  refine (HGH.out w1 hq.rd).mono ?_
  rintro e w2 ⟨rfl, bb⟩
  replace k2 := k2.step bb
  replace kb := kb.step bb
  replace hq := Que.below hq bb
  replace b := below_step b bb
  clear bb p0 p1
  obtain ⟨p0, p1⟩ := box2 kb
  go_upto_region 9 with fail
  have k7 := Blk.new w2 #[.int .u8 (mg : Nat), .int .u8 (op : Nat), .int .u16 (kl : Nat), .int .u8 (el : Nat), .int .u8 (ty : Nat), .int .u16 (st : Nat), .int .u32 (bl : Nat), .int .u32 (oq : Nat), .int .u64 (cas : Nat)] 59
  have bb := below_a1' (Below.refl w2.heap.size w2) (.cells #[.int .u8 (mg : Nat), .int .u8 (op : Nat), .int .u16 (kl : Nat), .int .u8 (el : Nat), .int .u8 (ty : Nat), .int .u16 (st : Nat), .int .u32 (bl : Nat), .int .u32 (oq : Nat), .int .u64 (cas : Nat)] 59)
  have hg7 := kb.lt
  replace k2 := k2.step bb
  replace kb := kb.step bb
  replace hq := Que.below hq bb
  replace b := below_step b bb
  clear bb p0 p1
  generalize w2.alloc (.cells #[.int .u8 (mg : Nat), .int .u8 (op : Nat), .int .u16 (kl : Nat), .int .u8 (el : Nat), .int .u8 (ty : Nat), .int .u16 (st : Nat), .int .u32 (bl : Nat), .int .u32 (oq : Nat), .int .u64 (cas : Nat)] 59) = W7 at k2 b kb hq k7 ⊢
  generalize w2.heap.size = g7 at k7 hg7 ⊢
  obtain ⟨p0, p1⟩ := box2 kb
  obtain ⟨d0, d1, d2, d3, d4, d5, d6, d7, d8⟩ := box9 k7
  go_wp2_with fail
  refine (HRT.out W7).mono ?_
  rintro e w8 ⟨rfl, bb⟩
  replace k2 := k2.step bb
  replace kb := kb.step bb
  replace hq := Que.below hq bb
  replace b := below_step b bb
  clear bb p0 p1 d0 d1 d2 d3 d4 d5 d6 d7 d8
  obtain ⟨p0, p1⟩ := box2 kb
  have ya := kb.frozen 0
  have yb := kb.frozen 1
  go_upto_region 11 with fail
  have gq := grown_trans (rdr_grown_set w8 g 1 (.bool true)) (rdr_grown_set _ g 0 (.slice none 0 0))
  have kq : Blk ((w8.setCell ⟨g, 1, none⟩ (.bool true)).setCell ⟨g, 0, none⟩ (.slice none 0 0)) g #[.slice none 0 0, .bool true] 127 := (kb.set_ 1 _).set_ 0 _
  have G := grown_trans (grown_of_below (row := some g) b) gq
  replace k2 := k2.leftC gq (by omega)
  clear ya yb p0 p1 gq kb hq b k7
  generalize (w8.setCell ⟨g, 1, none⟩ (.bool true)).setCell ⟨g, 0, none⟩ (.slice none 0 0) = W11 at kq k2 G ⊢
  obtain ⟨u0, u1, u2, u3, u4, u5, u6, u7, u8, u9, u10, u11⟩ := box12 k2
  have y0 := k2.frozen 0
  have y1 := k2.frozen 1
  have y2 := k2.frozen 2
  have y3 := k2.frozen 3
  have y4 := k2.frozen 4
  have y5 := k2.frozen 5
  have y6 := k2.frozen 6
  have y7 := k2.frozen 7
  have y8 := k2.frozen 8
  have y9 := k2.frozen 9
  have y10 := k2.frozen 10
  have y11 := k2.frozen 11
  have kf := blk_set12 k2 (.int .i64 0) (.bool false) (.bool false) (.int .i64 0) (.int .u32 0) (.slice none 0 0) (.slice none 0 0) (.int .u32 0) (.int .u32 0) (.int .u64 0) (.int .u64 0) (.int .u64 0)
  have gs := grown_set12 W11 w.heap.size (.int .i64 0) (.bool false) (.bool false) (.int .i64 0) (.int .u32 0) (.slice none 0 0) (.slice none 0 0) (.int .u32 0) (.int .u32 0) (.int .u64 0) (.int .u64 0) (.int .u64 0)
  have kqf := kq.leftC gs (by omega)
  have Gf := grown_far G gs (Nat.le_refl _)
  clear kq G
  obtain ⟨t0, t1, t2, t3, t4, t5, t6, t7, t8, t9, t10, t11⟩ := box12 kf
  clear kf gs k2
  go_wp2_with fail
  refine bodyPost_ret (v := .tuple #[.agg #[.int .i64 0, .bool false, .bool false, .int .i64 0, .int .u32 0, .slice none 0 0, .slice none 0 0, .int .u32 0, .int .u32 0, .int .u64 0, .int .u64 0, .int .u64 0], .bool false, .int .i64 300]) (by simp [results, Try.results49, go_sem, t0, t1, t2, t3, t4, t5, t6, t7, t8, t9, t10, t11]) rfl ?_
  exact ⟨rfl, ⟨kqf, Que.nil _ _⟩, Gf⟩
set_option maxRecDepth 100000 in
set_option maxHeartbeats 3000000 in
theorem next_wait (g n c : Nat) (A : Option Addr) (l : List UInt8) (w : World) (h : PrsA w g A n c l false) (hn : needE l = 0) (hr : rightB (fld l 0 1) (fld l 5 1) = true) (hN : n < needN l) : Calls Try.prog 49 #[.pointer (some ⟨g, 0, none⟩)] w (NextNo 0 w) := by
  have hh := need_0 hn
  have eN : needN l = 24 + fld l 8 4 := by unfold needN; rw [if_pos hn]
  have HC : Hid (∀ W, Rd W W.heap.size A n c l → Calls Try.prog 96 #[.slice A n c] W (NeedQ (needN l : Nat) 0 W)) := Lib.hid (fun W r => by have h := need_any A n c l W r; rw [hn] at h; exact h)
  obtain ⟨mg, emg⟩ : ∃ x, x = fld l 0 1 := ⟨_, rfl⟩
  obtain ⟨op, eop⟩ : ∃ x, x = fld l 1 1 := ⟨_, rfl⟩
  obtain ⟨kl, ekl⟩ : ∃ x, x = fld l 2 2 := ⟨_, rfl⟩
  obtain ⟨el, eel⟩ : ∃ x, x = fld l 4 1 := ⟨_, rfl⟩
  obtain ⟨ty, ety⟩ : ∃ x, x = fld l 5 1 := ⟨_, rfl⟩
  obtain ⟨st, est⟩ : ∃ x, x = fld l 6 2 := ⟨_, rfl⟩
  obtain ⟨bl, ebl⟩ : ∃ x, x = fld l 8 4 := ⟨_, rfl⟩
  obtain ⟨oq, eoq⟩ : ∃ x, x = fld l 12 4 := ⟨_, rfl⟩
  obtain ⟨cas, ecas⟩ : ∃ x, x = fld l 16 8 := ⟨_, rfl⟩
  have HGH : Hid (∀ W, Rd W W.heap.size A n c l → Calls Try.prog 97 #[.slice A n c] W (GhP mg op kl el ty st bl oq cas 0 W)) := Lib.hid (fun W r => by rw [emg, eop, ekl, eel, ety, est, ebl, eoq, ecas]; exact gh_ok A n c l W r (by rw [← r.len]; exact hh.1) hh.2.1)
  have HRT : Hid (∀ W, Calls Try.prog 98 #[.agg #[.int .u8 (mg : Nat), .int .u8 (op : Nat), .int .u16 (kl : Nat), .int .u8 (el : Nat), .int .u8 (ty : Nat), .int .u16 (st : Nat), .int .u32 (bl : Nat), .int .u32 (oq : Nat), .int .u64 (cas : Nat)]] W (BoxQ' (.bool true) W)) := Lib.hid (fun W => by have h := pright_any mg op kl el ty st bl oq cas W; rw [emg, ety, hr, ← emg, ← ety] at h; exact h)
  clear hh hn hr eN emg eop ekl eel ety est ebl eoq ecas
  generalize needN l = N at *
  have L1 : ((n : Int) < (N : Int)) = True := eq_true (by omega)
  have L1' : (n < N) = True := eq_true hN
  clear hN
  have k2 := Blk.new w #[.int .i64 0, .bool false, .bool false, .int .i64 0, .int .u32 0, .slice none 0 0, .slice none 0 0, .int .u32 0, .int .u32 0, .int .u64 0, .int .u64 0, .int .u64 0] 26
  have b := below_a1' (Below.refl w.heap.size w) (.cells #[.int .i64 0, .bool false, .bool false, .int .i64 0, .int .u32 0, .slice none 0 0, .slice none 0 0, .int .u32 0, .int .u32 0, .int .u64 0, .int .u64 0, .int .u64 0] 26)
  have kb := h.1.step b
  have hq := h.2.below b
  have hlt := h.lt
  have ho := h.2.owner
  clear h
  go_enter Try.func49, Try.ntmps49
  go_upto_region 1 with fail
  generalize w.alloc (.cells #[.int .i64 0, .bool false, .bool false, .int .i64 0, .int .u32 0, .slice none 0 0, .slice none 0 0, .int .u32 0, .int .u32 0, .int .u64 0, .int .u64 0, .int .u64 0] 26) = W0 at k2 b kb hq ⊢
  obtain ⟨p0, p1⟩ := box2 kb
  go_wp2_with fail
  refine (HC.out W0 hq.rd).mono ?_
  rintro e w1 ⟨rfl, bb⟩
  replace k2 := k2.step bb
  replace kb := kb.step bb
  replace hq := Que.below hq bb
  replace b := below_step b bb
  clear bb p0 p1
  obtain ⟨p0, p1⟩ := box2 kb
  go_wp2_with fail
  refine (HGH.out w1 hq.rd).mono ?_
  rintro e w2 ⟨rfl, bb⟩
  replace k2 := k2.step bb
  replace kb := kb.step bb
  replace hq := Que.below hq bb
  replace b := below_step b bb
  clear bb p0 p1
  obtain ⟨p0, p1⟩ := box2 kb
  go_upto_region 9 with fail
  have k7 := Blk.new w2 #[.int .u8 (mg : Nat), .int .u8 (op : Nat), .int .u16 (kl : Nat), .int .u8 (el : Nat), .int .u8 (ty : Nat), .int .u16 (st : Nat), .int .u32 (bl : Nat), .int .u32 (oq : Nat), .int .u64 (cas : Nat)] 59
  have bb := below_a1' (Below.refl w2.heap.size w2) (.cells #[.int .u8 (mg : Nat), .int .u8 (op : Nat), .int .u16 (kl : Nat), .int .u8 (el : Nat), .int .u8 (ty : Nat), .int .u16 (st : Nat), .int .u32 (bl : Nat), .int .u32 (oq : Nat), .int .u64 (cas : Nat)] 59)
  have hg7 := kb.lt
  replace k2 := k2.step bb
  replace kb := kb.step bb
  replace hq := Que.below hq bb
  replace b := below_step b bb
  clear bb p0 p1
  generalize w2.alloc (.cells #[.int .u8 (mg : Nat), .int .u8 (op : Nat), .int .u16 (kl : Nat), .int .u8 (el : Nat), .int .u8 (ty : Nat), .int .u16 (st : Nat), .int .u32 (bl : Nat), .int .u32 (oq : Nat), .int .u64 (cas : Nat)] 59) = W7 at k2 b kb hq k7 ⊢
  generalize w2.heap.size = g7 at k7 hg7 ⊢
  obtain ⟨p0, p1⟩ := box2 kb
  obtain ⟨d0, d1, d2, d3, d4, d5, d6, d7, d8⟩ := box9 k7
  go_wp2_with fail
  refine (HRT.out W7).mono ?_
  rintro e w8 ⟨rfl, bb⟩
  replace k2 := k2.step bb
  replace kb := kb.step bb
  replace hq := Que.below hq bb
  replace b := below_step b bb
  clear bb p0 p1 d0 d1 d2 d3 d4 d5 d6 d7 d8
  obtain ⟨p0, p1⟩ := box2 kb
  obtain ⟨u0, u1, u2, u3, u4, u5, u6, u7, u8, u9, u10, u11⟩ := box12 k2
  have y0 := k2.frozen 0
  have y1 := k2.frozen 1
  have y2 := k2.frozen 2
  have y3 := k2.frozen 3
  have y4 := k2.frozen 4
  have y5 := k2.frozen 5
  have y6 := k2.frozen 6
  have y7 := k2.frozen 7
  have y8 := k2.frozen 8
  have y9 := k2.frozen 9
  have y10 := k2.frozen 10
  have y11 := k2.frozen 11
  have kf := blk_set12 k2 (.int .i64 0) (.bool false) (.bool false) (.int .i64 0) (.int .u32 0) (.slice none 0 0) (.slice none 0 0) (.int .u32 0) (.int .u32 0) (.int .u64 0) (.int .u64 0) (.int .u64 0)
  have gs := grown_set12 w8 w.heap.size (.int .i64 0) (.bool false) (.bool false) (.int .i64 0) (.int .u32 0) (.slice none 0 0) (.slice none 0 0) (.int .u32 0) (.int .u32 0) (.int .u64 0) (.int .u64 0) (.int .u64 0)
  have bf := b.trans (below_grown gs (Nat.le_refl _) k2.lt)
  clear b kb
  obtain ⟨t0, t1, t2, t3, t4, t5, t6, t7, t8, t9, t10, t11⟩ := box12 kf
  clear kf gs k2
  go_wp2_with fail
  refine bodyPost_ret (v := .tuple #[.agg #[.int .i64 0, .bool false, .bool false, .int .i64 0, .int .u32 0, .slice none 0 0, .slice none 0 0, .int .u32 0, .int .u32 0, .int .u64 0, .int .u64 0, .int .u64 0], .bool false, .int .i64 0]) (by simp [results, Try.results49, go_sem, t0, t1, t2, t3, t4, t5, t6, t7, t8, t9, t10, t11]) rfl ?_
  exact ⟨rfl, bf⟩
set_option maxRecDepth 100000 in
set_option maxHeartbeats 3000000 in
theorem next_ok (g n c : Nat) (A : Option Addr) (l : List UInt8) (w : World) (h : PrsA w g A n c l false) (hn : needE l = 0) (hr : rightB (fld l 0 1) (fld l 5 1) = true) (hN : needN l ≤ n) (op' : Int) (qt' fu' : Bool) (bd' : Int) (oq' : Nat) (lk' lv' : List UInt8) (fl' ex' cs' dl' ini' : Nat) (hreq : ∀ (W : World) (X K V : Option Addr) (cx ck cv : Nat), Rd W W.heap.size X (fld l 4 1) cx (fxB l) → Rd W W.heap.size K (fld l 2 2) ck (fkB l) → Rd W W.heap.size V (fld l 8 4 - (fld l 4 1 + fld l 2 2)) cv (fvB l) → Calls Try.prog 90 #[frV (fld l 0 1) (fld l 1 1) (fld l 2 2) (fld l 4 1) (fld l 5 1) (fld l 6 2) (fld l 8 4) (fld l 12 4) (fld l 16 8) (.slice X (fld l 4 1) cx) (.slice K (fld l 2 2) ck) (.slice V (fld l 8 4 - (fld l 4 1 + fld l 2 2)) cv)] W (ReqQ op' qt' fu' bd' oq' lk' lv' fl' ex' cs' dl' ini' W)) : Calls Try.prog 49 #[.pointer (some ⟨g, 0, none⟩)] w (NextOk g (needN l) n A l op' qt' fu' bd' oq' lk' lv' fl' ex' cs' dl' ini' w) := by
  have hh := need_0 hn
  have eN : needN l = 24 + fld l 8 4 := by unfold needN; rw [if_pos hn]
  have HC : Hid (∀ W, Rd W W.heap.size A n c l → Calls Try.prog 96 #[.slice A n c] W (NeedQ (needN l : Nat) 0 W)) := Lib.hid (fun W r => by have h := need_any A n c l W r; rw [hn] at h; exact h)
  have hle := mayB_le hh.2.1
  have hlen := h.2.len
  have htk := lists_take eN hle
  obtain ⟨X1, cx1, HX1, hX1⟩ := slc_h h.2.rd (needN l) (needN l : Nat) rfl hN
  obtain ⟨X3, cx3, HX3, hX3, hXo⟩ := slc_que h.2 (needN l) (needN l : Nat) rfl hN
  have hGET : ∀ W, Rd W W.heap.size A n c l → Calls Try.prog 51 #[.slice X1 (needN l) cx1] W (GtP (fld l 0 1) (fld l 1 1) (fld l 2 2) (fld l 4 1) (fld l 5 1) (fld l 6 2) (fld l 8 4) (fld l 12 4) (fld l 16 8) (fld l 4 1) (fld l 2 2) (fld l 8 4 - (fld l 4 1 + fld l 2 2)) (needN l) (fxB l) (fkB l) (fvB l) W) := fun W r => by
    have hnt := needE_take (l := l) (N := needN l) (by omega) (by omega)
    have e2 : fld (l.take (needN l)) 8 4 = fld l 8 4 := fld_take (by omega)
    have h := get_ok X1 (needN l) cx1 (l.take (needN l)) W (hX1 _ _ r) (by rw [hnt]; exact hn) (by have := needN_of (hnt.trans hn); omega)
    unfold GetOk at h
    change Calls _ _ _ _ (fun e w' => ∃ X cx K ck V cv, _ ∧ Rd w' w'.heap.size X _ cx (fxB (l.take (needN l))) ∧ Rd w' w'.heap.size K _ ck (fkB (l.take (needN l))) ∧ Rd w' w'.heap.size V _ cv (fvB (l.take (needN l))) ∧ _) at h
    rw [htk.1, htk.2.1, htk.2.2] at h
    simp only [fld_take (l := l) (n := needN l) (o := 0) (k := 1) (by omega), fld_take (l := l) (n := needN l) (o := 1) (k := 1) (by omega), fld_take (l := l) (n := needN l) (o := 2) (k := 2) (by omega), fld_take (l := l) (n := needN l) (o := 4) (k := 1) (by omega), fld_take (l := l) (n := needN l) (o := 5) (k := 1) (by omega), fld_take (l := l) (n := needN l) (o := 6) (k := 2) (by omega), fld_take (l := l) (n := needN l) (o := 8) (k := 4) (by omega), fld_take (l := l) (n := needN l) (o := 12) (k := 4) (by omega), fld_take (l := l) (n := needN l) (o := 16) (k := 8) (by omega), ← eN] at h
    exact h
  obtain ⟨mg, emg⟩ : ∃ x, x = fld l 0 1 := ⟨_, rfl⟩
  obtain ⟨op, eop⟩ : ∃ x, x = fld l 1 1 := ⟨_, rfl⟩
  obtain ⟨kl, ekl⟩ : ∃ x, x = fld l 2 2 := ⟨_, rfl⟩
  obtain ⟨el, eel⟩ : ∃ x, x = fld l 4 1 := ⟨_, rfl⟩
  obtain ⟨ty, ety⟩ : ∃ x, x = fld l 5 1 := ⟨_, rfl⟩
  obtain ⟨st, est⟩ : ∃ x, x = fld l 6 2 := ⟨_, rfl⟩
  obtain ⟨bl, ebl⟩ : ∃ x, x = fld l 8 4 := ⟨_, rfl⟩
  obtain ⟨oq, eoq⟩ : ∃ x, x = fld l 12 4 := ⟨_, rfl⟩
  obtain ⟨cas, ecas⟩ : ∃ x, x = fld l 16 8 := ⟨_, rfl⟩
  have HGH : Hid (∀ W, Rd W W.heap.size A n c l → Calls Try.prog 97 #[.slice A n c] W (GhP mg op kl el ty st bl oq cas 0 W)) := Lib.hid (fun W r => by rw [emg, eop, ekl, eel, ety, est, ebl, eoq, ecas]; exact gh_ok A n c l W r (by rw [← r.len]; exact hh.1) hh.2.1)
  have HRT : Hid (∀ W, Calls Try.prog 98 #[.agg #[.int .u8 (mg : Nat), .int .u8 (op : Nat), .int .u16 (kl : Nat), .int .u8 (el : Nat), .int .u8 (ty : Nat), .int .u16 (st : Nat), .int .u32 (bl : Nat), .int .u32 (oq : Nat), .int .u64 (cas : Nat)]] W (BoxQ' (.bool true) W)) := Lib.hid (fun W => by have h := pright_any mg op kl el ty st bl oq cas W; rw [emg, ety, hr, ← emg, ← ety] at h; exact h)
  generalize hnv : fld l 8 4 - (fld l 4 1 + fld l 2 2) = nv at hGET hreq
  rw [← emg, ← eop, ← ekl, ← eel, ← ety, ← est, ← ebl, ← eoq, ← ecas] at hGET hreq
  obtain ⟨nx, enx⟩ : ∃ x, x = el := ⟨_, rfl⟩
  obtain ⟨nk, enk⟩ : ∃ x, x = kl := ⟨_, rfl⟩
  generalize fxB l = lx at hGET hreq
  generalize fkB l = lk at hGET hreq
  generalize fvB l = lv at hGET hreq
  have HGET : Hid (∀ W, Rd W W.heap.size A n c l → Calls Try.prog 51 #[.slice X1 (needN l) cx1] W (GtP mg op kl el ty st bl oq cas nx nk nv (needN l) lx lk lv W)) := Lib.hid (by rw [enx, enk]; exact hGET)
  have HREQ : Hid (∀ (W : World) (X K V : Option Addr) (cx ck cv : Nat), Rd W W.heap.size X nx cx lx → Rd W W.heap.size K nk ck lk → Rd W W.heap.size V nv cv lv → Calls Try.prog 90 #[.agg #[.int .u8 (mg : Nat), .int .u8 (op : Nat), .int .u16 (kl : Nat), .int .u8 (el : Nat), .int .u8 (ty : Nat), .int .u16 (st : Nat), .int .u32 (bl : Nat), .int .u32 (oq : Nat), .int .u64 (cas : Nat), .slice X nx cx, .slice K nk ck, .slice V nv cv]] W (ReqN op' qt' fu' bd' oq' lk' lv' fl' ex' cs' dl' ini' W)) := Lib.hid (by rw [enx, enk]; exact hreq)
  clear hGET hreq hnv enx enk htk hle hlen
  clear hh hn hr eN emg eop ekl eel ety est ebl eoq ecas
  generalize needN l = N at *
  have L1 : ((n : Int) < (N : Int)) = False := eq_false (by omega)
  have L1' : (n < N) = False := eq_false (by omega)
  have HQ3 := Lib.hid hX3
  have HXO := Lib.hid hXo
  have HOX := Lib.hid (hX3 _ _ h.2).owner
  clear hN hX1 hX3 hXo
  have k2 := Blk.new w #[.int .i64 0, .bool false, .bool false, .int .i64 0, .int .u32 0, .slice none 0 0, .slice none 0 0, .int .u32 0, .int .u32 0, .int .u64 0, .int .u64 0, .int .u64 0] 26
  have b := below_a1' (Below.refl w.heap.size w) (.cells #[.int .i64 0, .bool false, .bool false, .int .i64 0, .int .u32 0, .slice none 0 0, .slice none 0 0, .int .u32 0, .int .u32 0, .int .u64 0, .int .u64 0, .int .u64 0] 26)
  have kb := h.1.step b
  have hq := h.2.below b
  have hlt := h.lt
  have ho := h.2.owner
  clear h
  go_enter Try.func49, Try.ntmps49
  go_upto_region 1 with fail
  generalize w.alloc (.cells #[.int .i64 0, .bool false, .bool false, .int .i64 0, .int .u32 0, .slice none 0 0, .slice none 0 0, .int .u32 0, .int .u32 0, .int .u64 0, .int .u64 0, .int .u64 0] 26) = W0 at k2 b kb hq ⊢
  obtain ⟨p0, p1⟩ := box2 kb
  go_wp2_with fail
  refine (HC.out W0 hq.rd).mono ?_
  rintro e w1 ⟨rfl, bb⟩
  replace k2 := k2.step bb
  replace kb := kb.step bb
  replace hq := Que.below hq bb
  replace b := below_step b bb
  clear bb p0 p1
  obtain ⟨p0, p1⟩ := box2 kb
  go_wp2_with fail
  refine (HGH.out w1 hq.rd).mono ?_
  rintro e w2 ⟨rfl, bb⟩
  replace k2 := k2.step bb
  replace kb := kb.step bb
  replace hq := Que.below hq bb
  replace b := below_step b bb
  clear bb p0 p1
  obtain ⟨p0, p1⟩ := box2 kb
  go_upto_region 9 with fail
  have k7 := Blk.new w2 #[.int .u8 (mg : Nat), .int .u8 (op : Nat), .int .u16 (kl : Nat), .int .u8 (el : Nat), .int .u8 (ty : Nat), .int .u16 (st : Nat), .int .u32 (bl : Nat), .int .u32 (oq : Nat), .int .u64 (cas : Nat)] 59
  have bb := below_a1' (Below.refl w2.heap.size w2) (.cells #[.int .u8 (mg : Nat), .int .u8 (op : Nat), .int .u16 (kl : Nat), .int .u8 (el : Nat), .int .u8 (ty : Nat), .int .u16 (st : Nat), .int .u32 (bl : Nat), .int .u32 (oq : Nat), .int .u64 (cas : Nat)] 59)
  have hg7 := kb.lt
  replace k2 := k2.step bb
  replace kb := kb.step bb
  replace hq := Que.below hq bb
  replace b := below_step b bb
  clear bb p0 p1
  generalize w2.alloc (.cells #[.int .u8 (mg : Nat), .int .u8 (op : Nat), .int .u16 (kl : Nat), .int .u8 (el : Nat), .int .u8 (ty : Nat), .int .u16 (st : Nat), .int .u32 (bl : Nat), .int .u32 (oq : Nat), .int .u64 (cas : Nat)] 59) = W7 at k2 b kb hq k7 ⊢
  generalize w2.heap.size = g7 at k7 hg7 ⊢
  obtain ⟨p0, p1⟩ := box2 kb
  obtain ⟨d0, d1, d2, d3, d4, d5, d6, d7, d8⟩ := box9 k7
  go_wp2_with fail
  refine (HRT.out W7).mono ?_
  rintro e w8 ⟨rfl, bb⟩
  replace k2 := k2.step bb
  replace kb := kb.step bb
  replace hq := Que.below hq bb
  replace b := below_step b bb
  clear bb p0 p1 d0 d1 d2 d3 d4 d5 d6 d7 d8
  obtain ⟨p0, p1⟩ := box2 kb
  go_wp2_with fail
  refine (HGET.out w8 hq.rd).mono ?_
  rintro e w9 ⟨X, cx, K, ck, V, cv, rfl, rX, rK, rV, bb⟩
  replace k2 := k2.step bb
  replace kb := kb.step bb
  replace hq := Que.below hq bb
  replace b := below_step b bb
  clear bb p0 p1 k7
  obtain ⟨p0, p1⟩ := box2 kb
  go_upto_region 15 with fail
  have k9 := Blk.new w9 #[.int .u8 (mg : Nat), .int .u8 (op : Nat), .int .u16 (kl : Nat), .int .u8 (el : Nat), .int .u8 (ty : Nat), .int .u16 (st : Nat), .int .u32 (bl : Nat), .int .u32 (oq : Nat), .int .u64 (cas : Nat), .slice X nx cx, .slice K nk ck, .slice V nv cv] 61
  have bb := below_a1' (Below.refl w9.heap.size w9) (.cells #[.int .u8 (mg : Nat), .int .u8 (op : Nat), .int .u16 (kl : Nat), .int .u8 (el : Nat), .int .u8 (ty : Nat), .int .u16 (st : Nat), .int .u32 (bl : Nat), .int .u32 (oq : Nat), .int .u64 (cas : Nat), .slice X nx cx, .slice K nk ck, .slice V nv cv] 61)
  have hg9 := kb.lt
  have h29 := k2.lt
  replace k2 := k2.step bb
  replace kb := kb.step bb
  replace hq := Que.below hq bb
  replace b := below_step b bb
  replace rX := rX.step bb
  replace rK := rK.step bb
  replace rV := rV.step bb
  clear bb p0 p1
  generalize w9.alloc (.cells #[.int .u8 (mg : Nat), .int .u8 (op : Nat), .int .u16 (kl : Nat), .int .u8 (el : Nat), .int .u8 (ty : Nat), .int .u16 (st : Nat), .int .u32 (bl : Nat), .int .u32 (oq : Nat), .int .u64 (cas : Nat), .slice X nx cx, .slice K nk ck, .slice V nv cv] 61) = W9 at k2 b kb hq k9 rX rK rV ⊢
  generalize w9.heap.size = g9 at k9 hg9 h29 ⊢
  obtain ⟨p0, p1⟩ := box2 kb
  have ya := kb.frozen 0
  go_upto_region 18 with fail
  have gq := rdr_grown_set W9 g 0 (.slice X3 (n - N) cx3)
  have kq : Blk (W9.setCell ⟨g, 0, none⟩ (.slice X3 (n - N) cx3)) g #[.slice X3 (n - N) cx3, .bool false] 127 := kb.set_ 0 _
  have hq3 : Que (W9.setCell ⟨g, 0, none⟩ (.slice X3 (n - N) cx3)) (g + 1) X3 (n - N) cx3 (l.drop N) := (HQ3.out _ _ hq).kept gq (fun k hk => by injection hk with hk; omega)
  have G := grown_trans (grown_of_below (row := some g) b) gq
  replace k2 := k2.leftC gq (by omega)
  replace k9 := k9.leftC gq (by omega)
  have hn0 : ∀ x : UInt8, Value.slice A n c ≠ cb x := fun x h => by cases h
  have hn1 : ∀ x : UInt8, Value.bool false ≠ cb x := fun x h => by cases h
  replace rX := (rd_off (i := 0) (u := .slice X3 (n - N) cx3) rX kb hn0 hn1).more gq.size
  replace rK := (rd_off (i := 0) (u := .slice X3 (n - N) cx3) rK kb hn0 hn1).more gq.size
  replace rV := (rd_off (i := 0) (u := .slice X3 (n - N) cx3) rV kb hn0 hn1).more gq.size
  clear hn0 hn1 gq kb hq b ya p0 p1
  generalize W9.setCell ⟨g, 0, none⟩ (.slice X3 (n - N) cx3) = W18 at kq hq3 G k2 k9 rX rK rV ⊢
  obtain ⟨z0, z1, z2, z3, z4, z5, z6, z7, z8, z9, z10, z11⟩ := box12 k9
  go_wp2_with fail
  have hl2 := k2.lt
  refine (HREQ.out W18 X K V cx ck cv rX rK rV).mono ?_
  rintro e w19 ⟨K2, V2, nk2, ck2, nv2, cv2, rfl, oK2, oV2, bb⟩
  replace k2 := k2.step bb
  replace kq := kq.step bb
  replace hq3 := Que.below hq3 bb
  replace G := grown_below G bb
  clear bb rX rK rV k9 z0 z1 z2 z3 z4 z5 z6 z7 z8 z9 z10 z11
  obtain ⟨u0, u1, u2, u3, u4, u5, u6, u7, u8, u9, u10, u11⟩ := box12 k2
  have y0 := k2.frozen 0
  have y1 := k2.frozen 1
  have y2 := k2.frozen 2
  have y3 := k2.frozen 3
  have y4 := k2.frozen 4
  have y5 := k2.frozen 5
  have y6 := k2.frozen 6
  have y7 := k2.frozen 7
  have y8 := k2.frozen 8
  have y9 := k2.frozen 9
  have y10 := k2.frozen 10
  have y11 := k2.frozen 11
  have kf := blk_set12 k2 (.int .i64 op') (.bool qt') (.bool fu') (.int .i64 bd') (.int .u32 (oq' : Nat)) (.slice K2 nk2 ck2) (.slice V2 nv2 cv2) (.int .u32 (fl' : Nat)) (.int .u32 (ex' : Nat)) (.int .u64 (cs' : Nat)) (.int .u64 (dl' : Nat)) (.int .u64 (ini' : Nat))
  have gs := grown_set12 w19 w.heap.size (.int .i64 op') (.bool qt') (.bool fu') (.int .i64 bd') (.int .u32 (oq' : Nat)) (.slice K2 nk2 ck2) (.slice V2 nv2 cv2) (.int .u32 (fl' : Nat)) (.int .u32 (ex' : Nat)) (.int .u64 (cs' : Nat)) (.int .u64 (dl' : Nat)) (.int .u64 (ini' : Nat))
  have hox := HOX.out
  have kqf := kq.leftC gs (by omega)
  have hqf := hq3.keptO gs (fun k hk e => by injection e with e; have := (hox k hk).2; omega)
  have oKf := (oK2.kept gs (by omega)).more (B' := w.heap.size) (by omega)
  have oVf := (oV2.kept gs (by omega)).more (B' := w.heap.size) (by omega)
  have Gf := grown_far G gs (Nat.le_refl _)
  obtain ⟨t0, t1, t2, t3, t4, t5, t6, t7, t8, t9, t10, t11⟩ := box12 kf
  clear kf gs k2 kq hq3 G hox
  go_wp2_with fail
  refine bodyPost_ret (v := .tuple #[.agg #[.int .i64 op', .bool qt', .bool fu', .int .i64 bd', .int .u32 (oq' : Nat), .slice K2 nk2 ck2, .slice V2 nv2 cv2, .int .u32 (fl' : Nat), .int .u32 (ex' : Nat), .int .u64 (cs' : Nat), .int .u64 (dl' : Nat), .int .u64 (ini' : Nat)], .bool true, .int .i64 0]) (by simp [results, Try.results49, go_sem, t0, t1, t2, t3, t4, t5, t6, t7, t8, t9, t10, t11]) rfl ?_
  exact ⟨K2, V2, nk2, ck2, nv2, cv2, X3, cx3, rfl, ⟨kqf, hqf⟩, oKf, oVf, Gf, HXO.out⟩
end
section
open Go.RowKit
structure RQ where
  op : Int
  qt : Bool
  fu : Bool
  bd : Int
  oq : Nat
  lk : List UInt8
  lv : List UInt8
  fl : Nat
  ex : Nat
  cs : Nat
  dl : Nat
  ni : Nat
  deriving DecidableEq
def badB (o sx : Nat) (sk sv : Bool) (lx lk lv : List UInt8) : Bool := (decide (lx.length ≠ sx) && !(decide (o = 8) && decide (lx.length = 4))) || (decide (0 < lk.length) != sk) || decide (250 < lk.length) || (decide (0 < lv.length) && !sv)
def reqO (op oq cas : Nat) (lx lk lv : List UInt8) : RQ :=
  match rowOf op with
  | none => ⟨op, false, false, 129, oq, [], [], 0, 0, 0, 0, 0⟩
  | some r =>
    if badB r.1 (shapeOf r.1).1 (shapeOf r.1).2.1 (shapeOf r.1).2.2 lx lk lv = true then ⟨r.1, r.2.1, r.2.2, 4, oq, [], [], 0, 0, 0, 0, 0⟩
    else if 512 < lv.length then ⟨r.1, r.2.1, r.2.2, 3, oq, [], [], 0, 0, 0, 0, 0⟩
    else ⟨r.1, r.2.1, r.2.2, 0, oq, lk, lv, flOf lx.length lx, exOf lx.length lx, cas, dlOf lx.length lx, niOf lx.length lx⟩
theorem reqO_none {op oq cas : Nat} {lx lk lv : List UInt8} (h : rowOf op = none) : reqO op oq cas lx lk lv = ⟨op, false, false, 129, oq, [], [], 0, 0, 0, 0, 0⟩ := by
  unfold reqO; rw [h]
theorem reqO_bad {op oq cas o : Nat} {q f : Bool} {lx lk lv : List UInt8} (h : rowOf op = some (o, q, f)) (hb : badB o (shapeOf o).1 (shapeOf o).2.1 (shapeOf o).2.2 lx lk lv = true) : reqO op oq cas lx lk lv = ⟨o, q, f, 4, oq, [], [], 0, 0, 0, 0, 0⟩ := by
  unfold reqO; rw [h]; exact if_pos hb
theorem reqO_large {op oq cas o : Nat} {q f : Bool} {lx lk lv : List UInt8} (h : rowOf op = some (o, q, f)) (hb : badB o (shapeOf o).1 (shapeOf o).2.1 (shapeOf o).2.2 lx lk lv = false) (hv : 512 < lv.length) : reqO op oq cas lx lk lv = ⟨o, q, f, 3, oq, [], [], 0, 0, 0, 0, 0⟩ := by
  unfold reqO; rw [h]; exact (if_neg (by simp only [hb]; decide)).trans (if_pos hv)
theorem reqO_good {op oq cas o : Nat} {q f : Bool} {lx lk lv : List UInt8} (h : rowOf op = some (o, q, f)) (hb : badB o (shapeOf o).1 (shapeOf o).2.1 (shapeOf o).2.2 lx lk lv = false) (hv : lv.length ≤ 512) : reqO op oq cas lx lk lv = ⟨o, q, f, 0, oq, lk, lv, flOf lx.length lx, exOf lx.length lx, cas, dlOf lx.length lx, niOf lx.length lx⟩ := by
  unfold reqO; rw [h]; exact (if_neg (by simp only [hb]; decide)).trans (if_neg (by omega))
theorem shape_ext (op : Int) : (shapeOf op).1 = 0 ∨ (shapeOf op).1 = 4 ∨ (shapeOf op).1 = 8 ∨ (shapeOf op).1 = 20 := by
  unfold shapeOf
  split
  · simp
  · split
    · simp
    · split
      · simp
      · split
        · simp
        · split <;> simp
def ReqA (q : RQ) (w : World) (e : Ending) (w' : World) : Prop := ReqQ q.op q.qt q.fu q.bd q.oq q.lk q.lv q.fl q.ex q.cs q.dl q.ni w e w'
theorem preq_any (mg op kl el ty st bl oq cas : Nat) (X K V : Option Addr) (nx cx nk ck nv cv : Nat) (lx lk lv : List UInt8) (w : World) (rX : Rd w w.heap.size X nx cx lx) (rK : Rd w w.heap.size K nk ck lk) (rV : Rd w w.heap.size V nv cv lv) (hop : op < 256) :
    Calls Try.prog 90 #[frV mg op kl el ty st bl oq cas (.slice X nx cx) (.slice K nk ck) (.slice V nv cv)] w (ReqA (reqO op oq cas lx lk lv) w) := by
  have e1 : lx.length = nx := rX.len
  have e2 : lk.length = nk := rK.len
  have e3 : lv.length = nv := rV.len
  cases hr : rowOf op with
  | none => rw [reqO_none hr]; exact preq_unk mg op kl el ty st bl oq cas X K V nx cx nk ck nv cv lx lk lv w rX rK rV hop hr
  | some r =>
    obtain ⟨o, q, f⟩ := r
    have hs : shapeOf (o : Int) = ((shapeOf (o : Int)).1, (shapeOf (o : Int)).2.1, (shapeOf (o : Int)).2.2) := rfl
    cases hb : badB o (shapeOf o).1 (shapeOf o).2.1 (shapeOf o).2.2 lx lk lv with
    | true =>
      rw [reqO_bad hr hb]
      unfold badB at hb
      rw [e1, e2, e3] at hb
      by_cases hx : nx = (shapeOf (o : Int)).1 ∨ (decide (o = 8) && decide (nx = 4)) = true
      · by_cases hk : decide ((0 : Int) < (nk : Int)) = (shapeOf (o : Int)).2.1
        · by_cases hk2 : 250 < nk
          · exact preq_l mg op kl el ty st bl oq cas X K V nx cx nk ck nv cv lx lk lv w rX rK rV hop o q f hr _ _ _ hs _ rfl hx hk hk2
          · have hk' : decide (0 < nk) = (shapeOf (o : Int)).2.1 := by
              rw [← hk]
              exact decide_eq_decide.2 (by omega)
            have h0 : (decide (nx ≠ (shapeOf (o : Int)).1) && !(decide (o = 8) && decide (nx = 4))) = false := by
              rcases hx with h | h
              · rw [decide_eq_false (by simp only [ne_eq, h, not_true_eq_false, not_false_eq_true])]; rfl
              · rw [h]; exact Bool.and_false _
            rw [h0, hk', decide_eq_false hk2] at hb
            have h4 : decide (0 < nv) = true ∧ (!(shapeOf (o : Int)).2.2) = true := by
              simpa using hb
            exact preq_v mg op kl el ty st bl oq cas X K V nx cx nk ck nv cv lx lk lv w rX rK rV hop o q f hr _ _ _ hs _ rfl hx hk (by omega) (of_decide_eq_true h4.1) (by simpa using h4.2)
        · exact preq_k mg op kl el ty st bl oq cas X K V nx cx nk ck nv cv lx lk lv w rX rK rV hop o q f hr _ _ _ hs _ rfl hx hk
      · rw [not_or] at hx
        exact preq_x mg op kl el ty st bl oq cas X K V nx cx nk ck nv cv lx lk lv w rX rK rV hop o q f hr _ _ _ hs _ rfl hx.1 (by simpa using hx.2)
    | false =>
      have hb' := hb
      unfold badB at hb'
      rw [e1, e2, e3, Bool.or_eq_false_iff, Bool.or_eq_false_iff, Bool.or_eq_false_iff, Bool.and_eq_false_iff, Bool.and_eq_false_iff] at hb'
      obtain ⟨⟨⟨h1, h2⟩, h3⟩, h4⟩ := hb'
      have hx : nx = (shapeOf (o : Int)).1 ∨ (decide (o = 8) && decide (nx = 4)) = true := by
        rcases h1 with h | h
        · have := of_decide_eq_false h; exact Or.inl (by omega)
        · exact Or.inr (by simpa using h)
      have hk : decide ((0 : Int) < (nk : Int)) = (shapeOf (o : Int)).2.1 := by
        have : decide (0 < nk) = (shapeOf (o : Int)).2.1 := by simpa using h2
        rw [← this]
        exact decide_eq_decide.2 (by omega)
      have hk2 : nk ≤ 250 := by have := of_decide_eq_false h3; omega
      have hv : 0 < nv → (shapeOf (o : Int)).2.2 = true := by
        intro h
        rcases h4 with h' | h'
        · exact absurd h (of_decide_eq_false h')
        · simpa using h'
      by_cases hv2 : 512 < nv
      · rw [reqO_large hr hb (by omega)]
        exact preq_b mg op kl el ty st bl oq cas X K V nx cx nk ck nv cv lx lk lv w rX rK rV hop o q f hr _ _ _ hs _ rfl hx hk hk2 hv hv2
      · rw [reqO_good hr hb (by omega), e1]
        refine preq_good mg op kl el ty st bl oq cas X K V nx cx nk ck nv cv lx lk lv w rX rK rV hop o q f hr _ _ _ hs _ rfl hx hk hk2 hv (by omega) ?_
        rcases hx with h | h
        · rcases shape_ext (o : Int) with h' | h' | h' | h' <;> omega
        · have := (Bool.and_eq_true_iff.1 h).2
          have := of_decide_eq_true this
          omega
end
section
open Go.RowKit
def nxt (l : List UInt8) : Option (Option (RQ × Nat)) :=
  if needE l = 9 then some none
  else if needE l ≠ 0 ∨ rightB (fld l 0 1) (fld l 5 1) = false then none
  else if l.length < needN l then some none
  else some (some (reqO (fld l 1 1) (fld l 12 4) (fld l 16 8) (fxB l) (fkB l) (fvB l), needN l))
theorem nxt_no {l : List UInt8} (h : nxt l = some none) : needE l = 9 ∨ (needE l = 0 ∧ rightB (fld l 0 1) (fld l 5 1) = true ∧ l.length < needN l) := by
  unfold nxt at h
  split at h
  · exact .inl (by assumption)
  · split at h
    · cases h
    · rename_i h1 h2
      rw [not_or] at h2
      split at h
      · rename_i h3
        exact .inr ⟨by simpa using h2.1, by simpa using h2.2, h3⟩
      · cases h
theorem nxt_bad {l : List UInt8} (h : nxt l = none) : needE l = 290 ∨ needE l = 3 ∨ (needE l = 0 ∧ rightB (fld l 0 1) (fld l 5 1) = false) := by
  unfold nxt at h
  split at h
  · cases h
  · split at h
    · rename_i h1 h2
      rcases needE_cases l with h' | h' | h' | h'
      · exact absurd h' h1
      · exact .inl h'
      · exact .inr (.inl h')
      · rcases h2 with h2 | h2
        · exact absurd h' h2
        · exact .inr (.inr ⟨h', h2⟩)
    · split at h <;> cases h
theorem nxt_yes {l : List UInt8} {q : RQ} {N : Nat} (h : nxt l = some (some (q, N))) : needE l = 0 ∧ rightB (fld l 0 1) (fld l 5 1) = true ∧ needN l ≤ l.length ∧ q = reqO (fld l 1 1) (fld l 12 4) (fld l 16 8) (fxB l) (fkB l) (fvB l) ∧ N = needN l := by
  unfold nxt at h
  split at h
  · cases h
  · split at h
    · cases h
    · rename_i h1 h2
      rw [not_or] at h2
      split at h
      · cases h
      · rename_i h3
        injection h with h
        injection h with h
        injection h with h4 h5
        exact ⟨by simpa using h2.1, by simpa using h2.2, by omega, h4.symm, h5.symm⟩
theorem nxt_yes' {l : List UInt8} (h1 : needE l = 0) (h2 : rightB (fld l 0 1) (fld l 5 1) = true) (h3 : needN l ≤ l.length) : nxt l = some (some (reqO (fld l 1 1) (fld l 12 4) (fld l 16 8) (fxB l) (fkB l) (fvB l), needN l)) := by
  unfold nxt
  rw [if_neg (by rw [h1]; decide), if_neg (by rw [h1, h2]; simp), if_neg (by omega)]
theorem nxt_bad' {l : List UInt8} (h : needE l = 290 ∨ needE l = 3 ∨ (needE l = 0 ∧ rightB (fld l 0 1) (fld l 5 1) = false)) : nxt l = none := by
  unfold nxt
  rcases h with h | h | ⟨h, h'⟩
  · rw [if_neg (by rw [h]; decide), if_pos (.inl (by rw [h]; decide))]
  · rw [if_neg (by rw [h]; decide), if_pos (.inl (by rw [h]; decide))]
  · rw [if_neg (by rw [h]; decide), if_pos (.inr h')]
theorem need_00 {l : List UInt8} (h : needE l = 0) : 24 ≤ l.length ∧ mayB (fld l 0 1) (fld l 2 2) (fld l 4 1) (fld l 8 4) = true ∧ fld l 8 4 ≤ 2048 := by
  unfold needE at h
  split at h
  · cases h
  · rename_i h1
    split at h
    · rename_i h2
      split at h
      · cases h
      · exact ⟨by omega, h2, by omega⟩
    · cases h
theorem need_24 {l : List UInt8} (h : needE l ≠ 9) : 24 ≤ l.length := by
  rcases needE_cases l with h' | h' | h' | h'
  · exact absurd h' h
  · exact (need_290 h').1
  · exact (need_3 h').1
  · exact (need_00 h').1
theorem app_take (l x : List UInt8) : (l ++ x).take l.length = l := List.take_left
theorem fld_app {l : List UInt8} (x : List UInt8) {o k : Nat} (h : o + k ≤ l.length) : fld (l ++ x) o k = fld l o k := by
  have := fld_take (l := l ++ x) h
  rw [app_take] at this
  exact this.symm
theorem needE_app {l : List UInt8} (x : List UInt8) (h : 24 ≤ l.length) : needE (l ++ x) = needE l := by
  have := needE_take (l := l ++ x) (N := l.length) h (by rw [List.length_append]; omega)
  rw [app_take] at this
  exact this.symm
theorem mayB_sum {mg kl el bl : Nat} (h : mayB mg kl el bl = true) : kl + el ≤ bl := by
  unfold mayB at h
  exact of_decide_eq_true (Bool.and_eq_true_iff.1 h).2
theorem nxt_app {l : List UInt8} {q : RQ} {N : Nat} (h : nxt l = some (some (q, N))) (x : List UInt8) : nxt (l ++ x) = some (some (q, N)) := by
  obtain ⟨h1, h2, h3, rfl, rfl⟩ := nxt_yes h
  obtain ⟨h4, h5, h6⟩ := need_00 h1
  have e1 : needE (l ++ x) = 0 := by rw [needE_app x h4, h1]
  have eN : needN l = 24 + fld l 8 4 := needN_of h1
  have eN' : needN (l ++ x) = needN l := by rw [needN_of e1, eN, fld_app x (by omega)]
  have hs := mayB_sum h5
  have t1 := lists_take (l := l) (N := needN l) eN hs
  have t2 := lists_take (l := l ++ x) (N := needN l) (by rw [eN, fld_app x (by omega)]) (by rw [fld_app x (by omega), fld_app x (by omega), fld_app x (by omega)]; exact hs)
  have et : (l ++ x).take (needN l) = l.take (needN l) := List.take_append_of_le_length h3
  rw [et] at t2
  rw [nxt_yes' e1 (by rw [fld_app x (by omega), fld_app x (by omega)]; exact h2) (by rw [eN', List.length_append]; omega)]
  rw [eN', fld_app x (by omega), fld_app x (by omega), fld_app x (by omega), ← t2.1, ← t2.2.1, ← t2.2.2, t1.1, t1.2.1, t1.2.2]
theorem nxt_app_bad {l : List UInt8} (h : nxt l = none) (x : List UInt8) : nxt (l ++ x) = none := by
  have h' := nxt_bad h
  have h4 : 24 ≤ l.length := need_24 (by
    rcases h' with h | h | h
    · rw [h]; decide
    · rw [h]; decide
    · rw [h.1]; decide)
  refine nxt_bad' ?_
  rw [needE_app x h4, fld_app x (by omega), fld_app x (by omega)]
  exact h'
theorem nxt_step {l : List UInt8} {q : RQ} {N : Nat} (h : nxt l = some (some (q, N))) : 24 ≤ N ∧ N ≤ l.length := by
  obtain ⟨h1, h2, h3, rfl, rfl⟩ := nxt_yes h
  have := needN_of h1
  omega
def tellF : Nat → List UInt8 → List RQ × List UInt8 × Bool
  | 0, l => ([], l, false)
  | k + 1, l => match nxt l with
    | none => ([], [], true)
    | some none => ([], l, false)
    | some (some p) => (p.1 :: (tellF k (l.drop p.2)).1, (tellF k (l.drop p.2)).2)
def tell (l : List UInt8) : List RQ × List UInt8 × Bool := tellF l.length l
theorem nxt_nil : nxt [] = some none := by
  unfold nxt
  rw [if_pos (by rfl)]
theorem tellF_len : ∀ (k : Nat) (l : List UInt8), l.length ≤ k → tellF k l = tell l
  | k, l, h => by
    unfold tell
    generalize hn : l.length = n at h
    induction n using Nat.strongRecOn generalizing k l with
    | ind n ih =>
      match k, n, h with
      | 0, 0, _ => rfl
      | k + 1, 0, _ =>
        have e : l = [] := List.eq_nil_of_length_eq_zero hn
        subst e
        unfold tellF
        rw [nxt_nil]
      | k + 1, m + 1, h =>
        unfold tellF
        cases hx : nxt l with
        | none => rfl
        | some o =>
          cases o with
          | none => rfl
          | some p =>
            obtain ⟨q, N⟩ := p
            have hs := nxt_step hx
            have hd : (l.drop N).length = l.length - N := List.length_drop
            simp only
            rw [ih (l.length - N) (by omega) k (l.drop N) hd (by omega), ih (l.length - N) (by omega) m (l.drop N) hd (by omega)]
theorem tell_no {l : List UInt8} (h : nxt l = some none) : tell l = ([], l, false) := by
  rw [← tellF_len (l.length + 1) l (by omega)]
  unfold tellF
  rw [h]
theorem tell_bad {l : List UInt8} (h : nxt l = none) : tell l = ([], [], true) := by
  rw [← tellF_len (l.length + 1) l (by omega)]
  unfold tellF
  rw [h]
theorem tell_yes {l : List UInt8} {q : RQ} {N : Nat} (h : nxt l = some (some (q, N))) : tell l = (q :: (tell (l.drop N)).1, (tell (l.drop N)).2) := by
  rw [← tellF_len (l.length + 1) l (by omega)]
  unfold tellF
  rw [h]
  simp only
  rw [tellF_len l.length (l.drop N) (by rw [List.length_drop]; omega)]
theorem tell_app {l : List UInt8} (h : (tell l).2.2 = false) (x : List UInt8) : tell (l ++ x) = ((tell l).1 ++ (tell ((tell l).2.1 ++ x)).1, (tell ((tell l).2.1 ++ x)).2) := by
  generalize hn : l.length = n
  induction n using Nat.strongRecOn generalizing l with
  | ind n ih =>
    cases hx : nxt l with
    | none => rw [tell_bad hx] at h; cases h
    | some o =>
      cases o with
      | none => rw [tell_no hx]; rfl
      | some p =>
        obtain ⟨q, N⟩ := p
        have hs := nxt_step hx
        rw [tell_yes hx] at h ⊢
        rw [tell_yes (nxt_app hx x), List.drop_append_of_le_length hs.2]
        have hi := ih (l.length - N) (by omega) (l := l.drop N) h List.length_drop
        rw [hi]
        rfl
theorem tell_app_bad {l : List UInt8} (h : (tell l).2.2 = true) (x : List UInt8) : tell (l ++ x) = tell l := by
  generalize hn : l.length = n
  induction n using Nat.strongRecOn generalizing l with
  | ind n ih =>
    cases hx : nxt l with
    | none => rw [tell_bad hx, tell_bad (nxt_app_bad hx x)]
    | some o =>
      cases o with
      | none => rw [tell_no hx] at h; cases h
      | some p =>
        obtain ⟨q, N⟩ := p
        have hs := nxt_step hx
        rw [tell_yes hx] at h ⊢
        rw [tell_yes (nxt_app hx x), List.drop_append_of_le_length hs.2]
        have hi := ih (l.length - N) (by omega) (l := l.drop N) h List.length_drop
        rw [hi]
def NextYes (g N n : Nat) (A : Option Addr) (l : List UInt8) (q : RQ) (w : World) (e : Ending) (w' : World) : Prop := NextOk g N n A l q.op q.qt q.fu q.bd q.oq q.lk q.lv q.fl q.ex q.cs q.dl q.ni w e w'
theorem next_wait' (g n c : Nat) (A : Option Addr) (l : List UInt8) (w : World) (h : PrsA w g A n c l false) (hx : nxt l = some none) : Calls Try.prog 49 #[.pointer (some ⟨g, 0, none⟩)] w (NextNo 0 w) := by
  rcases nxt_no hx with h1 | ⟨h1, h2, h3⟩
  · exact next_short g n c A l w h h1
  · exact next_wait g n c A l w h h1 h2 (by rw [← h.2.len]; exact h3)
theorem next_bad' (g n c : Nat) (A : Option Addr) (l : List UInt8) (w : World) (h : PrsA w g A n c l false) (hx : nxt l = none) : Calls Try.prog 49 #[.pointer (some ⟨g, 0, none⟩)] w (NextBad g w) := by
  rcases nxt_bad hx with h1 | h1 | ⟨h1, h2⟩
  · exact next_bad_m g n c A l w h h1
  · exact next_bad_l g n c A l w h h1
  · exact next_bad_r g n c A l w h h1 h2
theorem next_yes' (g n c : Nat) (A : Option Addr) (l : List UInt8) (w : World) (h : PrsA w g A n c l false) (q : RQ) (N : Nat) (hx : nxt l = some (some (q, N))) : Calls Try.prog 49 #[.pointer (some ⟨g, 0, none⟩)] w (NextYes g N n A l q w) := by
  obtain ⟨h1, h2, h3, rfl, rfl⟩ := nxt_yes hx
  refine next_ok g n c A l w h h1 h2 (by rw [← h.2.len]; exact h3) _ _ _ _ _ _ _ _ _ _ _ _ (fun W X K V cx ck cv rX rK rV => ?_)
  exact preq_any _ (fld l 1 1) _ _ _ _ _ _ _ X K V _ cx _ ck _ cv _ _ _ W rX rK rV (fld_lt l 1 1)
end
section
open Go.RowKit
def obk (A : Option Addr) : Option Nat := A.map (·.block)
theorem obk_eq (A : Option Addr) (n c : Nat) : (Value.slice A n c).ownBlock = obk A := by cases A <;> rfl
structure Kp (w w' : World) (F : Nat → Prop) : Prop where
  os : w'.os = w.os
  tape : w'.tape = w.tape
  output : w'.output = w.output
  size : w.heap.size ≤ w'.heap.size
  block : ∀ k, k < w.heap.size → ¬ F k → w'.heap[k]? = w.heap[k]?
theorem Kp.of_grown {w w' : World} {g : Nat} (h : w.grownBy w' (some g)) : Kp w w' (fun k => k = g) := ⟨h.os, h.tape, h.output, h.size, fun k hk hg => h.block k hk (fun e => hg (by injection e))⟩
theorem Kp.of_row {w w' : World} {r : Option Nat} (h : w.grownBy w' r) : Kp w w' (fun k => some k = r) := ⟨h.os, h.tape, h.output, h.size, fun k hk hg => h.block k hk hg⟩
theorem Kp.of_two {w w' : World} {g : Nat} {r : Option Nat} (h : TwoK w w' g r) : Kp w w' (fun k => k = g ∨ some k = r) := ⟨h.os, h.tape, h.output, h.size, fun k hk hg => h.block k hk (fun e => hg (.inl e)) (fun e => hg (.inr e))⟩
theorem Kp.of_below {w w' : World} (h : Below w.heap.size w w') (F : Nat → Prop) : Kp w w' F := ⟨h.os, h.tape, h.output, h.size, fun k hk _ => h.block k hk⟩
theorem Kp.below {w w' : World} {F : Nat → Prop} {B : Nat} (h : Kp w w' F) (hF : ∀ k, F k → B ≤ k) (hB : B ≤ w.heap.size) : Below B w w' :=
  ⟨h.os, h.tape, h.output, h.size, fun k hk => h.block k (by omega) (fun hf => by have := hF k hf; omega)⟩
theorem Kp.blk {w w' : World} {F : Nat → Prop} {g : Nat} {cs : Array Value} {T : TypeId} (h : Kp w w' F) (hb : Blk w g cs T) (hg : ¬ F g) : Blk w' g cs T := (h.block g hb.lt hg).trans hb
def RdF (w : World) (F : Nat → Prop) (A : Option Addr) (n c : Nat) (l : List UInt8) : Prop := Rd w w.heap.size A n c l ∧ ∀ k, obk A = some k → k < w.heap.size ∧ ¬ F k
theorem RdF.kp {w w' : World} {F F' : Nat → Prop} {A : Option Addr} {n c : Nat} {l : List UInt8} (r : RdF w F A n c l) {G : Nat → Prop} (h : Kp w w' G) (hG : ∀ k, k < w.heap.size → G k → F k) (hF : ∀ k, k < w.heap.size → F' k → F k) : RdF w' F' A n c l := by
  obtain ⟨⟨a1, a2, a3, a4, a5, a6⟩, r2⟩ := r
  refine ⟨⟨a1, a2, a3, a4, fun ad hA hn => Nat.lt_of_lt_of_le (a5 ad hA hn) h.size, fun ad j v hA hu => ?_⟩, fun k hk => ?_⟩
  · subst hA
    obtain ⟨b1, b2⟩ := r2 ad.block rfl
    rw [World.cell?_of_block (w := w) (h.block _ (by rw [block_add]; exact b1) (by rw [block_add]; exact fun hg => b2 (hG _ b1 hg)))]
    exact a6 ad j v rfl hu
  · obtain ⟨b1, b2⟩ := r2 k hk
    exact ⟨Nat.lt_of_lt_of_le b1 h.size, fun hf => b2 (hF k b1 hf)⟩
theorem RdF.weak {w : World} {F F' : Nat → Prop} {A : Option Addr} {n c : Nat} {l : List UInt8} (r : RdF w F A n c l) (hF : ∀ k, k < w.heap.size → F' k → F k) : RdF w F' A n c l := ⟨r.1, fun k hk => ⟨(r.2 k hk).1, fun hf => (r.2 k hk).2 (hF k (r.2 k hk).1 hf)⟩⟩
theorem Own.rdF {w : World} {B : Nat} {A : Option Addr} {n c : Nat} {l : List UInt8} (o : Own w B A n c l) {F : Nat → Prop} (hF : ∀ k, F k → k < B) : RdF w F A n c l := by
  refine ⟨o.rd, fun k hk => ?_⟩
  obtain ⟨h1, h2⟩ := World.ownsRow.lt o k (by rw [obk_eq]; exact hk)
  exact ⟨h2, fun hf => by have := hF k hf; omega⟩
def reqL (q : RQ) (K : Option Addr) (nk ck : Nat) (V : Option Addr) (nv cv : Nat) : List Value := [.int .i64 q.op, .bool q.qt, .bool q.fu, .int .i64 q.bd, .int .u32 (q.oq : Nat), .slice K nk ck, .slice V nv cv, .int .u32 (q.fl : Nat), .int .u32 (q.ex : Nat), .int .u64 (q.cs : Nat), .int .u64 (q.dl : Nat), .int .u64 (q.ni : Nat)]
def TCell (w : World) (F : Nat → Prop) (q : RQ) (cs : List Value) : Prop := ∃ K nk ck V nv cv, cs = reqL q K nk ck V nv cv ∧ RdF w F K nk ck q.lk ∧ RdF w F V nv cv q.lv
theorem TCell.len {w : World} {F : Nat → Prop} {q : RQ} {cs : List Value} (h : TCell w F q cs) : cs.length = 12 := by
  obtain ⟨K, nk, ck, V, nv, cv, rfl, -, -⟩ := h; rfl
theorem TCell.kp {w w' : World} {F F' : Nat → Prop} {q : RQ} {cs : List Value} (r : TCell w F q cs) {G : Nat → Prop} (h : Kp w w' G) (hG : ∀ k, k < w.heap.size → G k → F k) (hF : ∀ k, k < w.heap.size → F' k → F k) : TCell w' F' q cs := by
  obtain ⟨K, nk, ck, V, nv, cv, e, r1, r2⟩ := r
  exact ⟨K, nk, ck, V, nv, cv, e, r1.kp h hG hF, r2.kp h hG hF⟩
def TRow (w : World) (F : Nat → Prop) (qs : List RQ) (L : List (List Value)) : Prop := L.length = qs.length ∧ ∀ (j : Nat) (q : RQ) (cs : List Value), qs[j]? = some q → L[j]? = some cs → TCell w F q cs
theorem TRow.nil (w : World) (F : Nat → Prop) : TRow w F [] [] := ⟨rfl, fun j q cs h => by simp at h⟩
theorem TRow.kp {w w' : World} {F F' : Nat → Prop} {qs : List RQ} {L : List (List Value)} (r : TRow w F qs L) {G : Nat → Prop} (h : Kp w w' G) (hG : ∀ k, k < w.heap.size → G k → F k) (hF : ∀ k, k < w.heap.size → F' k → F k) : TRow w' F' qs L := ⟨r.1, fun j q cs h1 h2 => (r.2 j q cs h1 h2).kp h hG hF⟩
theorem TRow.below {w w' : World} {F : Nat → Prop} {qs : List RQ} {L : List (List Value)} (r : TRow w F qs L) (h : Below w.heap.size w w') (hF : ∀ k, F k → k < w.heap.size) : TRow w' F qs L := r.kp (Kp.of_below h (fun _ => False)) (fun _ _ h => h.elim) (fun _ _ h => h)
theorem TRow.weak {w : World} {F F' : Nat → Prop} {qs : List RQ} {L : List (List Value)} (r : TRow w F qs L) (hF : ∀ k, k < w.heap.size → F' k → F k) : TRow w F' qs L := r.kp (Kp.of_below (Below.refl _ _) (fun _ => False)) (fun _ _ h => h.elim) hF
theorem TRow.snoc {w : World} {F : Nat → Prop} {qs : List RQ} {L : List (List Value)} (r : TRow w F qs L) {q : RQ} {cs : List Value} (h : TCell w F q cs) : TRow w F (qs ++ [q]) (L ++ [cs]) := by
  refine ⟨by rw [List.length_append, List.length_append, r.1]; rfl, fun j q' cs' h1 h2 => ?_⟩
  rw [List.getElem?_append] at h1 h2
  rw [r.1] at h2
  split at h1
  · rename_i hj
    rw [if_pos hj] at h2
    exact r.2 j q' cs' h1 h2
  · rename_i hj
    rw [if_neg hj] at h2
    have e : j - qs.length = 0 := by
      have := (List.getElem?_eq_some_iff.1 h1).1
      simp at this
      omega
    rw [e] at h1 h2
    simp at h1 h2
    subst h1 h2
    exact h
theorem TRow.ones {w : World} {F : Nat → Prop} {q : RQ} {cs : List Value} (h : TCell w F q cs) : ∀ u ∈ cs, u.oneCell' = true := by
  obtain ⟨K, nk, ck, V, nv, cv, rfl, -, -⟩ := h
  unfold reqL
  intro u hu
  simp only [List.mem_cons, List.not_mem_nil, or_false] at hu
  rcases hu with rfl | rfl | rfl | rfl | rfl | rfl | rfl | rfl | rfl | rfl | rfl | rfl <;> rfl
end
section
open Go.RowKit
def Wr (w : World) (B U : Nat) (A : Option Addr) (n : Nat) : Prop := n = 0 ∨ ∃ (g : Nat) (cs : Array Value), A = some ⟨g, 0, none⟩ ∧ B ≤ g ∧ g < U ∧ w.heap[g]? = some (.cells cs 5 (0, 0)) ∧ n ≤ cs.size
theorem Own.wr {w : World} {B n c : Nat} {A : Option Addr} {l : List UInt8} (h : Own w B A n c l) : Wr w B w.heap.size A n := by
  rcases h.2 with ⟨-, h0⟩ | ⟨g, cap, cur, hv, hg, hh, hnc, hcm, hcs, ht⟩
  · exact .inl h0
  · injection hv with e1 e2 e3
    subst e1
    exact .inr ⟨g, cur, rfl, hg, (Array.getElem?_eq_some_iff.1 hh).1, hh, by rw [hcs]; omega⟩
theorem Wr.set {w : World} {B U n : Nat} {A : Option Addr} (h : Wr w B U A n) (g' i : Nat) (u : Value) : Wr (w.setCell ⟨g', i, none⟩ u) B U A n := by
  rcases h with h | ⟨g, cs, hA, hB, hU, hh, hn⟩
  · exact .inl h
  · refine .inr ?_
    by_cases e : g = g'
    · subst e
      exact ⟨g, _, hA, hB, hU, heap_setCell_same w g i _ _ _ hh, by rw [Array.size_setIfInBounds]; exact hn⟩
    · exact ⟨g, cs, hA, hB, hU, (Below.heap_setCell w ⟨g', i, none⟩ u g e).trans hh, hn⟩
theorem Wr.alloc {w : World} {B U n : Nat} {A : Option Addr} (h : Wr w B U A n) (o : Obj) : Wr (w.alloc o) B U A n := by
  rcases h with h | ⟨g, cs, hA, hB, hU, hh, hn⟩
  · exact .inl h
  · exact .inr ⟨g, cs, hA, hB, hU, (Below.heap_alloc w o g (Array.getElem?_eq_some_iff.1 hh).1).trans hh, hn⟩
theorem Wr.at_ {w : World} {B U n : Nat} {A : Option Addr} (h : Wr w B U A n) {i : Nat} (hi : i < n) : ∃ (g : Nat) (v : Value), A = some ⟨g, 0, none⟩ ∧ B ≤ g ∧ g < U ∧ g < w.heap.size ∧ w.cell? ⟨g, i, none⟩ = some v ∧ w.frozen? ⟨g, i, none⟩ = false := by
  rcases h with h | ⟨g, cs, hA, hB, hU, hh, hn⟩
  · omega
  · exact ⟨g, cs[i]'(by omega), hA, hB, hU, (Array.getElem?_eq_some_iff.1 hh).1, by rw [cell_of_row w g i cs _ (0, 0) hh]; exact Array.getElem?_eq_getElem (by omega), frozen_of_row w g i _ _ hh⟩
set_option maxRecDepth 100000 in
set_option maxHeartbeats 4000000 in
theorem rright20 (mg op kl el ty st bl oq cas : Nat) (hf : HdF mg op kl el ty st bl oq cas) (w : World) : Calls Try.prog 55 #[.agg #[.int .u8 (mg : Nat), .int .u8 (op : Nat), .int .u16 (kl : Nat), .int .u8 (el : Nat), .int .u8 (ty : Nat), .int .u16 (st : Nat), .int .u32 (bl : Nat), .int .u32 (oq : Nat), .int .u64 (cas : Nat)]] w (BoxQ' (.bool (rightB mg ty && (decide (kl + el ≤ bl) && decide (bl ≤ 2048)))) w) := by
  obtain ⟨f1, f2, f3, f4, f5, f6, f7, f8, f9⟩ := hf
  have k1 := Blk.new w #[.int .u8 (mg : Nat), .int .u8 (op : Nat), .int .u16 (kl : Nat), .int .u8 (el : Nat), .int .u8 (ty : Nat), .int .u16 (st : Nat), .int .u32 (bl : Nat), .int .u32 (oq : Nat), .int .u64 (cas : Nat)] 59
  have b := below_a1' (Below.refl w.heap.size w) (.cells #[.int .u8 (mg : Nat), .int .u8 (op : Nat), .int .u16 (kl : Nat), .int .u8 (el : Nat), .int .u8 (ty : Nat), .int .u16 (st : Nat), .int .u32 (bl : Nat), .int .u32 (oq : Nat), .int .u64 (cas : Nat)] 59)
  have w1 : IntKind.i64.wrap ((kl : Nat) : Int) = (kl : Nat) := IntWalk.i64_in _ (by omega)
  have w2 : IntKind.i64.wrap ((el : Nat) : Int) = (el : Nat) := IntWalk.i64_in _ (by omega)
  have w3 : IntKind.i64.wrap ((bl : Nat) : Int) = (bl : Nat) := IntWalk.i64_in _ (by omega)
  have w4 : IntKind.i64.wrap ((kl : Int) + (el : Int)) = (kl : Int) + (el : Int) := IntWalk.i64_in _ (by omega)
  have HE : Hid (∀ x, x = (rightB mg ty && (decide (kl + el ≤ bl) && decide (bl ≤ 2048))) → BoxQ' (.bool (rightB mg ty && (decide (kl + el ≤ bl) && decide (bl ≤ 2048)))) w (.returned (.bool x)) (w.alloc (.cells #[.int .u8 (mg : Nat), .int .u8 (op : Nat), .int .u16 (kl : Nat), .int .u8 (el : Nat), .int .u8 (ty : Nat), .int .u16 (st : Nat), .int .u32 (bl : Nat), .int .u32 (oq : Nat), .int .u64 (cas : Nat)] 59))) := Lib.hid fun x hx => ⟨by rw [hx], b⟩
  generalize BoxQ' (.bool (rightB mg ty && (decide (kl + el ≤ bl) && decide (bl ≤ 2048)))) w = QQ at HE ⊢
  clear f1 f2 f3 f4 f5 f6 f7 f8 f9 b
  go_enter Try.func55, Try.ntmps55
  go_upto_region 1 with fail
  generalize w.alloc (.cells #[.int .u8 (mg : Nat), .int .u8 (op : Nat), .int .u16 (kl : Nat), .int .u8 (el : Nat), .int .u8 (ty : Nat), .int .u16 (st : Nat), .int .u32 (bl : Nat), .int .u32 (oq : Nat), .int .u64 (cas : Nat)] 59) = W0 at k1 HE ⊢
  obtain ⟨z0, z1, z2, z3, z4, z5, z6, z7, z8⟩ := box9 k1
  by_cases h1 : mg = 128
  · have e1 : ((mg : Int) == 128) = true := beq_iff_eq.2 (by omega)
    by_cases h2 : ty = 0
    · have e2 : ((ty : Int) == 0) = true := beq_iff_eq.2 (by omega)
      by_cases h3 : kl + el ≤ bl
      · have e3 : ((kl : Int) + (el : Int) ≤ (bl : Int)) = True := eq_true (by omega)
        have HX : Hid (decide ((bl : Int) ≤ 2048) = (rightB mg ty && (decide (kl + el ≤ bl) && decide (bl ≤ 2048)))) := Lib.hid (by
          have e : decide ((bl : Int) ≤ 2048) = decide (bl ≤ 2048) := decide_eq_decide.2 (by omega)
          rw [e, decide_eq_true h3, h1, h2]
          unfold rightB
          simp)
        clear h1 h2 h3
        go_wp2_with fail
        exact HE.out _ HX.out
      · have e3 : ((kl : Int) + (el : Int) ≤ (bl : Int)) = False := eq_false (by omega)
        have HX : Hid (false = (rightB mg ty && (decide (kl + el ≤ bl) && decide (bl ≤ 2048)))) := Lib.hid (by rw [decide_eq_false h3, Bool.false_and, Bool.and_false])
        clear h1 h2 h3
        go_wp2_with fail
        exact HE.out _ HX.out
    · have e2 : ((ty : Int) == 0) = false := beq_eq_false_iff_ne.2 (by omega)
      have HX : Hid (false = (rightB mg ty && (decide (kl + el ≤ bl) && decide (bl ≤ 2048)))) := Lib.hid (by unfold rightB; rw [beq_eq_false_iff_ne.2 h2, Bool.and_false, Bool.false_and])
      clear h1 h2
      go_wp2_with fail
      exact HE.out _ HX.out
  · have e1 : ((mg : Int) == 128) = false := beq_eq_false_iff_ne.2 (by omega)
    have HX : Hid (false = (rightB mg ty && (decide (kl + el ≤ bl) && decide (bl ≤ 2048)))) := Lib.hid (by unfold rightB; rw [beq_eq_false_iff_ne.2 h1, Bool.false_and, Bool.false_and])
    clear h1
    go_wp2_with fail
    exact HE.out _ HX.out
end
section
open Go.RowKit
theorem Kp.weak {w w' : World} {F F' : Nat → Prop} (h : Kp w w' F) (hF : ∀ k, F k → F' k) : Kp w w' F' := ⟨h.os, h.tape, h.output, h.size, fun k hk hn => h.block k hk (fun hf => hn (hF k hf))⟩
theorem Kp.after {w w1 w2 : World} {F G : Nat → Prop} (h : Kp w w1 F) (h2 : Kp w1 w2 G) (hG : ∀ k, k < w.heap.size → G k → F k) : Kp w w2 F := ⟨h2.os.trans h.os, h2.tape.trans h.tape, h2.output.trans h.output, Nat.le_trans h.size h2.size, fun k hk hn => (h2.block k (Nat.lt_of_lt_of_le hk h.size) (fun hg => hn (hG k hk hg))).trans (h.block k hk hn)⟩
theorem Kp.trans {w w1 w2 : World} {F : Nat → Prop} (h : Kp w w1 F) (h2 : Kp w1 w2 F) : Kp w w2 F := h.after h2 (fun _ _ h => h)
theorem Kp.refl (w : World) (F : Nat → Prop) : Kp w w F := ⟨rfl, rfl, rfl, Nat.le_refl _, fun _ _ _ => rfl⟩
end
end Go.Proofs.Ytnghmgbmflcngaa

/- Bytes of the call's own, cut at their front: a queue. Conditions: typed in each theorem. -/
import Derived.Test.YtnghmgbmflcngaaOctr
namespace Go.Proofs.Ytnghmgbmflcngaa
set_option linter.unusedVariables false
open Go.RowKit

/-- Bytes of the call's own, from a place of a block on. -/
def Que (w : World) (B : Nat) (A : Option Addr) (n c : Nat) (l : List UInt8) : Prop :=
  l.length = n ∧ ((A = none ∧ n = 0 ∧ c = 0) ∨ ∃ g i cur, A = some ⟨g, i, none⟩ ∧ B ≤ g ∧ w.heap[g]? = some (.cells cur 5 (0, 0)) ∧ n ≤ c ∧ i + c ≤ maxLen ∧ i + c ≤ cur.size ∧ (cur.toList.drop i).take n = cbs l)
section
variable {w w' : World} {B B' n c : Nat} {A : Option Addr} {l l2 : List UInt8}
theorem Que.len (h : Que w B A n c l) : l.length = n := h.1
theorem Own.que (h : Own w B A n c l) : Que w B A n c l := by
  refine ⟨h.len, ?_⟩
  rcases h.2 with ⟨hv, hn⟩ | ⟨g, cap, cur, hv, hbg, hg, hnc, hcm, hcs, htake⟩
  · injection hv with e1 e2 e3
    exact .inl ⟨e1, hn, e3⟩
  · injection hv with e1 e2 e3
    subst e1 e3
    exact .inr ⟨g, 0, cur, rfl, hbg, hg, hnc, by omega, by omega, by simpa using htake⟩
theorem Que.nil (w : World) (B : Nat) : Que w B none 0 0 [] := ⟨rfl, .inl ⟨rfl, rfl, rfl⟩⟩
theorem Que.rd (h : Que w B A n c l) : Rd w w.heap.size A n c l := by
  obtain ⟨hl, h⟩ := h
  have hlc : (cbs l).length = n := by rw [length_cbs]; exact hl
  rcases h with ⟨rfl, rfl, rfl⟩ | ⟨g, i, cur, rfl, hbg, hg, hnc, hcm, hcs, ht⟩
  · obtain rfl : l = [] := List.eq_nil_of_length_eq_zero hl
    exact Rd.nil _ _
  · refine ⟨hlc, hnc, by omega, (fun h => by cases h), (fun ad hA _ => ?_), (fun ad k u hA hu => ?_)⟩
    · injection hA with hA; subst hA
      exact (Array.getElem?_eq_some_iff.1 hg).1
    · injection hA with hA; subst hA
      have hadd : (⟨g, i, none⟩ : Addr).add k = ⟨g, i + k, none⟩ := by unfold Addr.add; split <;> simp_all
      rw [hadd, cell_of_row w g (i + k) cur _ (0, 0) hg]
      rw [← ht, List.getElem?_take] at hu
      split at hu
      · rw [List.getElem?_drop] at hu
        simpa using hu
      · cases hu
theorem Que.more (h : Que w B A n c l) (hB : B' ≤ B) : Que w B' A n c l := by
  refine ⟨h.1, ?_⟩
  rcases h.2 with h' | ⟨g, i, cur, hv, hg, r⟩
  · exact .inl h'
  · exact .inr ⟨g, i, cur, hv, by omega, r⟩
theorem Que.below (h : Que w B A n c l) (hb : Below w.heap.size w w') : Que w' B A n c l := by
  refine ⟨h.1, ?_⟩
  rcases h.2 with h' | ⟨g, i, cur, hv, hg, hh, r⟩
  · exact .inl h'
  · exact .inr ⟨g, i, cur, hv, hg, (hb.block g (Array.getElem?_eq_some_iff.1 hh).1).trans hh, r⟩
theorem Que.kept {row : Option Nat} (h : Que w B A n c l) (hg : w.grownBy w' row) (hne : ∀ k, row = some k → k < B) : Que w' B A n c l := by
  refine ⟨h.1, ?_⟩
  rcases h.2 with h' | ⟨g, i, cur, hv, hgb, hh, r⟩
  · exact .inl h'
  · exact .inr ⟨g, i, cur, hv, hgb, (hg.block g (Array.getElem?_eq_some_iff.1 hh).1 (fun e => by have := hne g e.symm; omega)).trans hh, r⟩
theorem Que.cut (h : Que w B A n c l) {k : Nat} (hk : k ≤ n) : Que w B (if c = k then A else A.map (·.add k)) (n - k) (c - k) (l.drop k) := by
  obtain ⟨hl, h⟩ := h
  refine ⟨by rw [List.length_drop, hl], ?_⟩
  rcases h with ⟨rfl, rfl, rfl⟩ | ⟨g, i, cur, rfl, hbg, hg, hnc, hcm, hcs, ht⟩
  · exact .inl ⟨by split <;> rfl, by omega, by omega⟩
  · have hd : (cbs l).drop k = cbs (l.drop k) := by unfold cbs; rw [List.map_drop]
    by_cases hc : c = k
    · rw [if_pos hc]
      refine .inr ⟨g, i, cur, rfl, hbg, hg, by omega, by omega, by omega, ?_⟩
      have e : l.drop k = [] := List.eq_nil_of_length_eq_zero (by rw [List.length_drop]; omega)
      rw [e, show n - k = 0 by omega]
      rfl
    · rw [if_neg hc]
      have hadd : (⟨g, i, none⟩ : Addr).add k = ⟨g, i + k, none⟩ := by unfold Addr.add; split <;> simp_all
      refine .inr ⟨g, i + k, cur, by simp only [Option.map_some, hadd], hbg, hg, by omega, by omega, by omega, ?_⟩
      rw [← hd, ← ht, List.drop_take, List.drop_drop]
theorem Que.owner (h : Que w B A n c l) : ∀ k, (Value.slice A n c).ownBlock = some k → B ≤ k ∧ k < w.heap.size := by
  intro k hk
  rcases h.2 with ⟨rfl, _⟩ | ⟨g, i, cur, rfl, hg, hh, r⟩
  · cases hk
  · injection hk with hk
    subst hk
    exact ⟨hg, (Array.getElem?_eq_some_iff.1 hh).1⟩
end
/-- append to a queue. -/
theorem run_appQ {P : Program} (w : World) (B : Nat) (t ty e : TypeId) (ie : TypeInfo) (z : Value) (he : e = 5) (ht : P.underlying t = some (.slice e)) (hi : P.info? e = some ie) (hz : ie.zero = some z)
    (hsize : ie.size = 1) (hby : ie.bytes = 1) (hzs : z.cells.size = 1)
    (A : Option Addr) (n c : Nat) (l : List UInt8) (hown : Que w B A n c l)
    (B2 : Nat) (A2 : Option Addr) (m c2 : Nat) (l2 : List UInt8) (hr : Rd w B2 A2 m c2 l2)
    (hsm : n + m ≤ 140737488355328) (hbase : B ≤ w.heap.size) :
    ∃ A' c' w', (Builtin.append_ #[t, t] ty #[.slice A n c, .slice A2 m c2]).run P w = .ok (.slice A' (n + m) c') w' ∧ Que w' B A' (n + m) c' (l ++ l2) ∧ w.grownBy w' (Value.slice A n c).ownBlock ∧
      ((Value.slice A' (n + m) c').ownBlock = (Value.slice A n c).ownBlock ∨ (Value.slice A' (n + m) c').ownBlock = some w.heap.size) := by
  subst he
  rcases hown.2 with ⟨rfl, rfl, rfl⟩ | ⟨g, i, cur, rfl, hbg, hg, hnc, hcm, hcs, htk⟩
  · have hl : l = [] := List.eq_nil_of_length_eq_zero hown.1
    subst hl
    obtain ⟨A', c', w', h1, h2, h3, h4⟩ := run_app (P := P) w B t ty 5 ie z 1 ht hi hz hsize hby hzs none 0 0 [] (Ov.nil _ _ _) B2 A2 m c2 (cbs l2) hr (cbs_one _) (fits_small (by omega)) (by unfold maxLen; omega) hbase
    refine ⟨A', c', w', h1, Own.que ?_, h3, h4⟩
    unfold Own
    simpa using h2
  · have hrd := hown.rd
    have hxl : (cbs l).length = n * ie.size := by rw [hsize, length_cbs, Nat.mul_one]; exact hown.1
    cases A2 with
    | none =>
      have hc0 : c2 = 0 := hr.2.2.2.1 rfl
      have hm : m = 0 := by have := hr.2.1; omega
      subst hm
      subst hc0
      have hn : l2 = [] := List.eq_nil_of_length_eq_zero hr.len
      subst hn
      refine ⟨_, c, w, ?_, by simpa using hown, World.grownBy.refl w _, Or.inl rfl⟩
      simp [Builtin.append_, run_underlying ht, sizeOf, typeInfo, hi, Builtin.lenOf, Builtin.firstCells, loadCells, storeCells, hnc]
    | some a =>
      have hl : (cbs l2).length = m * ie.size := by rw [hsize, Nat.mul_one]; exact hr.1
      have hnews : ∀ j u, (cbs l2)[j]? = some u → w.cell? (a.add j) = some u := fun j u hu => hr.2.2.2.2.2 a j u rfl hu
      have hl1 : (cbs l2).length = m := hr.1
      by_cases hroom : n + m ≤ c
      · have hf := run_firstCells_some (P := P) w ie.size m a m c2 (cbs l2) hl hnews
        have hst := run_storeCells_at P g (i + n * ie.size) 5 (cbs l2) 0 cur w hg (by rw [hl1, hsize]; omega) (cbs_one _)
        have hadd : (⟨g, i, none⟩ : Addr).add (n * ie.size) = ⟨g, i + n * ie.size, none⟩ := by unfold Addr.add; split <;> simp_all
        have hrun : (Builtin.append_ #[t, t] ty #[.slice (some ⟨g, i, none⟩) n c, .slice (some a) m c2]).run P w = .ok (.slice (some ⟨g, i, none⟩) (n + m) c) (w.setRow g (cur.toList.take (i + n * ie.size) ++ cbs l2 ++ cur.toList.drop (i + n * ie.size + (cbs l2).length)).toArray) := by
          simp only [Nat.add_zero] at hst
          simp [Builtin.append_, run_underlying ht, sizeOf, typeInfo, hi, Builtin.lenOf, hroom, hf, hadd, hst]
        rw [hsize] at hrun
        have hcl : cur.toList.length = cur.size := Array.length_toList
        refine ⟨_, c, _, hrun, ⟨by rw [List.length_append, hown.1, hr.len], .inr ⟨g, i, _, rfl, hbg, setRow_heap w g cur _ _ _ hg, hroom, hcm, ?_, ?_⟩⟩, ⟨rfl, rfl, rfl, by simp, fun k _ hk => setRow_other w g k _ (fun e => hk (by simp [Value.ownBlock, e]))⟩, Or.inl rfl⟩
        · simp only [List.size_toArray, List.length_append, List.length_take, List.length_drop]
          omega
        · simp only [Nat.mul_one, cbs_append]
          rw [← htk]
          have e1 : ((cur.toList.take (i + n) ++ cbs l2 ++ cur.toList.drop (i + n + (cbs l2).length)).drop i) = (cur.toList.drop i).take n ++ cbs l2 ++ cur.toList.drop (i + n + (cbs l2).length) := by
            rw [List.append_assoc, List.drop_append_of_le_length (by rw [List.length_take]; omega), List.drop_take, List.append_assoc, show i + n - i = n by omega]
          rw [e1]
          have e2 : ((cur.toList.drop i).take n ++ cbs l2).length = n + m := by
            rw [List.length_append, hl1, List.length_take, List.length_drop]
            omega
          rw [← e2]
          exact List.take_left
      · have holds : ∀ j u, (cbs l)[j]? = some u → w.cell? ((⟨g, i, none⟩ : Addr).add j) = some u := fun j u hu => hrd.2.2.2.2.2 _ j u rfl hu
        have hr' := run_append_grow (P := P) w t ty 5 ie z ht hi hz ⟨g, i, none⟩ n c (cbs l) hxl holds a m c2 (cbs l2) hl hnews (by omega) (by omega) (by rw [hby]; exact growslice_fits (by omega) (by omega))
        have hge := grownCap_ge w (n + m) c 5
        have hcm2 : grownCap w (n + m) c 5 ≤ maxLen := grownCap_le_maxLen w (n + m) c _ (by unfold maxLen; omega)
        refine ⟨_, _, _, hr', ⟨by rw [List.length_append, hown.1, hr.len], .inr ⟨w.heap.size, 0, _, rfl, hbase, heap_alloc_new w.drew _, hge, by omega, ?_, ?_⟩⟩, ⟨rfl, rfl, rfl, by simp, fun k hk _ => (World.grownBy_alloc w.drew _ none).block k hk (by simp)⟩, Or.inr rfl⟩
        · simp only [Array.size_append, List.size_toArray, size_zeroCells, hzs, hxl, hl, hsize, ← Nat.add_mul]
          omega
        · simp only [Array.toList_append, List.append_assoc, List.drop_zero, cbs_append]
          rw [← List.append_assoc]
          have e2 : (cbs l ++ cbs l2).length = n + m := by rw [List.length_append, hl1, hxl, hsize, Nat.mul_one]
          rw [← e2]
          exact List.take_left
theorem wpList_appQ (w : World) {ops : Array Oper} {rest : List Oper} {o : Oper} {a : Act} {Q : Exit → Act → World → Prop}
    (hg : Region.wanted o (yielded ops a.tmps) = true) (s x : Operand) (hop : o.op = Op.call { callee := Callee.builtin Builtin.append, args := #[s, x], argTypes := #[23, 23] })
    (B : Nat) (A : Option Addr) (n c : Nat) (l : List UInt8) (hs : a.eval s = .slice A n c) (hown : Que w B A n c l)
    (B2 : Nat) (A2 : Option Addr) (m c2 : Nat) (l2 : List UInt8) (hx : a.eval x = .slice A2 m c2) (hr : Rd w B2 A2 m c2 l2)
    (hsm : n + m ≤ 140737488355328) (hbase : B ≤ w.heap.size)
    (hK : ∀ A' c' w', Que w' B A' (n + m) c' (l ++ l2) → w.grownBy w' (Value.slice A n c).ownBlock →
      ((Value.slice A' (n + m) c').ownBlock = (Value.slice A n c).ownBlock ∨ (Value.slice A' (n + m) c').ownBlock = some w.heap.size) → wpList Try.prog ops Q rest (a.put o.dst (.slice A' (n + m) c')) w') :
    wpList Try.prog ops Q (o :: rest) a w := by
  refine wpList_want hg fun K hK' => ?_
  obtain ⟨i0, hi0, hz0, hz1, hz2⟩ := info_parts u8info
  obtain ⟨A', c', w', hrun, r1, r2, r3⟩ := run_appQ (P := Try.prog) w B _ o.type _ i0 _ rfl Try.underlying23 hi0 hz0 hz1 hz2 rfl A n c l hown B2 A2 m c2 l2 hr hsm hbase
  unfold Oper.wp
  simp [execOp, hop, resolve, invoke, builtin, hs, hx, hrun, Result.andThen]
  exact hK' _ _ (hK A' c' w' r1 r2 r3)
end Go.Proofs.Ytnghmgbmflcngaa

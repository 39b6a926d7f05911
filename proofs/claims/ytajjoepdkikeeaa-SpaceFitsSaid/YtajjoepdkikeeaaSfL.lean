/- Keys and their last charges: a row, a map, those that nothing follows. Conditions: typed in each theorem. -/
import Derived.Test.YtajjoepdkikeeaaSfO
import Derived.Shelf.SlIter.AllValues
import Derived.Maps.Views
import Derived.Maps.OwnSet
import Derived.Sort.KeysCollected
namespace Go.Proofs.Ytajjoepdkikeeaa
set_option linter.unusedVariables false
open Go.Maps Go.Sort Go.RowKit

abbrev KV := List UInt8 × Nat
/-- The last charge of a key. -/
def lookL (L : List KV) (k : List UInt8) : Option Nat := L.foldl (fun acc p => if p.1 = k then some p.2 else acc) none
theorem lookL_snoc (L : List KV) (p : KV) (k : List UInt8) : lookL (L ++ [p]) k = if p.1 = k then some p.2 else lookL L k := by
  unfold lookL
  rw [List.foldl_append]
  rfl
theorem look_acc (k : List UInt8) : ∀ (r : List KV) (acc : Option Nat), r.foldl (fun acc p => if p.1 = k then some p.2 else acc) acc = (match r.foldl (fun acc p => if p.1 = k then some p.2 else acc) none with | some v => some v | none => acc)
  | [], acc => rfl
  | p :: r, acc => by
    rw [List.foldl_cons, List.foldl_cons]
    by_cases h : p.1 = k
    · rw [if_pos h, if_pos h, look_acc k r (some p.2)]
      cases r.foldl (fun acc p => if p.1 = k then some p.2 else acc) none <;> rfl
    · rw [if_neg h, if_neg h]
      exact look_acc k r acc
theorem lookL_cons (p : KV) (r : List KV) (k : List UInt8) : lookL (p :: r) k = (match lookL r k with | some v => some v | none => if p.1 = k then some p.2 else none) := by
  show r.foldl _ (if p.1 = k then some p.2 else none) = _
  exact look_acc k r _
/-- Those that no other one of their key follows. -/
def lastOcc : List KV → List KV
  | [] => []
  | p :: r => if p.1 ∈ r.map (·.1) then lastOcc r else p :: lastOcc r
theorem last_keys : ∀ (L : List KV) (k : List UInt8), k ∈ (lastOcc L).map (·.1) ↔ k ∈ L.map (·.1)
  | [], k => Iff.rfl
  | p :: r, k => by
    unfold lastOcc
    by_cases h : p.1 ∈ r.map (·.1)
    · rw [if_pos h, last_keys r k, List.map_cons, List.mem_cons]
      exact ⟨Or.inr, fun h' => h'.elim (fun e => by rw [e]; exact h) id⟩
    · rw [if_neg h, List.map_cons, List.map_cons, List.mem_cons, List.mem_cons, last_keys r k]
theorem last_nodup : ∀ (L : List KV), ((lastOcc L).map (·.1)).Nodup
  | [] => List.nodup_nil
  | p :: r => by
    unfold lastOcc
    by_cases h : p.1 ∈ r.map (·.1)
    · rw [if_pos h]; exact last_nodup r
    · rw [if_neg h, List.map_cons, List.nodup_cons]
      exact ⟨fun h' => h ((last_keys r p.1).1 h'), last_nodup r⟩
theorem look_none : ∀ (L : List KV) (k : List UInt8), lookL L k = none ↔ k ∉ L.map (·.1)
  | [], k => by simp [lookL]
  | p :: r, k => by
    rw [lookL_cons]
    have ih := look_none r k
    cases h : lookL r k with
    | some v =>
      have hk : k ∈ r.map (·.1) := Classical.byContradiction fun hn => by rw [ih.2 hn] at h; cases h
      simp only [List.map_cons, List.mem_cons]
      exact ⟨fun h' => (by cases h'), fun h' => absurd (Or.inr hk) h'⟩
    | none =>
      have hk := ih.1 h
      simp only [List.map_cons, List.mem_cons]
      by_cases e : p.1 = k
      · rw [if_pos e]
        exact ⟨fun h' => (by cases h'), fun h' => absurd (Or.inl e.symm) h'⟩
      · rw [if_neg e]
        exact ⟨fun _ h' => h'.elim (fun e' => e e'.symm) hk, fun _ => rfl⟩
theorem last_look : ∀ (L : List KV) (p : KV), p ∈ lastOcc L → lookL L p.1 = some p.2
  | [], p, h => by cases h
  | q :: r, p, h => by
    unfold lastOcc at h
    rw [lookL_cons]
    by_cases hq : q.1 ∈ r.map (·.1)
    · rw [if_pos hq] at h
      rw [last_look r p h]
    · rw [if_neg hq] at h
      rcases List.mem_cons.1 h with rfl | h
      · rw [(look_none r p.1).2 hq, if_pos rfl]
      · rw [last_look r p h]
def sumL (L : List KV) : Nat := (L.map (·.2)).sum
theorem sumL_cons (p : KV) (r : List KV) : sumL (p :: r) = p.2 + sumL r := by unfold sumL; rw [List.map_cons, List.sum_cons]
theorem last_step (p : KV) (r : List KV) : (p.1 ∈ r.map (·.1) → lastOcc (p :: r) = lastOcc r) ∧ (p.1 ∉ r.map (·.1) → sumL (lastOcc (p :: r)) = p.2 + sumL (lastOcc r) ∧ (lastOcc (p :: r)).length = (lastOcc r).length + 1) := by
  refine ⟨fun h => by show (if _ then _ else _) = _; rw [if_pos h], fun h => ?_⟩
  have e : lastOcc (p :: r) = p :: lastOcc r := by show (if _ then _ else _) = _; rw [if_neg h]
  rw [e, sumL_cons]
  exact ⟨rfl, rfl⟩
theorem sumL_le {m : Nat} : ∀ (L : List KV), (∀ p ∈ L, p.2 ≤ m) → sumL (lastOcc L) ≤ m * L.length ∧ (lastOcc L).length ≤ L.length
  | [], _ => ⟨by simp [lastOcc, sumL], Nat.le_refl _⟩
  | p :: r, h => by
    obtain ⟨h1, h2⟩ := sumL_le r (fun q hq => h q (List.mem_cons_of_mem _ hq))
    have hp := h p List.mem_cons_self
    rw [List.length_cons, Nat.mul_succ]
    by_cases hq : p.1 ∈ r.map (·.1)
    · rw [(last_step p r).1 hq]; omega
    · obtain ⟨e1, e2⟩ := (last_step p r).2 hq
      rw [e1, e2]; omega
section
variable {H : Type}
/-- The map holds the last charges. -/
def Rep (D : DataW H) (L : List KV) : Prop := Tidy D ∧ (∀ k v, lookL L k = some v → has D (.string k) = true ∧ ∀ zd, D.atKey (.string k) zd = .lit (.int .i64 (v : Nat))) ∧ (∀ k, lookL L k = none → has D (.string k) = false) ∧ Maps.size D = (lastOcc L).length
theorem Rep.start : Rep (.map [] : DataW H) [] := ⟨tidy_empty, (fun k v h => by cases h), (fun k _ => rfl), rfl⟩
theorem last_snoc (L : List KV) (p : KV) : (lastOcc (L ++ [p])).length = if p.1 ∈ L.map (·.1) then (lastOcc L).length else (lastOcc L).length + 1 := by
  have hperm : ∀ (l l' : List (List UInt8)), l.Nodup → l'.Nodup → (∀ x, x ∈ l ↔ x ∈ l') → l.length = l'.length := fun l l' h1 h2 h => ((List.perm_ext_iff_of_nodup h1 h2).2 h).length_eq
  by_cases h : p.1 ∈ L.map (·.1)
  · rw [if_pos h]
    have := hperm _ _ (last_nodup (L ++ [p])) (last_nodup L) (fun x => by
      rw [last_keys, last_keys, List.map_append, List.mem_append]
      exact ⟨fun h' => h'.elim id (fun e => by rw [List.map_cons, List.map_nil, List.mem_singleton] at e; rw [e]; exact h), Or.inl⟩)
    simpa using this
  · rw [if_neg h]
    have hn : (p.1 :: (lastOcc L).map (·.1)).Nodup := List.nodup_cons.2 ⟨fun h' => h ((last_keys L p.1).1 h'), last_nodup L⟩
    have := hperm _ _ (last_nodup (L ++ [p])) hn (fun x => by
      rw [last_keys, List.mem_cons, last_keys, List.map_append, List.mem_append, List.map_cons, List.map_nil, List.mem_singleton]
      exact Or.comm)
    simpa using this
theorem Rep.put {D : DataW H} {L : List KV} (h : Rep D L) (k : List UInt8) (n : Nat) : Rep (D.put (.string k) (.lit (.int .i64 (n : Nat)))) (L ++ [(k, n)]) := by
  obtain ⟨h1, h2, h3, h4⟩ := h
  have hk : WideAt.IsKeyLit (.string k) := trivial
  refine ⟨h1.put hk _, fun k' v hv => ?_, fun k' hv => ?_, ?_⟩
  · rw [lookL_snoc] at hv
    by_cases e : k = k'
    · subst e
      rw [if_pos rfl] at hv
      obtain rfl := Option.some.inj hv
      exact ⟨has_put_same h1.isMap hk _, fun zd => atKey_put_same h1.isMap hk _ zd⟩
    · rw [if_neg (show ¬ ((k, n) : KV).1 = k' from e)] at hv
      have hne : Lit.string k' ≠ Lit.string k := fun e' => e (by injection e' with e'; exact e'.symm)
      obtain ⟨g1, g2⟩ := h2 k' v hv
      exact ⟨by rw [has_put_other hne]; exact g1, fun zd => by rw [atKey_put_other hne]; exact g2 zd⟩
  · rw [lookL_snoc] at hv
    by_cases e : k = k'
    · rw [if_pos (show ((k, n) : KV).1 = k' from e)] at hv
      cases hv
    · rw [if_neg (show ¬ ((k, n) : KV).1 = k' from e)] at hv
      have hne : Lit.string k' ≠ Lit.string k := fun e' => e (by injection e' with e'; exact e'.symm)
      rw [has_put_other hne]
      exact h3 k' hv
  · rw [size_put h1, last_snoc, h4]
    cases hl : lookL L k with
    | some v =>
      have hm : k ∈ L.map (·.1) := Classical.byContradiction fun hn => by rw [(look_none L k).2 hn] at hl; cases hl
      rw [(h2 k v hl).1, if_pos rfl, if_pos (show ((k, n) : KV).1 ∈ L.map (·.1) from hm)]
    | none =>
      rw [h3 k hl, if_neg (by decide), if_neg (show ¬ ((k, n) : KV).1 ∈ L.map (·.1) from (look_none L k).1 hl)]
def sumW25 (l : List Int) : Int := l.foldl (fun s v => wrap64 (s + v)) 0
theorem sumW25_snoc (pre : List Int) (x : Int) : sumW25 (pre ++ [x]) = wrap64 (sumW25 pre + x) := by simp [sumW25]
theorem sumW25_is : ∀ (l : List Nat) (s : Nat), s + l.sum ≤ 1000000 → (l.map (fun x : Nat => (x : Int))).foldl (fun s v => wrap64 (s + v)) (s : Int) = ((s + l.sum : Nat) : Int)
  | [], s, _ => by simp
  | x :: l, s, h => by
    rw [List.sum_cons] at h ⊢
    rw [List.map_cons, List.foldl_cons, IntWalk.wrap64_in _ (by omega), show ((s : Int) + (x : Int)) = ((s + x : Nat) : Int) by omega, sumW25_is l (s + x) (by omega)]
    congr 1
    omega
/-- All values that come, summed. -/
theorem Rep.sum {P : Program} {kt : TypeId} {R : Value → Option (DataW H × List MemPlace)} {w : World} {b nn : Nat} {D : DataW H} {L : List KV} (h : Rep D L) (hown : w.ownsMap P kt R b nn D) (hk : P.underlying kt = some .string) (hs : sumL (lastOcc L) ≤ 1000000) {ps : List (List UInt8 × Int)} (hall : AnyY.AllOf D ps) : sumW25 (ps.map (·.2)) = (sumL (lastOcc L) : Nat) := by
  obtain ⟨h1, h2, h3, h4⟩ := h
  obtain ⟨a1, a2, a3⟩ := hall
  have hnd : (ps.map (·.1)).Nodup := by
    refine a1.nodup_iff.2 ?_
    obtain ⟨es, rfl, hp⟩ := h1
    obtain ⟨es', e', hes⟩ := hown.keysOf
    injection e' with e'
    subst e'
    show (es.map fun p => strOf p.1).Nodup
    refine List.pairwise_map.2 (hp.imp_of_mem fun {p q} hp' hq' hne e => hne ?_)
    obtain ⟨v1, g1⟩ := hes p hp'
    obtain ⟨v2, g2⟩ := hes q hq'
    obtain ⟨x1, -, f1, -⟩ := Maps.keyOf_str hk g1
    obtain ⟨x2, -, f2, -⟩ := Maps.keyOf_str hk g2
    rw [f1, f2] at e ⊢
    exact congrArg _ e
  have key : ∀ k, has D (.string k) = true ↔ k ∈ (lastOcc L).map (·.1) := by
    intro k
    rw [last_keys]
    cases hl : lookL L k with
    | some v =>
      have hm : k ∈ L.map (·.1) := Classical.byContradiction fun hn => by rw [(look_none L k).2 hn] at hl; cases hl
      exact ⟨fun _ => hm, fun _ => (h2 k v hl).1⟩
    | none => exact ⟨fun h' => (by rw [h3 k hl] at h'; cases h'), fun h' => absurd h' ((look_none L k).1 hl)⟩
  have hperm : ps.Perm ((lastOcc L).map (fun p => (p.1, (p.2 : Int)))) := by
    have n1 : ps.Nodup := (List.pairwise_map.1 hnd).imp (fun hne e => hne (congrArg _ e))
    have n2 : ((lastOcc L).map (fun p => (p.1, (p.2 : Int)))).Nodup := List.pairwise_map.2 ((List.pairwise_map.1 (last_nodup L)).imp (fun hne e => hne (by injection e with e1 e2)))
    refine (List.perm_ext_iff_of_nodup n1 n2).2 fun x => ⟨fun hx => ?_, fun hx => ?_⟩
    · have hm := (key x.1).1 ((a2 x.1).1 (List.mem_map.2 ⟨x, hx, rfl⟩))
      obtain ⟨q, hq, e⟩ := List.mem_map.1 hm
      have hv := a3 x hx (.lit (.string []))
      have hv2 := (h2 q.1 q.2 (last_look L q hq)).2 (.lit (.string []))
      rw [e] at hv2
      rw [hv] at hv2
      have e2 : x.2 = (q.2 : Int) := by injection hv2 with hv2; injection hv2
      exact List.mem_map.2 ⟨q, hq, Prod.ext e e2.symm⟩
    · obtain ⟨q, hq, rfl⟩ := List.mem_map.1 hx
      have hm : q.1 ∈ ps.map (·.1) := (a2 q.1).2 ((key q.1).2 (List.mem_map.2 ⟨q, hq, rfl⟩))
      obtain ⟨y, hy, e⟩ := List.mem_map.1 hm
      have hv := a3 y hy (.lit (.string []))
      have hv2 := (h2 q.1 q.2 (last_look L q hq)).2 (.lit (.string []))
      rw [e] at hv
      rw [hv] at hv2
      have e2 : y.2 = (q.2 : Int) := by injection hv2 with hv2; injection hv2
      have : y = (q.1, (q.2 : Int)) := Prod.ext e e2
      rw [← this]
      exact hy
  have natl : ∀ x ∈ ps.map (·.2), ∃ y : Nat, x = (y : Int) := by
    intro x hx
    obtain ⟨p, hp, rfl⟩ := List.mem_map.1 hx
    obtain ⟨q, hq, rfl⟩ := List.mem_map.1 (hperm.mem_iff.1 hp)
    exact ⟨q.2, rfl⟩
  obtain ⟨ns, hns⟩ : ∃ ns : List Nat, ps.map (·.2) = ns.map (fun x : Nat => (x : Int)) := by
    refine ⟨(ps.map (·.2)).map Int.toNat, ?_⟩
    rw [List.map_map]
    conv => lhs; rw [← List.map_id (ps.map (·.2))]
    refine List.map_congr_left fun x hx => ?_
    obtain ⟨y, rfl⟩ := natl x hx
    simp
  have hp2 : (ns.map (fun x : Nat => (x : Int))).Perm (((lastOcc L).map (·.2)).map (fun x : Nat => (x : Int))) := by
    rw [← hns, List.map_map]
    have := hperm.map (·.2)
    rw [List.map_map] at this
    exact this
  have hp3 : ns.Perm ((lastOcc L).map (·.2)) := by
    have e2 : ∀ l : List Nat, (l.map (fun x : Nat => (x : Int))).map Int.toNat = l := by
      intro l
      rw [List.map_map]
      conv => rhs; rw [← List.map_id l]
      exact List.map_congr_left fun x _ => Int.toNat_natCast x
    have := hp2.map Int.toNat
    rw [e2, e2] at this
    exact this
  have hsn : ns.sum = sumL (lastOcc L) := hp3.sum_nat
  rw [hns]
  have := sumW25_is ns 0 (by omega)
  rw [Nat.zero_add, hsn] at this
  exact this
end
end Go.Proofs.Ytajjoepdkikeeaa

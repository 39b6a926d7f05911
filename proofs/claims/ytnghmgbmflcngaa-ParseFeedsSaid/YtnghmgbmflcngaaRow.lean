/- Slices whose elements have several cells: read, owned, cut, appended to, loaded. Conditions: typed in each theorem. -/
import Derived.Test.YtnghmgbmflcngaaBase
import Derived.Laws.Rows
import Derived.Great.BuildSlice
namespace Go.Proofs.Ytnghmgbmflcngaa
set_option linter.unusedVariables false
open Go.RowKit

/-- The slice of address A, length n, capacity c (elements of z cells) reads as the cells xs, below block B. -/
def Rz (w : World) (B z : Nat) (A : Option Addr) (n c : Nat) (xs : List Value) : Prop :=
  xs.length = n * z ∧ n ≤ c ∧ c ≤ maxLen ∧ (A = none → c = 0) ∧ (∀ ad, A = some ad → 0 < n → ad.block < B) ∧ ∀ ad i u, A = some ad → xs[i]? = some u → w.cell? (ad.add i) = some u
/-- A slice of the call's own, from block B on, holding the cells xs. -/
def Oz (w : World) (B : Nat) (e : TypeId) (z : Nat) (A : Option Addr) (n c : Nat) (xs : List Value) : Prop := w.ownsRow B e z (.slice A n c) n xs

section
variable {w w' : World} {B B' z n c : Nat} {A : Option Addr} {xs : List Value} {e : TypeId}
theorem Rz.len (h : Rz w B z A n c xs) : xs.length = n * z := h.1
theorem Rz.cap (h : Rz w B z A n c xs) : n ≤ c := h.2.1
theorem Rz.max (h : Rz w B z A n c xs) : c ≤ maxLen := h.2.2.1
theorem Rz.nil (w : World) (B z : Nat) : Rz w B z none 0 0 [] := ⟨by simp, Nat.le_refl _, by simp [maxLen], (fun _ => rfl), (fun _ h => by cases h), (fun _ _ _ h => by cases h)⟩
theorem Rz.one (h : Rz w B 1 A n c xs) : Rv w B A n c xs := by
  obtain ⟨h1, h2⟩ := h
  exact ⟨by simpa using h1, h2⟩
theorem Rv.rz (h : Rv w B A n c xs) : Rz w B 1 A n c xs := by
  obtain ⟨h1, h2⟩ := h
  exact ⟨by simpa using h1, h2⟩
/-- Element i: where it lies, and its cells. -/
theorem Rz.elem (h : Rz w B z A n c xs) {i : Nat} (hi : i < n) : ∃ ad, A = some ad ∧ ad.block < B ∧ ((xs.drop (i * z)).take z).length = z ∧ ∀ j u, ((xs.drop (i * z)).take z)[j]? = some u → w.cell? ((ad.add (i * z)).add j) = some u := by
  obtain ⟨h1, h2, _, h4, h5, h6⟩ := h
  cases A with
  | none => have := h4 rfl; omega
  | some ad =>
    refine ⟨ad, rfl, h5 ad rfl (by omega), ?_, fun j u hu => ?_⟩
    · rw [List.length_take, List.length_drop, h1]
      have : (i + 1) * z ≤ n * z := Nat.mul_le_mul_right z hi
      rw [Nat.add_mul] at this
      omega
    · rw [List.getElem?_take] at hu
      split at hu
      · rw [List.getElem?_drop] at hu
        rw [add_add]
        exact h6 ad _ u rfl hu
      · cases hu
theorem Rz.keep (h : Rz w B z A n c xs) (hk : ∀ p : Addr, p.block < B → w'.cell? p = w.cell? p) : Rz w' B z A n c xs := by
  obtain ⟨h1, h2, h3, h4, h5, h6⟩ := h
  refine ⟨h1, h2, h3, h4, h5, fun ad i u hA hu => ?_⟩
  have hn : 0 < n := by
    have := (List.getElem?_eq_some_iff.1 hu).1
    rcases Nat.eq_zero_or_pos n with h0 | h0
    · rw [h1, h0] at this; simp at this
    · exact h0
  exact (hk _ (by rw [block_add]; exact h5 ad hA hn)).trans (h6 ad i u hA hu)
theorem Rz.more (h : Rz w B z A n c xs) (hB : B ≤ B') : Rz w B' z A n c xs :=
  ⟨h.1, h.2.1, h.2.2.1, h.2.2.2.1, fun ad hA hn => Nat.lt_of_lt_of_le (h.2.2.2.2.1 ad hA hn) hB, h.2.2.2.2.2⟩
theorem Rz.below (h : Rz w B z A n c xs) (hb : Below B w w') : Rz w' B z A n c xs := h.keep fun _ hp => hb.cell hp
theorem Rz.drewN (h : Rz w B z A n c xs) (k : Nat) : Rz (w.drewN k) B z A n c xs := h
theorem Rz.alloc (h : Rz w B z A n c xs) (hB : B ≤ w.heap.size) (o : Obj) : Rz (w.alloc o) B z A n c xs := h.keep fun p hp => World.cell?_alloc_lt w o p (by omega)
theorem Rz.setCell (h : Rz w B z A n c xs) {p : Addr} (hB : B ≤ p.block) (u : Value) : Rz (w.setCell p u) B z A n c xs :=
  h.keep fun q hq => World.cell?_setCell_other w p q u (fun e => by subst e; omega)
theorem Rz.step (h : Rz w w.heap.size z A n c xs) (hb : Below w.heap.size w w') : Rz w' w'.heap.size z A n c xs := (h.below hb).more hb.size
/-- s[i:j] -/
theorem Rz.cut (h : Rz w B z A n c xs) {i j : Nat} (hij : i ≤ j) (hj : j ≤ n) :
    Rz w B z (if c = i then A else A.map (·.add (i * z))) (j - i) (c - i) ((xs.take (j * z)).drop (i * z)) := by
  obtain ⟨h1, h2, h3, h4, h5, h6⟩ := h
  have hjz : j * z ≤ n * z := Nat.mul_le_mul_right z hj
  have hl : ((xs.take (j * z)).drop (i * z)).length = (j - i) * z := by
    rw [List.length_drop, List.length_take, h1, Nat.sub_mul]; omega
  by_cases hc : c = i
  · rw [if_pos hc]
    have hx : (xs.take (j * z)).drop (i * z) = [] := List.eq_nil_of_length_eq_zero (by rw [hl, show j - i = 0 from by omega]; simp)
    rw [hx]
    refine ⟨by rw [show j - i = 0 from by omega]; simp, by omega, by omega, fun hA => by have := h4 hA; omega, fun ad hA hn => by omega, fun ad k u hA hu => by simp at hu⟩
  · rw [if_neg hc]
    cases A with
    | none => have := h4 rfl; omega
    | some ad =>
      refine ⟨hl, by omega, by omega, fun hA => by simp at hA, fun ad' hA hn => ?_, fun ad' k u hA hu => ?_⟩
      · simp only [Option.map_some, Option.some.injEq] at hA
        subst hA
        rw [block_add]
        exact h5 ad rfl (by omega)
      · simp only [Option.map_some, Option.some.injEq] at hA
        subst hA
        rw [add_add]
        rw [List.getElem?_drop, List.getElem?_take] at hu
        split at hu
        · exact h6 ad _ u rfl hu
        · cases hu
theorem Oz.len (h : Oz w B e z A n c xs) : xs.length = n * z := h.1
theorem Oz.nil (w : World) (B : Nat) (e : TypeId) (z : Nat) : Oz w B e z none 0 0 [] := World.ownsRow_nil _ _ _ _
theorem Oz.rz (h : Oz w B e z A n c xs) : Rz w w.heap.size z A n c xs := by
  refine ⟨h.1, ?_⟩
  rcases h.2 with ⟨hv, h0⟩ | ⟨g, cap, cur, hv, hg, hh, hnc, hcm, hcs, ht⟩
  · injection hv with e1 e2 e3
    subst e1; subst e3
    have hx : xs = [] := List.eq_nil_of_length_eq_zero (by rw [h.1, h0]; simp)
    subst hx
    exact ⟨by omega, by simp [maxLen], (fun _ => rfl), (fun _ h => by cases h), (fun _ _ _ h => by cases h)⟩
  · injection hv with e1 e2 e3
    subst e1; subst e3
    refine ⟨hnc, hcm, (fun h => by cases h), (fun ad hA _ => ?_), (fun ad i u hA hu => ?_)⟩
    · injection hA with hA; subst hA
      exact (Array.getElem?_eq_some_iff.1 hh).1
    · injection hA with hA; subst hA
      exact World.ownsRow.cells h rfl i u hu
theorem Oz.more (h : Oz w B e z A n c xs) (hB : B' ≤ B) : Oz w B' e z A n c xs := by
  refine ⟨h.1, ?_⟩
  rcases h.2 with h' | ⟨g, cap, cur, hv, hg, r⟩
  · exact Or.inl h'
  · exact Or.inr ⟨g, cap, cur, hv, by omega, r⟩
theorem Oz.below (h : Oz w B e z A n c xs) (hb : Below w.heap.size w w') : Oz w' B e z A n c xs := by
  refine ⟨h.1, ?_⟩
  rcases h.2 with h' | ⟨g, cap, cur, hv, hg, hh, r⟩
  · exact Or.inl h'
  · exact Or.inr ⟨g, cap, cur, hv, hg, (hb.block g (Array.getElem?_eq_some_iff.1 hh).1).trans hh, r⟩
theorem Oz.step (h : Oz w B e z A n c xs) (hb : Below w.heap.size w w') : Oz w' B e z A n c xs := h.below hb
theorem Oz.alloc (h : Oz w B e z A n c xs) (o : Obj) : Oz (w.alloc o) B e z A n c xs := World.ownsRow.alloc h o
theorem Oz.drewN (h : Oz w B e z A n c xs) (k : Nat) : Oz (w.drewN k) B e z A n c xs := h
theorem Oz.at' (h : Oz w B e z A n c xs) : ∀ k, (Value.slice A n c).ownBlock = some k → B ≤ k ∧ k < w.heap.size := World.ownsRow.lt h
theorem Oz.grown {g : Nat} (h : Oz w B e z A n c xs) (hg : w.grownBy w' (some g)) (hne : ∀ k, (Value.slice A n c).ownBlock = some k → k ≠ g) : Oz w' B e z A n c xs := by
  refine World.ownsRow.kept h hg ?_
  cases e : (Value.slice A n c).ownBlock with
  | none => exact Or.inl rfl
  | some k => exact Or.inr fun e2 => hne k e (by injection e2)
theorem Oz.empty (w : World) (B : Nat) (e : TypeId) (z : Nat) (hB : B ≤ w.heap.size) : Oz (w.alloc (.cells #[] e)) B e z (some ⟨w.heap.size, 0, none⟩) 0 0 [] := World.ownsRow_made w #[] 0 hB (Nat.zero_le _) (by simp)
theorem Oz.emptyK (w : World) (k B : Nat) (e : TypeId) (z : Nat) (hk : w.heap.size = k) (hB : B ≤ k) : Oz (w.alloc (.cells #[] e)) B e z (some ⟨k, 0, none⟩) 0 0 [] := by
  subst hk; exact Oz.empty w B e z hB
/-- One element in a block of its own. -/
theorem Rz.new1 (w : World) (cs : Array Value) (e : TypeId) (z : Nat) (hs : cs.size = z) : Rz (w.alloc (.cells cs e)) (w.heap.size + 1) z (some ⟨w.heap.size, 0, none⟩) 1 1 cs.toList := by
  refine ⟨by simp [hs], Nat.le_refl _, by simp [maxLen], (fun h => by cases h), (fun ad hA _ => by injection hA with hA; subst hA; exact Nat.lt_succ_self _), fun ad i u hA hu => ?_⟩
  injection hA with hA; subst hA
  have ha : (⟨w.heap.size, 0, none⟩ : Addr).add i = ⟨w.heap.size, i, none⟩ := by
    unfold Addr.add
    by_cases hi : i = 0
    · subst hi; rfl
    · rw [if_neg hi]; simp
  rw [ha, cell_of_row _ _ i cs e (0, 0) (heap_alloc_new w _)]
  simpa using hu
end

/-- append, the base slice of the call's own (elements of z cells). -/
theorem run_appz {P : Program} (w : World) (B : Nat) (t ty e : TypeId) (i : TypeInfo) (zv : Value) (z bytes : Nat) (ht : P.underlying t = some (.slice e)) (hi : P.info? e = some i) (hz : i.zero = some zv)
    (hsize : i.size = z) (hby : i.bytes = bytes) (hzs : zv.cells.size = z) (hpos : 0 < z)
    (A : Option Addr) (n c : Nat) (xs : List Value) (hown : Oz w B e z A n c xs)
    (B2 : Nat) (A2 : Option Addr) (m c2 : Nat) (news : List Value) (hr : Rz w B2 z A2 m c2 news) (h1 : ∀ u ∈ news, u.oneCell' = true)
    (h63 : n + m ≤ maxLen) (hbytes : (n + m) * bytes ≤ 140737488355328) (hbase : B ≤ w.heap.size) :
    ∃ A' c' w', (Builtin.append_ #[t, t] ty #[.slice A n c, .slice A2 m c2]).run P w = .ok (.slice A' (n + m) c') w' ∧ Oz w' B e z A' (n + m) c' (xs ++ news) ∧ w.grownBy w' (Value.slice A n c).ownBlock ∧
      ((Value.slice A' (n + m) c').ownBlock = (Value.slice A n c).ownBlock ∨ (Value.slice A' (n + m) c').ownBlock = some w.heap.size) := by
  have shape : ∀ (v : Value) (k : Nat) (ys : List Value) (W : World), W.ownsRow B e z v k ys → ∃ A' c', v = .slice A' k c' := by
    intro v k ys W h
    rcases h.2 with ⟨rfl, rfl⟩ | ⟨g, cap, cur, rfl, _⟩
    · exact ⟨_, _, rfl⟩
    · exact ⟨_, _, rfl⟩
  cases A2 with
  | none =>
    have hc0 : c2 = 0 := hr.2.2.2.1 rfl
    have hm : m = 0 := by have := hr.2.1; omega
    subst hm
    subst hc0
    have hn : news = [] := List.eq_nil_of_length_eq_zero (by rw [hr.1]; simp)
    subst hn
    exact ⟨A, c, w, run_append_owned_none w B t ty e i z ht hi _ n xs hown, by simpa using hown, World.grownBy.refl w _, Or.inl rfl⟩
  | some a =>
    have hnews : ∀ j u, news[j]? = some u → w.cell? (a.add j) = some u := fun j u hu => hr.2.2.2.2.2 a j u rfl hu
    obtain ⟨v', w', hrun, h2, h3, _, h5⟩ := run_append_own_at (P := P) w B t ty e i zv z bytes ht hi hz hsize hby hzs hpos (.slice A n c) n xs hown a m c2 news hr.1 hnews h1 h63 hbytes hbase
    obtain ⟨A', c', rfl⟩ := shape v' _ _ _ h2
    exact ⟨A', c', w', hrun, h2, h3, h5⟩
theorem wpList_appz {P : Program} (w : World) {ops : Array Oper} {rest : List Oper} {o : Oper} {a : Act} {Q : Exit → Act → World → Prop}
    (hg : Region.wanted o (yielded ops a.tmps) = true) (s x : Operand) (t : TypeId) (hop : o.op = Op.call { callee := Callee.builtin Builtin.append, args := #[s, x], argTypes := #[t, t] })
    (B : Nat) (e : TypeId) (i : TypeInfo) (zv : Value) (z bytes : Nat) (ht : P.underlying t = some (.slice e)) (hi : P.info? e = some i) (hz : i.zero = some zv)
    (hsize : i.size = z) (hby : i.bytes = bytes) (hzs : zv.cells.size = z) (hpos : 0 < z)
    (A : Option Addr) (n c : Nat) (xs : List Value) (hs : a.eval s = .slice A n c) (hown : Oz w B e z A n c xs)
    (B2 : Nat) (A2 : Option Addr) (m c2 : Nat) (news : List Value) (hx : a.eval x = .slice A2 m c2) (hr : Rz w B2 z A2 m c2 news) (h1 : ∀ u ∈ news, u.oneCell' = true)
    (h63 : n + m ≤ maxLen) (hbytes : (n + m) * bytes ≤ 140737488355328) (hbase : B ≤ w.heap.size)
    (hK : ∀ A' c' w', Oz w' B e z A' (n + m) c' (xs ++ news) → Below B w w' → wpList P ops Q rest (a.put o.dst (.slice A' (n + m) c')) w') :
    wpList P ops Q (o :: rest) a w := by
  refine wpList_want hg fun K hK' => ?_
  obtain ⟨A', c', w', hrun, r1, r2, r3⟩ := run_appz (P := P) w B t o.type e i zv z bytes ht hi hz hsize hby hzs hpos A n c xs hown B2 A2 m c2 news hr h1 h63 hbytes hbase
  unfold Oper.wp
  simp [execOp, hop, resolve, invoke, builtin, hs, hx, hrun, Result.andThen]
  refine hK' _ _ (hK A' c' w' r1 ?_)
  exact (Below.refl B w).grown r2 hbase fun k hk => (World.ownsRow.lt hown k hk).1
theorem step_appz {P : Program} (w : World) {ops : Array Oper} {o : Oper} {a : Act} {K : Act → World → Prop} {Q : Exit → Act → World → Prop} {E : Prop}
    (hg : Region.wanted o (yielded ops a.tmps) = true) (s x : Operand) (t : TypeId) (hop : o.op = Op.call { callee := Callee.builtin Builtin.append, args := #[s, x], argTypes := #[t, t] })
    (B : Nat) (e : TypeId) (i : TypeInfo) (zv : Value) (z bytes : Nat) (ht : P.underlying t = some (.slice e)) (hi : P.info? e = some i) (hz : i.zero = some zv)
    (hsize : i.size = z) (hby : i.bytes = bytes) (hzs : zv.cells.size = z) (hpos : 0 < z)
    (A : Option Addr) (n c : Nat) (xs : List Value) (hs : a.eval s = .slice A n c) (hown : Oz w B e z A n c xs)
    (B2 : Nat) (A2 : Option Addr) (m c2 : Nat) (news : List Value) (hx : a.eval x = .slice A2 m c2) (hr : Rz w B2 z A2 m c2 news) (h1 : ∀ u ∈ news, u.oneCell' = true)
    (h63 : n + m ≤ maxLen) (hbytes : (n + m) * bytes ≤ 140737488355328) (hbase : B ≤ w.heap.size)
    (hK : ∀ A' c' w', Oz w' B e z A' (n + m) c' (xs ++ news) → Below B w w' → K (a.put o.dst (.slice A' (n + m) c')) w') :
    if Region.wanted o (yielded ops a.tmps) = true then Oper.wp P o a w K Q else E := by
  rw [if_pos hg]
  obtain ⟨A', c', w', hrun, r1, r2, r3⟩ := run_appz (P := P) w B t o.type e i zv z bytes ht hi hz hsize hby hzs hpos A n c xs hown B2 A2 m c2 news hr h1 h63 hbytes hbase
  unfold Oper.wp
  simp [execOp, hop, resolve, invoke, builtin, hs, hx, hrun, Result.andThen]
  refine hK A' c' w' r1 ?_
  exact (Below.refl B w).grown r2 hbase fun k hk => (World.ownsRow.lt hown k hk).1

/-- A whole value of several cells, loaded from wherever it lies. -/
theorem run_ldz {P : Program} (w : World) (p : Addr) (ty : TypeId) (cs : List Value) (d : TypeDesc) (hc : ∀ j v, cs[j]? = some v → w.cell? (p.add j) = some v)
    (hu : P.underlying ty = some d) (hd : (match d with | .struct _ | .array _ _ => true | _ => false) = true) (hi : (P.info? ty).map (·.size) = some cs.length) :
    (loadVar ty p).run P w = .ok (.agg cs.toArray) w := by
  have hl := run_loadCells_list (P := P) w p cs hc
  cases hq : P.info? ty with
  | none => simp [hq] at hi
  | some i =>
    have hs : i.size = cs.length := by simpa [hq] using hi
    have hagg : (isAgg ty).run P w = .ok true w := by
      unfold isAgg
      rw [Sem.run_bind, run_underlying hu w]
      cases d <;> simp_all
    simp [loadVar, Sem.run_bind, hagg, sizeOf, typeInfo, hq, hs, hl]
theorem wp_loadz {P : Program} {o : Oper} {a : Act} {w : World} {K : Act → World → Prop} {Q : Exit → Act → World → Prop} (ty : TypeId) (x : Operand) (ho : o.op = .load ty x)
    (p : Addr) (hx : a.eval x = .pointer (some p)) (cs : List Value) (d : TypeDesc) (hc : ∀ j v, cs[j]? = some v → w.cell? (p.add j) = some v)
    (hu : P.underlying ty = some d) (hd : (match d with | .struct _ | .array _ _ => true | _ => false) = true) (hi : (P.info? ty).map (·.size) = some cs.length)
    (h : K (a.put o.dst (.agg cs.toArray)) w) : o.wp P a w K Q := by
  unfold Oper.wp execOp
  simp only [ho, hx, Instr.loadAt, Instr.sureAddr, Sem.run_bind, Sem.run_pure, Result.andThen_ok, run_ldz w p ty cs d hc hu hd hi]
  exact h
theorem wpList_loadz {P : Program} {ops : Array Oper} {rest : List Oper} {o : Oper} {a : Act} {w : World} {Q : Exit → Act → World → Prop} (hgd : o.guard = none) (ty : TypeId) (x : Operand) (ho : o.op = .load ty x)
    (p : Addr) (hx : a.eval x = .pointer (some p)) (cs : List Value) (d : TypeDesc) (hc : ∀ j v, cs[j]? = some v → w.cell? (p.add j) = some v)
    (hu : P.underlying ty = some d) (hd : (match d with | .struct _ | .array _ _ => true | _ => false) = true) (hi : (P.info? ty).map (·.size) = some cs.length)
    (h : wpList P ops Q rest (a.put o.dst (.agg cs.toArray)) w) : wpList P ops Q (o :: rest) a w :=
  wpList_plain hgd fun _ hK => wp_loadz ty x ho p hx cs d hc hu hd hi (hK _ _ h)

/-- A slice literal of one element of several cells. -/
theorem fill_one {z : Nat} (hz : 0 < z) (v : Value) (hv : v.cells.size = z) (f : Nat → Value) : Instr.fill (fun i => some (i * z, z)) ((Array.range (1 * z)).map f) [(0, v)] = some v.cells := by
  have h := Great.fill_whole hz [v] ((Array.range (1 * z)).map f) (fun u hu => by simp at hu; subst hu; exact hv) (by simp)
  simpa using h
theorem wpList_bs1 {P : Program} {ops : Array Oper} {rest : List Oper} {o : Oper} {a : Act} {w : World} {Q : Exit → Act → World → Prop} (hg : o.guard = none) (t : TypeId) (x : Operand) (ho : o.op = .buildSlice t 1 #[(0, x)])
    (e : TypeId) (ie : TypeInfo) (zv v : Value) (z : Nat) (hx : a.eval x = v) (hu : P.underlying t = some (.slice e)) (hie : P.info? e = some ie) (hz : ie.zero = some zv) (hsize : ie.size = z) (hv : v.cells.size = z) (hpos : 0 < z) (hsm : z ≤ 2 ^ 24)
    (h : wpList P ops Q rest (a.put o.dst (.slice (some ⟨w.heap.size, 0, none⟩) 1 1)) (w.alloc (.cells v.cells e))) : wpList P ops Q (o :: rest) a w := by
  refine wpList_buildSlice hg t e 1 _ ho v.cells ie zv hu hie hz (by rw [hsize]; omega) (by rw [hsize]; omega) ?_ h
  rw [hsize]
  have e1 : (#[(0, x)].map fun (x : Nat × Operand) => (x.1, a.eval x.2)).toList = [(0, v)] := by simp [hx]
  rw [e1]
  exact fill_one hpos v hv _

/-- Lists of rows of z things each. -/
theorem flat_len {α : Type} (z : Nat) : ∀ (L : List (List α)), (∀ x ∈ L, x.length = z) → L.flatten.length = L.length * z
  | [], _ => by simp
  | x :: L, h => by
    rw [List.flatten_cons, List.length_append, flat_len z L (fun y hy => h y (List.mem_cons_of_mem _ hy)), h x (List.mem_cons_self), List.length_cons, Nat.add_mul, Nat.one_mul, Nat.add_comm]
theorem flat_drop {α : Type} (z : Nat) : ∀ (i : Nat) (L : List (List α)), (∀ x ∈ L, x.length = z) → L.flatten.drop (i * z) = (L.drop i).flatten
  | 0, L, _ => by simp
  | i + 1, [], _ => by simp
  | i + 1, x :: L, h => by
    rw [List.flatten_cons, List.drop_succ_cons, ← flat_drop z i L (fun y hy => h y (List.mem_cons_of_mem _ hy)), List.drop_append, h x (List.mem_cons_self), List.drop_of_length_le (by rw [h x (List.mem_cons_self), Nat.add_mul]; omega), Nat.add_mul, Nat.one_mul, Nat.add_sub_cancel, List.nil_append]
theorem flat_take {α : Type} (z : Nat) : ∀ (i : Nat) (L : List (List α)), (∀ x ∈ L, x.length = z) → L.flatten.take (i * z) = (L.take i).flatten
  | 0, L, _ => by simp
  | i + 1, [], _ => by simp
  | i + 1, x :: L, h => by
    rw [List.flatten_cons, List.take_succ_cons, List.flatten_cons, ← flat_take z i L (fun y hy => h y (List.mem_cons_of_mem _ hy)), List.take_append, h x (List.mem_cons_self), List.take_of_length_le (by rw [h x (List.mem_cons_self), Nat.add_mul]; omega), Nat.add_mul, Nat.one_mul, Nat.add_sub_cancel]
theorem flat_elem {α : Type} (z : Nat) (L : List (List α)) (h : ∀ x ∈ L, x.length = z) {i : Nat} {x : List α} (hx : L[i]? = some x) : (L.flatten.drop (i * z)).take z = x := by
  have hi := (List.getElem?_eq_some_iff.1 hx).1
  have hxx := (List.getElem?_eq_some_iff.1 hx).2
  rw [flat_drop z i L h, List.drop_eq_getElem_cons hi, hxx, List.flatten_cons, List.take_append, h x (List.mem_of_getElem? hx), List.take_of_length_le (by rw [h x (List.mem_of_getElem? hx)]; omega)]
  simp
end Go.Proofs.Ytnghmgbmflcngaa

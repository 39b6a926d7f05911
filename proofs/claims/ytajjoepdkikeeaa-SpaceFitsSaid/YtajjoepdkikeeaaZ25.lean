/- Merged texts: Base, Plain, Octa, Octb, Row, Spa, Open, Spaw, Opel. Conditions: typed in each theorem. -/
import Derived.Test.YtajjoepdkikeeaaRows
import Derived.WalkKit
import Derived.WalkSpells
import Derived.WalkLawsBesides
import Derived.BigQuiet
import Derived.Deep.QuietTactic
import Derived.Deep.DeepFit
import Derived.Deep.DeepMust
import Derived.Deep.Draws
import Derived.Lib.Hide
import Derived.Deep.AppendLies
import Derived.Maps.AppendAt
import Derived.Below
import Derived.Laws.Rows
import Derived.Great.BuildSlice
import Derived.ProofKit
import Derived.OpenShut
import Derived.ChangeOld
import Derived.SizedLaws
import Derived.Lib.SlBytesConst
import Derived.Lib.SmallJoins
import Derived.Deep.Slices
namespace Go.Proofs.Ytajjoepdkikeeaa
set_option linter.unusedVariables false
section
open Go.RowKit

theorem u8info : (Try.prog.info? 5).map (fun i => (i.zero, i.size, i.bytes)) = some (some (.int .u8 0), 1, 1) := by kernel_rfl

/-- A byte as a cell. -/
def cb (c : UInt8) : Value := .int .u8 (c.toNat : Int)
def cbs (l : List UInt8) : List Value := l.map cb

theorem length_cbs (l : List UInt8) : (cbs l).length = l.length := by simp [cbs]
theorem cbs_append (a b : List UInt8) : cbs (a ++ b) = cbs a ++ cbs b := by simp [cbs]
theorem cbs_get? (l : List UInt8) (i : Nat) : (cbs l)[i]? = (l[i]?).map cb := by simp [cbs]
theorem cbs_one (l : List UInt8) : ∀ u ∈ cbs l, u.oneCell' = true := by
  intro u hu
  obtain ⟨_, _, rfl⟩ := List.mem_map.1 hu
  rfl

theorem block_add (a : Addr) (n : Nat) : (a.add n).block = a.block := by unfold Addr.add; split <;> rfl
theorem add_add (a : Addr) (i j : Nat) : (a.add i).add j = a.add (i + j) := by
  unfold Addr.add
  by_cases hi : i = 0 <;> by_cases hj : j = 0 <;> simp [hi, hj, Nat.add_assoc]

/-- The slice of address A, length n, capacity c reads as the cells xs, below block B. -/
def Rv (w : World) (B : Nat) (A : Option Addr) (n c : Nat) (xs : List Value) : Prop :=
  xs.length = n ∧ n ≤ c ∧ c ≤ maxLen ∧ (A = none → c = 0) ∧ (∀ ad, A = some ad → 0 < n → ad.block < B) ∧ ∀ ad i u, A = some ad → xs[i]? = some u → w.cell? (ad.add i) = some u

/-- .. reads as bytes. -/
def Rd (w : World) (B : Nat) (A : Option Addr) (n c : Nat) (l : List UInt8) : Prop := Rv w B A n c (cbs l)

/-- A slice of the call's own, from block B on, holding the cells xs. -/
def Ov (w : World) (B : Nat) (e : TypeId) (A : Option Addr) (n c : Nat) (xs : List Value) : Prop := w.ownsRow B e 1 (.slice A n c) n xs
def Own (w : World) (B : Nat) (A : Option Addr) (n c : Nat) (l : List UInt8) : Prop := Ov w B 5 A n c (cbs l)

section
variable {w w' : World} {B B' n c : Nat} {A : Option Addr} {xs : List Value} {l : List UInt8} {e : TypeId}

theorem Rv.len (h : Rv w B A n c xs) : xs.length = n := h.1
theorem Rd.len (h : Rd w B A n c l) : l.length = n := by have := h.1; simpa [length_cbs] using this
theorem Rv.cap (h : Rv w B A n c xs) : n ≤ c := h.2.1
theorem Rd.cap (h : Rd w B A n c l) : n ≤ c := h.2.1
theorem Rv.max (h : Rv w B A n c xs) : c ≤ maxLen := h.2.2.1
theorem Rd.max (h : Rd w B A n c l) : c ≤ maxLen := h.2.2.1

theorem Rv.nil (w : World) (B : Nat) : Rv w B none 0 0 [] := ⟨rfl, Nat.le_refl _, by simp [maxLen], (fun _ => rfl), (fun _ h => by cases h), (fun _ _ _ h => by cases h)⟩
theorem Rd.nil (w : World) (B : Nat) : Rd w B none 0 0 [] := Rv.nil w B

theorem Rv.some_ (h : Rv w B A n c xs) {i : Nat} (hi : i < n) : ∃ ad u, A = some ad ∧ ad.block < B ∧ xs[i]? = some u ∧ w.cell? (ad.add i) = some u := by
  obtain ⟨h1, h2, _, h4, h5, h6⟩ := h
  cases A with
  | none => have := h4 rfl; omega
  | some ad => exact ⟨ad, xs[i]'(by omega), rfl, h5 ad rfl (by omega), List.getElem?_eq_getElem (by omega), h6 ad i _ rfl (List.getElem?_eq_getElem (by omega))⟩
theorem Rd.at_ (h : Rd w B A n c l) {i : Nat} (hi : i < n) : ∃ (ad : Addr) (x : UInt8), A = some ad ∧ ad.block < B ∧ l[i]? = some x ∧ w.cell? (ad.add i) = some (.int .u8 (x.toNat : Int)) := by
  obtain ⟨ad, u, hA, hb, hu, hc⟩ := Rv.some_ h hi
  rw [cbs_get?] at hu
  obtain ⟨x, hx, rfl⟩ := Option.map_eq_some_iff.1 hu
  exact ⟨ad, x, hA, hb, hx, hc⟩

theorem Rv.keep (h : Rv w B A n c xs) (hk : ∀ p : Addr, p.block < B → w'.cell? p = w.cell? p) : Rv w' B A n c xs := by
  obtain ⟨h1, h2, h3, h4, h5, h6⟩ := h
  refine ⟨h1, h2, h3, h4, h5, fun ad i u hA hu => ?_⟩
  have hi : i < n := by have := (List.getElem?_eq_some_iff.1 hu).1; omega
  exact (hk _ (by rw [block_add]; exact h5 ad hA (by omega))).trans (h6 ad i u hA hu)
theorem Rv.more (h : Rv w B A n c xs) (hB : B ≤ B') : Rv w B' A n c xs :=
  ⟨h.1, h.2.1, h.2.2.1, h.2.2.2.1, fun ad hA hn => Nat.lt_of_lt_of_le (h.2.2.2.2.1 ad hA hn) hB, h.2.2.2.2.2⟩
theorem Rv.below (h : Rv w B A n c xs) (hb : Below B w w') : Rv w' B A n c xs := h.keep fun _ hp => hb.cell hp
theorem Rv.drew (h : Rv w B A n c xs) : Rv w.drew B A n c xs := h
theorem Rv.drewN (h : Rv w B A n c xs) (k : Nat) : Rv (w.drewN k) B A n c xs := h
theorem Rv.alloc (h : Rv w B A n c xs) (hB : B ≤ w.heap.size) (o : Obj) : Rv (w.alloc o) B A n c xs := h.keep fun p hp => World.cell?_alloc_lt w o p (by omega)
theorem Rv.setCell (h : Rv w B A n c xs) {p : Addr} (hB : B ≤ p.block) (u : Value) : Rv (w.setCell p u) B A n c xs :=
  h.keep fun q hq => World.cell?_setCell_other w p q u (fun e => by subst e; omega)
theorem Rv.cut (h : Rv w B A n c xs) {i j : Nat} (hij : i ≤ j) (hj : j ≤ n) :
    Rv w B (if c = i then A else A.map (·.add i)) (j - i) (c - i) ((xs.take j).drop i) := by
  obtain ⟨h1, h2, h3, h4, h5, h6⟩ := h
  by_cases hc : c = i
  · rw [if_pos hc]
    have : (xs.take j).drop i = [] := List.eq_nil_of_length_eq_zero (by rw [List.length_drop, List.length_take]; omega)
    rw [this]
    refine ⟨by simp; omega, by omega, by omega, fun hA => by have := h4 hA; omega, fun ad hA hn => by omega, fun ad k u hA hu => by simp at hu⟩
  · rw [if_neg hc]
    cases A with
    | none => have := h4 rfl; omega
    | some ad =>
      refine ⟨by rw [List.length_drop, List.length_take]; omega, by omega, by omega, fun hA => by simp at hA, fun ad' hA hn => ?_, fun ad' k u hA hu => ?_⟩
      · simp only [Option.map_some, Option.some.injEq] at hA
        subst hA
        rw [block_add]
        exact h5 ad rfl (by omega)
      · simp only [Option.map_some, Option.some.injEq] at hA
        subst hA
        rw [add_add]
        rw [List.getElem?_drop, List.getElem?_take] at hu
        split at hu
        · exact h6 ad _ u rfl hu
        · cases hu

theorem Rd.keep (h : Rd w B A n c l) (hk : ∀ p : Addr, p.block < B → w'.cell? p = w.cell? p) : Rd w' B A n c l := Rv.keep h hk
theorem Rd.more (h : Rd w B A n c l) (hB : B ≤ B') : Rd w B' A n c l := Rv.more h hB
theorem Rd.below (h : Rd w B A n c l) (hb : Below B w w') : Rd w' B A n c l := Rv.below h hb
theorem Rd.alloc (h : Rd w B A n c l) (hB : B ≤ w.heap.size) (o : Obj) : Rd (w.alloc o) B A n c l := Rv.alloc h hB o
theorem Rd.setCell (h : Rd w B A n c l) {p : Addr} (hB : B ≤ p.block) (u : Value) : Rd (w.setCell p u) B A n c l := Rv.setCell h hB u
theorem Rd.drewN (h : Rd w B A n c l) (k : Nat) : Rd (w.drewN k) B A n c l := h
theorem Rd.cut (h : Rd w B A n c l) {i j : Nat} (hij : i ≤ j) (hj : j ≤ n) :
    Rd w B (if c = i then A else A.map (·.add i)) (j - i) (c - i) ((l.take j).drop i) := by
  have := Rv.cut h hij hj
  unfold Rd cbs at *
  rw [List.map_drop, List.map_take]
  exact this

theorem Ov.len (h : Ov w B e A n c xs) : xs.length = n := by have := h.1; simpa using this
theorem Own.len (h : Own w B A n c l) : l.length = n := by have := Ov.len h; simpa [length_cbs] using this
theorem Ov.rv (h : Ov w B e A n c xs) : Rv w w.heap.size A n c xs := by
  refine ⟨Ov.len h, ?_⟩
  rcases h.2 with ⟨hv, h0⟩ | ⟨g, cap, cur, hv, hg, hh, hnc, hcm, hcs, ht⟩
  · injection hv with e1 e2 e3
    subst e1; subst e3
    have hx : xs = [] := List.eq_nil_of_length_eq_zero (by rw [Ov.len h]; exact h0)
    subst hx
    exact ⟨by omega, by simp [maxLen], (fun _ => rfl), (fun _ h => by cases h), (fun _ _ _ h => by cases h)⟩
  · injection hv with e1 e2 e3
    subst e1; subst e3
    refine ⟨hnc, hcm, (fun h => by cases h), (fun ad hA _ => ?_), (fun ad i u hA hu => ?_)⟩
    · injection hA with hA; subst hA
      exact (Array.getElem?_eq_some_iff.1 hh).1
    · injection hA with hA; subst hA
      exact World.ownsRow.cells h rfl i u hu
theorem Own.rd (h : Own w B A n c l) : Rd w w.heap.size A n c l := Ov.rv h
theorem Ov.more (h : Ov w B e A n c xs) (hB : B' ≤ B) : Ov w B' e A n c xs := by
  refine ⟨h.1, ?_⟩
  rcases h.2 with h' | ⟨g, cap, cur, hv, hg, r⟩
  · exact Or.inl h'
  · exact Or.inr ⟨g, cap, cur, hv, by omega, r⟩
theorem Own.more (h : Own w B A n c l) (hB : B' ≤ B) : Own w B' A n c l := Ov.more h hB
theorem Ov.nil (w : World) (B : Nat) (e : TypeId) : Ov w B e none 0 0 [] := World.ownsRow_nil _ _ _ _
theorem Own.nil (w : World) (B : Nat) : Own w B none 0 0 [] := World.ownsRow_nil _ _ _ _
/-- What is owned stays owned while blocks beyond it turn. -/
theorem Ov.below (h : Ov w B e A n c xs) (hb : Below w.heap.size w w') : Ov w' B e A n c xs := by
  refine ⟨h.1, ?_⟩
  rcases h.2 with h' | ⟨g, cap, cur, hv, hg, hh, r⟩
  · exact Or.inl h'
  · exact Or.inr ⟨g, cap, cur, hv, hg, (hb.block g (Array.getElem?_eq_some_iff.1 hh).1).trans hh, r⟩
theorem Own.below (h : Own w B A n c l) (hb : Below w.heap.size w w') : Own w' B A n c l := Ov.below h hb
theorem Ov.empty (w : World) (B : Nat) (e : TypeId) (hB : B ≤ w.heap.size) : Ov (w.alloc (.cells #[] e)) B e (some ⟨w.heap.size, 0, none⟩) 0 0 [] := World.ownsRow_made w #[] 0 hB (Nat.zero_le _) rfl
theorem Own.empty (w : World) (B : Nat) (hB : B ≤ w.heap.size) : Own (w.alloc (.cells #[] 5)) B (some ⟨w.heap.size, 0, none⟩) 0 0 [] := Ov.empty w B _ hB
theorem Ov.alloc (h : Ov w B e A n c xs) (o : Obj) : Ov (w.alloc o) B e A n c xs := World.ownsRow.alloc h o
theorem Own.alloc (h : Own w B A n c l) (o : Obj) : Own (w.alloc o) B A n c l := World.ownsRow.alloc h o
end

/-- Go's growth, held within bounds: what an append of c to the room of 'cap' asks. -/
def Fits (n m c bytes : Nat) : Prop := c < n + m → Builtin.nextslicecap (n + m) c * bytes ≤ 281474976710656
theorem fits_small {n m c bytes : Nat} (h : (n + m) * bytes ≤ 140737488355328) : Fits n m c bytes := fun hc => growslice_fits hc h
theorem fits_zero {m : Nat} (h : m ≤ 281474976710656) : Fits 0 m 0 1 := fun hc => by
  rw [Nat.zero_add] at *
  rw [nextslicecap_zero (by omega)]; omega
theorem nextcap_quarter {need old : Nat} (h : old < need) (h0 : 1024 ≤ need) : 4 * Builtin.nextslicecap need old ≤ 5 * need + 1024 := by
  unfold Builtin.nextslicecap
  split
  · omega
  · split
    · omega
    · rw [growBy_four]
      repeat' split
      all_goals omega
theorem fits_quarter {n m c : Nat} (h0 : 5 * (n + m) + 1024 ≤ 1125899906842624) : Fits n m c 1 := fun hc => by
  by_cases hs : 1024 ≤ n + m
  · have := nextcap_quarter hc hs; omega
  · have := nextslicecap_le hc; omega

/-- append, the base slice of the call's own, the source any slice. -/
theorem run_app {P : Program} (w : World) (B : Nat) (t ty e : TypeId) (i : TypeInfo) (z : Value) (bytes : Nat) (ht : P.underlying t = some (.slice e)) (hi : P.info? e = some i) (hz : i.zero = some z)
    (hsize : i.size = 1) (hby : i.bytes = bytes) (hzs : z.cells.size = 1)
    (A : Option Addr) (n c : Nat) (xs : List Value) (hown : Ov w B e A n c xs)
    (B2 : Nat) (A2 : Option Addr) (m c2 : Nat) (news : List Value) (hr : Rv w B2 A2 m c2 news) (h1 : ∀ u ∈ news, u.oneCell' = true)
    (hfit : Fits n m c bytes) (h63 : n + m ≤ maxLen) (hbase : B ≤ w.heap.size) :
    ∃ A' c' w', (Builtin.append_ #[t, t] ty #[.slice A n c, .slice A2 m c2]).run P w = .ok (.slice A' (n + m) c') w' ∧ Ov w' B e A' (n + m) c' (xs ++ news) ∧ w.grownBy w' (Value.slice A n c).ownBlock ∧
      ((Value.slice A' (n + m) c').ownBlock = (Value.slice A n c).ownBlock ∨ (Value.slice A' (n + m) c').ownBlock = some w.heap.size) := by
  have shape : ∀ (v : Value) (k : Nat) (ys : List Value) (W : World), W.ownsRow B e 1 v k ys → ∃ A' c', v = .slice A' k c' := by
    intro v k ys W h
    rcases h.2 with ⟨rfl, rfl⟩ | ⟨g, cap, cur, rfl, _⟩
    · exact ⟨_, _, rfl⟩
    · exact ⟨_, _, rfl⟩
  cases A2 with
  | none =>
    have hc0 : c2 = 0 := hr.2.2.2.1 rfl
    have hm : m = 0 := by have := hr.2.1; omega
    subst hm
    subst hc0
    have hn : news = [] := List.eq_nil_of_length_eq_zero hr.1
    subst hn
    exact ⟨A, c, w, run_append_owned_none w B t ty e i 1 ht hi _ n xs hown, by simpa using hown, World.grownBy.refl w _, Or.inl rfl⟩
  | some a =>
    have hl : news.length = m * i.size := by rw [hsize]; simpa using hr.1
    have hnews : ∀ j u, news[j]? = some u → w.cell? (a.add j) = some u := fun j u hu => hr.2.2.2.2.2 a j u rfl hu
    subst hby
    have hsmall : n + m ≤ 9223372036854775807 := by simp only [maxLen] at h63; omega
    have hxl : xs.length = n * i.size := by rw [hsize]; exact hown.1
    have hlen : (xs ++ news).length = (n + m) * i.size := by rw [List.length_append, hxl, hl, Nat.add_mul]
    have grown : ∀ (old : Nat), old < n + m → ∀ (row : Option Nat),
        (w.drew.alloc (.cells (xs.toArray ++ news.toArray ++ Builtin.zeroCells z.cells (grownCap w (n + m) old e - (n + m))) e)).ownsRow B e i.size
          (.slice (some ⟨w.heap.size, 0, none⟩) (n + m) (grownCap w (n + m) old e)) (n + m) (xs ++ news) ∧
        w.grownBy (w.drew.alloc (.cells (xs.toArray ++ news.toArray ++ Builtin.zeroCells z.cells (grownCap w (n + m) old e - (n + m))) e)) row := by
      intro old ho row
      have hge := grownCap_ge w (n + m) old e
      have hcm : grownCap w (n + m) old e ≤ maxLen := grownCap_le_maxLen w (n + m) old e h63
      refine ⟨⟨hlen, .inr ⟨w.heap.size, _, _, rfl, hbase, heap_alloc_new w.drew _, hge, hcm, ?_, ?_⟩⟩, ⟨rfl, rfl, rfl, by simp, fun k hk _ => (World.grownBy_alloc w.drew _ none).block k hk (by simp)⟩⟩
      · simp only [Array.size_append, List.size_toArray, size_zeroCells, hzs, hxl, hl, hsize, ← Nat.add_mul]
        omega
      · simp only [Array.toList_append, List.append_assoc]
        rw [← List.append_assoc, ← hlen]
        exact List.take_left
    rw [hsize] at grown hlen
    have hl1 : news.length = m := by rw [hl, hsize]; omega
    rcases hown.2 with ⟨hv, rfl⟩ | ⟨g, cap, cur, hv, hbg, hg, hnc, hcm, hcs, htake⟩
    · injection hv with e1 e2 e3
      subst e1; subst e3
      have hx : xs = [] := List.eq_nil_of_length_eq_zero (by simpa using hown.1)
      subst hx
      by_cases hm : m = 0
      · subst hm
        have hn : news = [] := List.eq_nil_of_length_eq_zero (by simpa using hl)
        subst hn
        refine ⟨none, 0, w, ?_, World.ownsRow_nil w B e 1, ⟨rfl, rfl, rfl, Nat.le_refl _, fun _ _ _ => rfl⟩, Or.inl rfl⟩
        simp [Builtin.append_, run_underlying ht, sizeOf, typeInfo, hi, Builtin.lenOf, Builtin.firstCells, loadCells, loadCellsFrom]
      · have h48 : m * i.bytes ≤ 281474976710656 := by
          have h := hfit (by omega)
          rw [Nat.zero_add, nextslicecap_zero (by omega)] at h
          exact h
        have hr' := run_append_nil (P := P) w t ty e i z ht hi hz a m c2 news hl hnews (by omega) (by omega) h48
        have hgr := grown 0 (by omega) (Value.ownBlock (.slice none 0 0))
        simp only [Nat.zero_add, List.nil_append, Array.empty_append] at hgr ⊢
        exact ⟨_, _, _, hr', hgr.1, hgr.2, Or.inr rfl⟩
    · injection hv with e1 e2 e3
      subst e1; subst e3
      by_cases hroom : n + m ≤ c
      · have hfit2 : n * i.size + news.length ≤ cur.size := by rw [hl, hcs, hsize]; omega
        have hr' := run_append_room (P := P) w t ty e i ht hi g n c cur hg a m c2 news hl hnews h1 hroom hfit2
        rw [hsize] at hr'
        refine ⟨_, _, _, hr', ⟨hlen, .inr ⟨g, c, _, rfl, hbg, setRow_heap w g cur _ e _ hg, hroom, hcm, ?_, ?_⟩⟩, ⟨rfl, rfl, rfl, by simp, fun k _ hk => setRow_other w g k _ (fun e => hk (by simp [Value.ownBlock, e]))⟩, Or.inl rfl⟩
        · simp only [List.size_toArray, List.length_append, List.length_take, List.length_drop, Array.length_toList]
          omega
        · rw [htake, ← hlen]
          exact List.take_left
      · have holds : ∀ j u, xs[j]? = some u → w.cell? ((⟨g, 0, none⟩ : Addr).add j) = some u := World.ownsRow.cells (g := g) hown rfl
        have hr' := run_append_grow (P := P) w t ty e i z ht hi hz ⟨g, 0, none⟩ n c xs hxl holds a m c2 news hl hnews (by omega) (by omega) (hfit (by omega))
        have hgr := grown c (by omega) (Value.ownBlock (.slice (some ⟨g, 0, none⟩) n c))
        exact ⟨_, _, _, hr', hgr.1, hgr.2, Or.inr rfl⟩

theorem wpList_want {P : Program} {ops : Array Oper} {rest : List Oper} {o : Oper} {a : Act} {w : World} {Q : Exit → Act → World → Prop} (hg : Region.wanted o (yielded ops a.tmps) = true)
    (h : ∀ K : Act → World → Prop, (∀ a w, wpList P ops Q rest a w → K a w) → o.wp P a w K Q) : wpList P ops Q (o :: rest) a w :=
  wpList_step fun K hK => by rw [if_pos hg]; exact h K hK
theorem wpList_app {P : Program} (w : World) {ops : Array Oper} {rest : List Oper} {o : Oper} {a : Act} {Q : Exit → Act → World → Prop}
    (hg : Region.wanted o (yielded ops a.tmps) = true) (s x : Operand) (t : TypeId) (hop : o.op = Op.call { callee := Callee.builtin Builtin.append, args := #[s, x], argTypes := #[t, t] })
    (B : Nat) (e : TypeId) (i : TypeInfo) (z : Value) (bytes : Nat) (ht : P.underlying t = some (.slice e)) (hi : P.info? e = some i) (hz : i.zero = some z)
    (hsize : i.size = 1) (hby : i.bytes = bytes) (hzs : z.cells.size = 1)
    (A : Option Addr) (n c : Nat) (xs : List Value) (hs : a.eval s = .slice A n c) (hown : Ov w B e A n c xs)
    (B2 : Nat) (A2 : Option Addr) (m c2 : Nat) (news : List Value) (hx : a.eval x = .slice A2 m c2) (hr : Rv w B2 A2 m c2 news) (h1 : ∀ u ∈ news, u.oneCell' = true)
    (hfit : Fits n m c bytes) (h63 : n + m ≤ maxLen) (hbase : B ≤ w.heap.size)
    (hK : ∀ A' c' w', Ov w' B e A' (n + m) c' (xs ++ news) → w.grownBy w' (Value.slice A n c).ownBlock →
      ((Value.slice A' (n + m) c').ownBlock = (Value.slice A n c).ownBlock ∨ (Value.slice A' (n + m) c').ownBlock = some w.heap.size) → wpList P ops Q rest (a.put o.dst (.slice A' (n + m) c')) w') :
    wpList P ops Q (o :: rest) a w := by
  refine wpList_want hg fun K hK' => ?_
  obtain ⟨A', c', w', hrun, r1, r2, r3⟩ := run_app (P := P) w B t o.type e i z bytes ht hi hz hsize hby hzs A n c xs hown B2 A2 m c2 news hr h1 hfit h63 hbase
  unfold Oper.wp
  simp [execOp, hop, resolve, invoke, builtin, hs, hx, hrun, Result.andThen]
  exact hK' _ _ (hK A' c' w' r1 r2 r3)

/-- append to bytes of the call's own: what becomes of the world below B. -/
theorem wpList_app8f (w : World) {ops : Array Oper} {rest : List Oper} {o : Oper} {a : Act} {Q : Exit → Act → World → Prop}
    (hg : Region.wanted o (yielded ops a.tmps) = true) (s x : Operand) (hop : o.op = Op.call { callee := Callee.builtin Builtin.append, args := #[s, x], argTypes := #[33, 33] })
    (B : Nat) (A : Option Addr) (n c : Nat) (l : List UInt8) (hs : a.eval s = .slice A n c) (hown : Own w B A n c l)
    (B2 : Nat) (A2 : Option Addr) (m c2 : Nat) (l2 : List UInt8) (hx : a.eval x = .slice A2 m c2) (hr : Rd w B2 A2 m c2 l2)
    (hfit : Fits n m c 1) (hm : n + m ≤ 281474976710656) (hbase : B ≤ w.heap.size)
    (hK : ∀ A' c' w', Own w' B A' (n + m) c' (l ++ l2) → Below B w w' → wpList Try.prog ops Q rest (a.put o.dst (.slice A' (n + m) c')) w') :
    wpList Try.prog ops Q (o :: rest) a w := by
  obtain ⟨i0, hi0, hz0, hz1, hz2⟩ := info_parts u8info
  refine wpList_app w hg s x _ hop B 5 i0 _ 1 Try.underlying33 hi0 hz0 hz1 hz2 rfl A n c (cbs l) hs hown B2 A2 m c2 (cbs l2) hx hr (cbs_one _) hfit (by unfold maxLen; omega) hbase ?_
  intro A' c' w' h1 h2 _
  refine hK A' c' w' ?_ ?_
  · unfold Own
    rw [cbs_append]
    exact h1
  · refine (Below.refl B w).grown h2 hbase fun k hk => ?_
    exact (World.ownsRow.lt hown k hk).1

theorem wpList_app8 (w : World) {ops : Array Oper} {rest : List Oper} {o : Oper} {a : Act} {Q : Exit → Act → World → Prop}
    (hg : Region.wanted o (yielded ops a.tmps) = true) (s x : Operand) (hop : o.op = Op.call { callee := Callee.builtin Builtin.append, args := #[s, x], argTypes := #[33, 33] })
    (B : Nat) (A : Option Addr) (n c : Nat) (l : List UInt8) (hs : a.eval s = .slice A n c) (hown : Own w B A n c l)
    (B2 : Nat) (A2 : Option Addr) (m c2 : Nat) (l2 : List UInt8) (hx : a.eval x = .slice A2 m c2) (hr : Rd w B2 A2 m c2 l2)
    (hbytes : n + m ≤ 140737488355328) (hbase : B ≤ w.heap.size)
    (hK : ∀ A' c' w', Own w' B A' (n + m) c' (l ++ l2) → Below B w w' → wpList Try.prog ops Q rest (a.put o.dst (.slice A' (n + m) c')) w') :
    wpList Try.prog ops Q (o :: rest) a w := by
  exact wpList_app8f w hg s x hop B A n c l hs hown B2 A2 m c2 l2 hx hr (fits_small (by omega)) (by omega) hbase hK

/-- A call that only reads: nothing turns. -/
theorem quiet_below {w w' : World} (h : ∃ q, w' = w.drewN q) (B : Nat) : Below B w w' := by
  obtain ⟨q, rfl⟩ := h
  exact ⟨rfl, rfl, rfl, Nat.le_refl _, fun _ _ => rfl⟩
theorem quiet_self {w w' : World} (h : ∃ q, w' = w.drewN q) : Below w.heap.size w w' := quiet_below h _
theorem quiet_refl (w : World) : ∃ q, w = w.drewN q := ⟨0, rfl⟩
theorem quiet_trans {w w' w'' : World} (h : ∃ q, w' = w.drewN q) (h' : ∃ q, w'' = w'.drewN q) : ∃ q, w'' = w.drewN q := by
  obtain ⟨q, rfl⟩ := h
  obtain ⟨q', rfl⟩ := h'
  exact ⟨q + q', World.drewN_drewN _ _ _⟩
theorem Rv.step {w w' : World} {A : Option Addr} {n c : Nat} {xs : List Value} (h : Rv w w.heap.size A n c xs) (hb : Below w.heap.size w w') : Rv w' w'.heap.size A n c xs := (h.below hb).more hb.size
theorem Rd.step {w w' : World} {A : Option Addr} {n c : Nat} {l : List UInt8} (h : Rd w w.heap.size A n c l) (hb : Below w.heap.size w w') : Rd w' w'.heap.size A n c l := (h.below hb).more hb.size
theorem Ov.step {w w' : World} {B : Nat} {e : TypeId} {A : Option Addr} {n c : Nat} {xs : List Value} (h : Ov w B e A n c xs) (hb : Below w.heap.size w w') : Ov w' B e A n c xs := h.below hb
theorem Own.step {w w' : World} {B : Nat} {A : Option Addr} {n c : Nat} {l : List UInt8} (h : Own w B A n c l) (hb : Below w.heap.size w w') : Own w' B A n c l := h.below hb
theorem below_step {w w1 w2 : World} (b : Below w.heap.size w w1) (hb : Below w1.heap.size w1 w2) : Below w.heap.size w w2 := b.trans (hb.mono b.size)
/-- One or two new blocks, whatever they hold. -/
theorem below_a1 {B : Nat} {w w' : World} (h : Below B w w') (hB : B ≤ w.heap.size) (o : Obj) : Below B w (w'.alloc o) := h.alloc (Nat.le_trans hB h.size) o
theorem below_a1' {w w' : World} (h : Below w.heap.size w w') (o : Obj) : Below w.heap.size w (w'.alloc o) := h.alloc h.size o
theorem below_a2 {B : Nat} {w w' : World} (h : Below B w w') (hB : B ≤ w.heap.size) (o o' : Obj) : Below B w ((w'.alloc o).alloc o') := below_a1 (below_a1 h hB o) hB o'

/-- A block that is known whole, and stays. -/
def Blk (w : World) (g : Nat) (cs : Array Value) (T : TypeId) : Prop := w.heap[g]? = some (.cells cs T (0, 0))
theorem Blk.new (w : World) (cs : Array Value) (T : TypeId) : Blk (w.alloc (.cells cs T)) w.heap.size cs T := heap_alloc_new w _
theorem Blk.lt {w : World} {g : Nat} {cs : Array Value} {T : TypeId} (h : Blk w g cs T) : g < w.heap.size := (Array.getElem?_eq_some_iff.1 h).1
theorem Blk.step {w w' : World} {g : Nat} {cs : Array Value} {T : TypeId} (h : Blk w g cs T) (hb : Below w.heap.size w w') : Blk w' g cs T := (hb.block g h.lt).trans h
theorem Blk.alloc {w : World} {g : Nat} {cs : Array Value} {T : TypeId} (h : Blk w g cs T) (o : Obj) : Blk (w.alloc o) g cs T := (Below.heap_alloc w o g h.lt).trans h
theorem Blk.frozen {w : World} {g : Nat} {cs : Array Value} {T : TypeId} (h : Blk w g cs T) (i : Nat) : w.frozen? ⟨g, i, none⟩ = false := frozen_of_row w g i _ _ h
theorem Blk.far {w : World} {g : Nat} {cs : Array Value} {T : TypeId} (h : Blk w g cs T) {p : Addr} (hp : g ≠ p.block) (u : Value) : Blk (w.setCell p u) g cs T := (Below.heap_setCell w p u g hp).trans h
theorem Blk.set_ {w : World} {g : Nat} {cs : Array Value} {T : TypeId} (h : Blk w g cs T) (i : Nat) (u : Value) : Blk (w.setCell ⟨g, i, none⟩ u) g (cs.setIfInBounds i u) T := heap_setCell_same w g i _ _ _ h
theorem box1 {w : World} {g : Nat} {T : TypeId} {c0 : Value} (h : w.heap[g]? = some (.cells #[c0] T (0, 0))) : w.cell? ⟨g, 0, none⟩ = some c0 := cell_of_row w g 0 _ _ (0, 0) h
theorem box2 {w : World} {g : Nat} {T : TypeId} {c0 c1 : Value} (h : w.heap[g]? = some (.cells #[c0, c1] T (0, 0))) : w.cell? ⟨g, 0, none⟩ = some c0 ∧ w.cell? ⟨g, 1, none⟩ = some c1 := ⟨cell_of_row w g 0 _ _ (0, 0) h, cell_of_row w g 1 _ _ (0, 0) h⟩
theorem box3 {w : World} {g : Nat} {T : TypeId} {c0 c1 c2 : Value} (h : w.heap[g]? = some (.cells #[c0, c1, c2] T (0, 0))) : w.cell? ⟨g, 0, none⟩ = some c0 ∧ w.cell? ⟨g, 1, none⟩ = some c1 ∧ w.cell? ⟨g, 2, none⟩ = some c2 := ⟨cell_of_row w g 0 _ _ (0, 0) h, cell_of_row w g 1 _ _ (0, 0) h, cell_of_row w g 2 _ _ (0, 0) h⟩
theorem box4 {w : World} {g : Nat} {T : TypeId} {c0 c1 c2 c3 : Value} (h : w.heap[g]? = some (.cells #[c0, c1, c2, c3] T (0, 0))) : w.cell? ⟨g, 0, none⟩ = some c0 ∧ w.cell? ⟨g, 1, none⟩ = some c1 ∧ w.cell? ⟨g, 2, none⟩ = some c2 ∧ w.cell? ⟨g, 3, none⟩ = some c3 := ⟨cell_of_row w g 0 _ _ (0, 0) h, cell_of_row w g 1 _ _ (0, 0) h, cell_of_row w g 2 _ _ (0, 0) h, cell_of_row w g 3 _ _ (0, 0) h⟩
theorem box5 {w : World} {g : Nat} {T : TypeId} {c0 c1 c2 c3 c4 : Value} (h : w.heap[g]? = some (.cells #[c0, c1, c2, c3, c4] T (0, 0))) : w.cell? ⟨g, 0, none⟩ = some c0 ∧ w.cell? ⟨g, 1, none⟩ = some c1 ∧ w.cell? ⟨g, 2, none⟩ = some c2 ∧ w.cell? ⟨g, 3, none⟩ = some c3 ∧ w.cell? ⟨g, 4, none⟩ = some c4 := ⟨cell_of_row w g 0 _ _ (0, 0) h, cell_of_row w g 1 _ _ (0, 0) h, cell_of_row w g 2 _ _ (0, 0) h, cell_of_row w g 3 _ _ (0, 0) h, cell_of_row w g 4 _ _ (0, 0) h⟩
theorem box6 {w : World} {g : Nat} {T : TypeId} {c0 c1 c2 c3 c4 c5 : Value} (h : w.heap[g]? = some (.cells #[c0, c1, c2, c3, c4, c5] T (0, 0))) : w.cell? ⟨g, 0, none⟩ = some c0 ∧ w.cell? ⟨g, 1, none⟩ = some c1 ∧ w.cell? ⟨g, 2, none⟩ = some c2 ∧ w.cell? ⟨g, 3, none⟩ = some c3 ∧ w.cell? ⟨g, 4, none⟩ = some c4 ∧ w.cell? ⟨g, 5, none⟩ = some c5 := ⟨cell_of_row w g 0 _ _ (0, 0) h, cell_of_row w g 1 _ _ (0, 0) h, cell_of_row w g 2 _ _ (0, 0) h, cell_of_row w g 3 _ _ (0, 0) h, cell_of_row w g 4 _ _ (0, 0) h, cell_of_row w g 5 _ _ (0, 0) h⟩
theorem box7 {w : World} {g : Nat} {T : TypeId} {c0 c1 c2 c3 c4 c5 c6 : Value} (h : w.heap[g]? = some (.cells #[c0, c1, c2, c3, c4, c5, c6] T (0, 0))) : w.cell? ⟨g, 0, none⟩ = some c0 ∧ w.cell? ⟨g, 1, none⟩ = some c1 ∧ w.cell? ⟨g, 2, none⟩ = some c2 ∧ w.cell? ⟨g, 3, none⟩ = some c3 ∧ w.cell? ⟨g, 4, none⟩ = some c4 ∧ w.cell? ⟨g, 5, none⟩ = some c5 ∧ w.cell? ⟨g, 6, none⟩ = some c6 := ⟨cell_of_row w g 0 _ _ (0, 0) h, cell_of_row w g 1 _ _ (0, 0) h, cell_of_row w g 2 _ _ (0, 0) h, cell_of_row w g 3 _ _ (0, 0) h, cell_of_row w g 4 _ _ (0, 0) h, cell_of_row w g 5 _ _ (0, 0) h, cell_of_row w g 6 _ _ (0, 0) h⟩
theorem box8 {w : World} {g : Nat} {T : TypeId} {c0 c1 c2 c3 c4 c5 c6 c7 : Value} (h : w.heap[g]? = some (.cells #[c0, c1, c2, c3, c4, c5, c6, c7] T (0, 0))) : w.cell? ⟨g, 0, none⟩ = some c0 ∧ w.cell? ⟨g, 1, none⟩ = some c1 ∧ w.cell? ⟨g, 2, none⟩ = some c2 ∧ w.cell? ⟨g, 3, none⟩ = some c3 ∧ w.cell? ⟨g, 4, none⟩ = some c4 ∧ w.cell? ⟨g, 5, none⟩ = some c5 ∧ w.cell? ⟨g, 6, none⟩ = some c6 ∧ w.cell? ⟨g, 7, none⟩ = some c7 := ⟨cell_of_row w g 0 _ _ (0, 0) h, cell_of_row w g 1 _ _ (0, 0) h, cell_of_row w g 2 _ _ (0, 0) h, cell_of_row w g 3 _ _ (0, 0) h, cell_of_row w g 4 _ _ (0, 0) h, cell_of_row w g 5 _ _ (0, 0) h, cell_of_row w g 6 _ _ (0, 0) h, cell_of_row w g 7 _ _ (0, 0) h⟩
theorem box9 {w : World} {g : Nat} {T : TypeId} {c0 c1 c2 c3 c4 c5 c6 c7 c8 : Value} (h : w.heap[g]? = some (.cells #[c0, c1, c2, c3, c4, c5, c6, c7, c8] T (0, 0))) : w.cell? ⟨g, 0, none⟩ = some c0 ∧ w.cell? ⟨g, 1, none⟩ = some c1 ∧ w.cell? ⟨g, 2, none⟩ = some c2 ∧ w.cell? ⟨g, 3, none⟩ = some c3 ∧ w.cell? ⟨g, 4, none⟩ = some c4 ∧ w.cell? ⟨g, 5, none⟩ = some c5 ∧ w.cell? ⟨g, 6, none⟩ = some c6 ∧ w.cell? ⟨g, 7, none⟩ = some c7 ∧ w.cell? ⟨g, 8, none⟩ = some c8 := ⟨cell_of_row w g 0 _ _ (0, 0) h, cell_of_row w g 1 _ _ (0, 0) h, cell_of_row w g 2 _ _ (0, 0) h, cell_of_row w g 3 _ _ (0, 0) h, cell_of_row w g 4 _ _ (0, 0) h, cell_of_row w g 5 _ _ (0, 0) h, cell_of_row w g 6 _ _ (0, 0) h, cell_of_row w g 7 _ _ (0, 0) h, cell_of_row w g 8 _ _ (0, 0) h⟩
theorem box10 {w : World} {g : Nat} {T : TypeId} {c0 c1 c2 c3 c4 c5 c6 c7 c8 c9 : Value} (h : w.heap[g]? = some (.cells #[c0, c1, c2, c3, c4, c5, c6, c7, c8, c9] T (0, 0))) : w.cell? ⟨g, 0, none⟩ = some c0 ∧ w.cell? ⟨g, 1, none⟩ = some c1 ∧ w.cell? ⟨g, 2, none⟩ = some c2 ∧ w.cell? ⟨g, 3, none⟩ = some c3 ∧ w.cell? ⟨g, 4, none⟩ = some c4 ∧ w.cell? ⟨g, 5, none⟩ = some c5 ∧ w.cell? ⟨g, 6, none⟩ = some c6 ∧ w.cell? ⟨g, 7, none⟩ = some c7 ∧ w.cell? ⟨g, 8, none⟩ = some c8 ∧ w.cell? ⟨g, 9, none⟩ = some c9 := ⟨cell_of_row w g 0 _ _ (0, 0) h, cell_of_row w g 1 _ _ (0, 0) h, cell_of_row w g 2 _ _ (0, 0) h, cell_of_row w g 3 _ _ (0, 0) h, cell_of_row w g 4 _ _ (0, 0) h, cell_of_row w g 5 _ _ (0, 0) h, cell_of_row w g 6 _ _ (0, 0) h, cell_of_row w g 7 _ _ (0, 0) h, cell_of_row w g 8 _ _ (0, 0) h, cell_of_row w g 9 _ _ (0, 0) h⟩
theorem box11 {w : World} {g : Nat} {T : TypeId} {c0 c1 c2 c3 c4 c5 c6 c7 c8 c9 c10 : Value} (h : w.heap[g]? = some (.cells #[c0, c1, c2, c3, c4, c5, c6, c7, c8, c9, c10] T (0, 0))) : w.cell? ⟨g, 0, none⟩ = some c0 ∧ w.cell? ⟨g, 1, none⟩ = some c1 ∧ w.cell? ⟨g, 2, none⟩ = some c2 ∧ w.cell? ⟨g, 3, none⟩ = some c3 ∧ w.cell? ⟨g, 4, none⟩ = some c4 ∧ w.cell? ⟨g, 5, none⟩ = some c5 ∧ w.cell? ⟨g, 6, none⟩ = some c6 ∧ w.cell? ⟨g, 7, none⟩ = some c7 ∧ w.cell? ⟨g, 8, none⟩ = some c8 ∧ w.cell? ⟨g, 9, none⟩ = some c9 ∧ w.cell? ⟨g, 10, none⟩ = some c10 := ⟨cell_of_row w g 0 _ _ (0, 0) h, cell_of_row w g 1 _ _ (0, 0) h, cell_of_row w g 2 _ _ (0, 0) h, cell_of_row w g 3 _ _ (0, 0) h, cell_of_row w g 4 _ _ (0, 0) h, cell_of_row w g 5 _ _ (0, 0) h, cell_of_row w g 6 _ _ (0, 0) h, cell_of_row w g 7 _ _ (0, 0) h, cell_of_row w g 8 _ _ (0, 0) h, cell_of_row w g 9 _ _ (0, 0) h, cell_of_row w g 10 _ _ (0, 0) h⟩
theorem box12 {w : World} {g : Nat} {T : TypeId} {c0 c1 c2 c3 c4 c5 c6 c7 c8 c9 c10 c11 : Value} (h : w.heap[g]? = some (.cells #[c0, c1, c2, c3, c4, c5, c6, c7, c8, c9, c10, c11] T (0, 0))) : w.cell? ⟨g, 0, none⟩ = some c0 ∧ w.cell? ⟨g, 1, none⟩ = some c1 ∧ w.cell? ⟨g, 2, none⟩ = some c2 ∧ w.cell? ⟨g, 3, none⟩ = some c3 ∧ w.cell? ⟨g, 4, none⟩ = some c4 ∧ w.cell? ⟨g, 5, none⟩ = some c5 ∧ w.cell? ⟨g, 6, none⟩ = some c6 ∧ w.cell? ⟨g, 7, none⟩ = some c7 ∧ w.cell? ⟨g, 8, none⟩ = some c8 ∧ w.cell? ⟨g, 9, none⟩ = some c9 ∧ w.cell? ⟨g, 10, none⟩ = some c10 ∧ w.cell? ⟨g, 11, none⟩ = some c11 := ⟨cell_of_row w g 0 _ _ (0, 0) h, cell_of_row w g 1 _ _ (0, 0) h, cell_of_row w g 2 _ _ (0, 0) h, cell_of_row w g 3 _ _ (0, 0) h, cell_of_row w g 4 _ _ (0, 0) h, cell_of_row w g 5 _ _ (0, 0) h, cell_of_row w g 6 _ _ (0, 0) h, cell_of_row w g 7 _ _ (0, 0) h, cell_of_row w g 8 _ _ (0, 0) h, cell_of_row w g 9 _ _ (0, 0) h, cell_of_row w g 10 _ _ (0, 0) h, cell_of_row w g 11 _ _ (0, 0) h⟩
/-- A slice literal that the call makes. -/
theorem Ov.lit (w : World) (cs : Array Value) (e : TypeId) (B n : Nat) (xs : List Value) (hB : B ≤ w.heap.size) (hm : n ≤ maxLen) (hs : cs.size = n) (hx : cs.toList = xs) :
    Ov (w.alloc (.cells cs e)) B e (some ⟨w.heap.size, 0, none⟩) n n xs := by
  subst hx
  exact World.ownsRow_lit w cs n hB hm (by simpa using hs)
theorem Own.lit (w : World) (cs : Array Value) (B n : Nat) (l : List UInt8) (hB : B ≤ w.heap.size) (hm : n ≤ maxLen) (hs : cs.size = n) (hx : cs.toList = cbs l) :
    Own (w.alloc (.cells cs 5)) B (some ⟨w.heap.size, 0, none⟩) n n l := Ov.lit w cs _ B n _ hB hm hs hx
theorem Rd.one (w : World) (v : Value) (y : UInt8) (h : v = cb y) : Rd (w.alloc (.cells #[v] 5)) (w.heap.size + 1) (some ⟨w.heap.size, 0, none⟩) 1 1 [y] := by
  subst h
  have := Own.rd (Own.lit w #[cb y] w.heap.size 1 [y] (Nat.le_refl _) (by simp [maxLen]) rfl rfl)
  exact this.more (by simp)

theorem Rd.oneK (w : World) (k : Nat) (v : Value) (y : UInt8) (hk : w.heap.size = k) (h : v = cb y) : Rd (w.alloc (.cells #[v] 5)) (k + 1) (some ⟨k, 0, none⟩) 1 1 [y] := by
  subst hk; exact Rd.one w v y h
theorem Own.litK (w : World) (k : Nat) (cs : Array Value) (B n : Nat) (l : List UInt8) (hk : w.heap.size = k) (hB : B ≤ k) (hm : n ≤ maxLen) (hs : cs.size = n) (hx : cs.toList = cbs l) :
    Own (w.alloc (.cells cs 5)) B (some ⟨k, 0, none⟩) n n l := by
  subst hk; exact Own.lit w cs B n l hB hm hs hx
theorem Own.emptyK (w : World) (k B : Nat) (hk : w.heap.size = k) (hB : B ≤ k) : Own (w.alloc (.cells #[] 5)) B (some ⟨k, 0, none⟩) 0 0 [] := by
  subst hk; exact Own.empty w B hB

theorem below_of_grown0 {w w' : World} {B : Nat} (h : w.grownBy w' none) (hB : B ≤ w.heap.size) : Below B w w' :=
  (Below.refl B w).grown h hB fun k hk => by cases hk

/-- make([]byte, m) -/
theorem wpList_mk8 (w : World) {ops : Array Oper} {rest : List Oper} {o : Oper} {a : Act} {Q : Exit → Act → World → Prop}
    (hg : o.guard = none) (l c : Operand) (hop : o.op = Op.makeSlice 33 l c) (B m : Nat)
    (hl : a.eval l = .int .i64 (m : Int)) (hc : a.eval c = .int .i64 (m : Int)) (hm : m ≤ 281474976710656) (hB : B ≤ w.heap.size)
    (hK : ∀ w', Own w' B (some ⟨w.heap.size, 0, none⟩) m m (List.replicate m 0) → Below B w w' → wpList Try.prog ops Q rest (a.put o.dst (.slice (some ⟨w.heap.size, 0, none⟩) m m)) w') :
    wpList Try.prog ops Q (o :: rest) a w := by
  obtain ⟨i0, hi0, hz0, hz1, hz2⟩ := info_parts u8info
  refine wpList_make_full w hg l c _ hop B 5 i0 _ 1 Try.underlying33 hi0 hz0 hz1 .i64 .i64 _ _ m hl hc rfl rfl (by rw [hz2]; omega) (by unfold maxLen; omega) hB ?_
  intro w' h1 h2
  refine hK w' ?_ (below_of_grown0 h2 hB)
  have e : (madeCells (Value.int .u8 0).cells (m * 1)).toList = cbs (List.replicate m 0) := by
    apply List.ext_getElem
    · simp [madeCells, cbs]
    · intro i h3 h4
      simp [madeCells, cbs, cb, Value.cells, Nat.mod_one]
  rw [e] at h1
  exact h1
/-- make([]byte, 0, m) -/
theorem wpList_mkc8 (w : World) {ops : Array Oper} {rest : List Oper} {o : Oper} {a : Act} {Q : Exit → Act → World → Prop}
    (hg : o.guard = none) (l c : Operand) (hop : o.op = Op.makeSlice 33 l c) (B m : Nat) (C : Int)
    (hl : a.eval l = .int .i64 0) (hc : a.eval c = .int .i64 C) (hC : C = (m : Int)) (hm : m ≤ 281474976710656) (hB : B ≤ w.heap.size)
    (hK : ∀ w', Own w' B (some ⟨w.heap.size, 0, none⟩) 0 m [] → Below B w w' → wpList Try.prog ops Q rest (a.put o.dst (.slice (some ⟨w.heap.size, 0, none⟩) 0 m)) w') :
    wpList Try.prog ops Q (o :: rest) a w := by
  obtain ⟨i0, hi0, hz0, hz1, hz2⟩ := info_parts u8info
  refine wpList_make_own w hg l c _ hop B 5 i0 _ 1 Try.underlying33 hi0 hz0 hz1 .i64 .i64 _ m hl hc hC (by rw [hz2]; omega) (by unfold maxLen; omega) hB ?_
  intro w' h1 h2
  exact hK w' h1 (below_of_grown0 h2 hB)

/-- A store into a slice of the call's own. -/
theorem Own.stored {w : World} {B n c g : Nat} {l : List UInt8} (h : Own w B (some ⟨g, 0, none⟩) n c l) (j : Nat) (y : UInt8) :
    Own (w.setCell ⟨g, j, none⟩ (cb y)) B (some ⟨g, 0, none⟩) n c (l.set j y) := by
  have := (World.ownsRow.stored h j (cb y)).1
  unfold Own Ov
  rw [show cbs (l.set j y) = (cbs l).set j (cb y) from by simp [cbs, List.map_set]]
  exact this
theorem Own.base {w : World} {B n c g : Nat} {l : List UInt8} (h : Own w B (some ⟨g, 0, none⟩) n c l) : B ≤ g ∧ g < w.heap.size := World.ownsRow.lt h g rfl
theorem Own.cellAt {w : World} {B n c g : Nat} {l : List UInt8} (h : Own w B (some ⟨g, 0, none⟩) n c l) {j : Nat} (hj : j < n) : ∃ x : UInt8, l[j]? = some x ∧ w.cell? ⟨g, j, none⟩ = some (.int .u8 (x.toNat : Int)) := by
  have h1 := World.ownsRow.cellAt h j (by omega)
  have hl := h.len
  refine ⟨l[j]'(by omega), List.getElem?_eq_getElem (by omega), ?_⟩
  rw [h1, cbs_get?, List.getElem?_eq_getElem (by omega)]; rfl
theorem Own.frozenAt {w : World} {B n c g : Nat} {l : List UInt8} (h : Own w B (some ⟨g, 0, none⟩) n c l) (j : Nat) : w.frozen? ⟨g, j, none⟩ = false := World.ownsRow.frozenAt h j

/-- append to bytes of the call's own, at a step of a region that draws its order. -/
theorem step_app8 (w : World) {ops : Array Oper} {o : Oper} {a : Act} {K : Act → World → Prop} {Q : Exit → Act → World → Prop} {E : Prop}
    (hg : Region.wanted o (yielded ops a.tmps) = true) (s x : Operand) (hop : o.op = Op.call { callee := Callee.builtin Builtin.append, args := #[s, x], argTypes := #[33, 33] })
    (B : Nat) (A : Option Addr) (n c : Nat) (l : List UInt8) (hs : a.eval s = .slice A n c) (hown : Own w B A n c l)
    (B2 : Nat) (A2 : Option Addr) (m c2 : Nat) (l2 : List UInt8) (hx : a.eval x = .slice A2 m c2) (hr : Rd w B2 A2 m c2 l2)
    (hbytes : n + m ≤ 140737488355328) (hbase : B ≤ w.heap.size)
    (hK : ∀ A' c' w', Own w' B A' (n + m) c' (l ++ l2) → Below B w w' → K (a.put o.dst (.slice A' (n + m) c')) w') :
    if Region.wanted o (yielded ops a.tmps) = true then Oper.wp Try.prog o a w K Q else E := by
  rw [if_pos hg]
  obtain ⟨i0, hi0, hz0, hz1, hz2⟩ := info_parts u8info
  obtain ⟨A', c', w', hrun, h1, h2, r3⟩ := run_app (P := Try.prog) w B 33 o.type 5 i0 _ 1 Try.underlying33 hi0 hz0 hz1 hz2 rfl A n c (cbs l) hown B2 A2 m c2 (cbs l2) hr (cbs_one _) (fits_small (by omega)) (by unfold maxLen; omega) hbase
  unfold Oper.wp
  simp [execOp, hop, resolve, invoke, builtin, hs, hx, hrun, Result.andThen]
  refine hK A' c' w' ?_ ?_
  · unfold Own
    rw [cbs_append]
    exact h1
  · refine (Below.refl B w).grown h2 hbase fun k hk => ?_
    exact (World.ownsRow.lt hown k hk).1
end
section
/-- The n lowest bytes of x, the highest first. -/
def highB : Nat → Nat → List UInt8
  | _, 0 => []
  | x, n + 1 => highB (x / 256) n ++ [UInt8.ofNat x]
theorem length_highB : ∀ (n x : Nat), (highB x n).length = n
  | 0, _ => rfl
  | n + 1, x => by simp [highB, length_highB n]
theorem highB_snoc (x n : Nat) : highB x (n + 1) = highB (x / 256) n ++ [UInt8.ofNat x] := rfl
theorem highB_cons : ∀ (n x : Nat), highB x (n + 1) = UInt8.ofNat (x / 256 ^ n) :: highB x n
  | 0, x => by simp [highB]
  | n + 1, x => by
    rw [highB_snoc, highB_cons n (x / 256), highB_snoc x n, Nat.div_div_eq_div_mul, Nat.pow_succ, Nat.mul_comm 256]
    rfl
theorem ofNat_mod (x : Nat) : UInt8.ofNat (x % 256) = UInt8.ofNat x := by
  apply UInt8.toNat_inj.1; simp
theorem highB_mod : ∀ (n x k : Nat), n ≤ k → highB (x % 256 ^ k) n = highB x n
  | 0, _, _, _ => rfl
  | n + 1, x, k, h => by
    obtain ⟨k, rfl⟩ : ∃ k', k = k' + 1 := ⟨k - 1, by omega⟩
    rw [highB_snoc, highB_snoc]
    have e1 : x % 256 ^ (k + 1) / 256 = x / 256 % 256 ^ k := by
      rw [Nat.pow_succ, Nat.mul_comm, Nat.mod_mul_right_div_self]
    have e2 : UInt8.ofNat (x % 256 ^ (k + 1)) = UInt8.ofNat x := by
      rw [← ofNat_mod (x % 256 ^ (k + 1)), ← ofNat_mod x, Nat.mod_mod_of_dvd _ (by rw [Nat.pow_succ]; exact Nat.dvd_mul_left _ _)]
    rw [e1, e2, highB_mod n (x / 256) k (by omega)]

/-- The number of bytes, the highest first. -/
def numB (l : List UInt8) : Nat := l.foldl (fun x c => x * 256 + c.toNat) 0
theorem numB_nil : numB [] = 0 := rfl
theorem numB_snoc (l : List UInt8) (c : UInt8) : numB (l ++ [c]) = numB l * 256 + c.toNat := by simp [numB]
theorem snoc_of {α : Type} (l : List α) (n : Nat) (h : l.length = n + 1) : ∃ (m : List α) (c : α), l = m ++ [c] ∧ m.length = n := by
  refine ⟨l.take n, l[n]'(by omega), ?_, by rw [List.length_take]; omega⟩
  conv => lhs; rw [← List.take_append_drop n l]
  rw [List.drop_eq_getElem_cons (by omega), List.drop_eq_nil_of_le (by omega)]
theorem numB_lt : ∀ (n : Nat) (l : List UInt8), l.length = n → numB l < 256 ^ n
  | 0, l, h => by rw [List.eq_nil_of_length_eq_zero h]; decide
  | n + 1, l, h => by
    obtain ⟨m, c, rfl, hm⟩ := snoc_of l n h
    rw [numB_snoc, Nat.pow_succ]
    have := numB_lt n m hm
    have := c.toNat_lt
    omega
theorem numB_highB : ∀ (n x : Nat), numB (highB x n) = x % 256 ^ n
  | 0, x => by simp [highB, numB, Nat.mod_one]
  | n + 1, x => by
    rw [highB_snoc, numB_snoc, numB_highB n, Nat.pow_succ, Nat.mul_comm (256 ^ n), Nat.mod_mul]
    simp; omega
theorem highB_numB : ∀ (n : Nat) (l : List UInt8), l.length = n → highB (numB l) n = l
  | 0, l, h => by rw [List.eq_nil_of_length_eq_zero h]; rfl
  | n + 1, l, h => by
    obtain ⟨m, c, rfl, hm⟩ := snoc_of l n h
    have hc := c.toNat_lt
    rw [numB_snoc, highB_snoc]
    have e1 : (numB m * 256 + c.toNat) / 256 = numB m := by omega
    have e2 : UInt8.ofNat (numB m * 256 + c.toNat) = c := by
      rw [← ofNat_mod]
      have : (numB m * 256 + c.toNat) % 256 = c.toNat := by omega
      rw [this]; simp
    rw [e1, e2, highB_numB n m hm]
theorem take_snoc_of {α : Type} {l : List α} {k : Nat} {x : α} (h : l[k]? = some x) : l.take (k + 1) = l.take k ++ [x] := by
  rw [List.take_add_one, h]; rfl
theorem list2 {α : Type} {l : List α} (h : l.length = 2) : ∃ c0 c1, l = [c0, c1] := by
  match l, h with
  | [c0, c1], _ => exact ⟨c0, c1, rfl⟩
theorem list3 {α : Type} {l : List α} (h : l.length = 3) : ∃ c0 c1 c2, l = [c0, c1, c2] := by
  match l, h with
  | [c0, c1, c2], _ => exact ⟨c0, c1, c2, rfl⟩
theorem list4 {α : Type} {l : List α} (h : l.length = 4) : ∃ c0 c1 c2 c3, l = [c0, c1, c2, c3] := by
  match l, h with
  | [c0, c1, c2, c3], _ => exact ⟨c0, c1, c2, c3, rfl⟩
theorem list5 {α : Type} {l : List α} (h : l.length = 5) : ∃ c0 c1 c2 c3 c4, l = [c0, c1, c2, c3, c4] := by
  match l, h with
  | [c0, c1, c2, c3, c4], _ => exact ⟨c0, c1, c2, c3, c4, rfl⟩
theorem list6 {α : Type} {l : List α} (h : l.length = 6) : ∃ c0 c1 c2 c3 c4 c5, l = [c0, c1, c2, c3, c4, c5] := by
  match l, h with
  | [c0, c1, c2, c3, c4, c5], _ => exact ⟨c0, c1, c2, c3, c4, c5, rfl⟩
theorem list7 {α : Type} {l : List α} (h : l.length = 7) : ∃ c0 c1 c2 c3 c4 c5 c6, l = [c0, c1, c2, c3, c4, c5, c6] := by
  match l, h with
  | [c0, c1, c2, c3, c4, c5, c6], _ => exact ⟨c0, c1, c2, c3, c4, c5, c6, rfl⟩
theorem list8 {α : Type} {l : List α} (h : l.length = 8) : ∃ c0 c1 c2 c3 c4 c5 c6 c7, l = [c0, c1, c2, c3, c4, c5, c6, c7] := by
  match l, h with
  | [c0, c1, c2, c3, c4, c5, c6, c7], _ => exact ⟨c0, c1, c2, c3, c4, c5, c6, c7, rfl⟩
theorem list9 {α : Type} {l : List α} (h : l.length = 9) : ∃ c0 c1 c2 c3 c4 c5 c6 c7 c8, l = [c0, c1, c2, c3, c4, c5, c6, c7, c8] := by
  match l, h with
  | [c0, c1, c2, c3, c4, c5, c6, c7, c8], _ => exact ⟨c0, c1, c2, c3, c4, c5, c6, c7, c8, rfl⟩
theorem list10 {α : Type} {l : List α} (h : l.length = 10) : ∃ c0 c1 c2 c3 c4 c5 c6 c7 c8 c9, l = [c0, c1, c2, c3, c4, c5, c6, c7, c8, c9] := by
  match l, h with
  | [c0, c1, c2, c3, c4, c5, c6, c7, c8, c9], _ => exact ⟨c0, c1, c2, c3, c4, c5, c6, c7, c8, c9, rfl⟩
theorem list11 {α : Type} {l : List α} (h : l.length = 11) : ∃ c0 c1 c2 c3 c4 c5 c6 c7 c8 c9 c10, l = [c0, c1, c2, c3, c4, c5, c6, c7, c8, c9, c10] := by
  match l, h with
  | [c0, c1, c2, c3, c4, c5, c6, c7, c8, c9, c10], _ => exact ⟨c0, c1, c2, c3, c4, c5, c6, c7, c8, c9, c10, rfl⟩
theorem list12 {α : Type} {l : List α} (h : l.length = 12) : ∃ c0 c1 c2 c3 c4 c5 c6 c7 c8 c9 c10 c11, l = [c0, c1, c2, c3, c4, c5, c6, c7, c8, c9, c10, c11] := by
  match l, h with
  | [c0, c1, c2, c3, c4, c5, c6, c7, c8, c9, c10, c11], _ => exact ⟨c0, c1, c2, c3, c4, c5, c6, c7, c8, c9, c10, c11, rfl⟩
/-- bytes as an int's spelling -/
theorem ofNat_toNat_int (x : Nat) : ((UInt8.ofNat x).toNat : Int) = (x : Int) % 256 := by
  simp
theorem wrapu8 (x : Nat) : IntKind.u8.wrap (x : Int) = ((x % 256 : Nat) : Int) := by simp [IntKind.wrap, IntKind.bits, IntKind.signed]
theorem wrapu16 (x : Nat) : IntKind.u16.wrap (x : Int) = ((x % 65536 : Nat) : Int) := by simp [IntKind.wrap, IntKind.bits, IntKind.signed]
theorem wrapu32 (x : Nat) : IntKind.u32.wrap (x : Int) = ((x % 4294967296 : Nat) : Int) := by simp [IntKind.wrap, IntKind.bits, IntKind.signed]
theorem modu32 (x : Nat) : (x : Int) % 4294967296 = ((x % 4294967296 : Nat) : Int) := by omega
theorem modu16 (x : Nat) : (x : Int) % 65536 = ((x % 65536 : Nat) : Int) := by omega
theorem modu8 (x : Nat) : (x : Int) % 256 = ((x % 256 : Nat) : Int) := by omega
theorem wrapu64 (x : Nat) : IntKind.u64.wrap (x : Int) = ((x % 18446744073709551616 : Nat) : Int) := by simp [IntKind.wrap, IntKind.bits, IntKind.signed]
end
section
open Go.RowKit

/-- Are these the same bytes? -/
def eqB (a b : List UInt8) : Bool := decide (a = b)
theorem eqB_len {a b : List UInt8} (h : a.length ≠ b.length) : eqB a b = false := by
  unfold eqB; exact decide_eq_false fun e => h (by rw [e])
theorem eqB_at {a b : List UInt8} {k : Nat} (h : a[k]? ≠ b[k]?) : eqB a b = false := by
  unfold eqB; exact decide_eq_false fun e => h (by rw [e])
theorem eqB_all {a b : List UInt8} {n : Nat} (ha : a.length = n) (hb : b.length = n) (h : ∀ k, k < n → a[k]? = b[k]?) : eqB a b = true := by
  unfold eqB
  refine decide_eq_true (List.ext_getElem? fun k => ?_)
  by_cases hk : k < n
  · exact h k hk
  · rw [List.getElem?_eq_none (by omega), List.getElem?_eq_none (by omega)]
theorem ne_u8 {x y : UInt8} : ((x.toNat : Int) != (y.toNat : Int)) = !decide (x = y) := by
  by_cases h : x = y
  · subst h; simp
  · have : x.toNat ≠ y.toNat := fun e => h (UInt8.toNat_inj.1 e)
    simp [h]; omega

theorem ext_step {α : Type} {l m : List α} {k : Nat} (h : ∀ j, j < k → l[j]? = m[j]?) (hk : l[k]? = m[k]?) : ∀ j, j < k + 1 → l[j]? = m[j]? := by
  intro j hj
  by_cases e : j = k
  · subst e; exact hk
  · exact h j (by omega)
def SameRel (l m : List UInt8) (n : Nat) (w : World) (i : Value) (wr : World) : Prop := ∃ k : Nat, k ≤ n ∧ i = .int .i64 k ∧ (∀ j, j < k → l[j]? = m[j]?) ∧ ∃ q, wr = w.drewN q
def Quiet (v : Value) (w : World) (e : Ending) (w' : World) : Prop := e = .returned v ∧ ∃ q, w' = w.drewN q

set_option maxHeartbeats 400000 in
theorem same_any (A1 A2 : Option Addr) (n1 c1 n2 c2 B : Nat) (l1 l2 : List UInt8) (w : World) (h1 : Rd w B A1 n1 c1 l1) (h2 : Rd w B A2 n2 c2 l2) :
    Calls Try.prog 13 #[.slice A1 n1 c1, .slice A2 n2 c2] w (Quiet (.bool (eqB l1 l2)) w) := by
  have m1 : (n1 : Int) ≤ 9223372036854775807 := by have := h1.cap; have := h1.max; unfold maxLen at this; omega
  by_cases hn : n1 = n2
  · subst hn
    go_enter Try.func13, Try.ntmps13
    go_wp2
    go_loopw [5] (fun i wr => SameRel l1 l2 n1 w i wr) (fun i _ => n1 - (intOf i).toNat)
    case atStart => exact ⟨0, Nat.zero_le _, rfl, fun j hj => absurd hj (Nat.not_lt_zero _), 0, rfl⟩
    case round =>
      obtain ⟨k, hk, rfl, hj, q, rfl⟩ := hrel
      by_cases hlt : k < n1
      · obtain ⟨a1, x1, rfl, -, hx1, hc1⟩ := h1.at_ hlt
        obtain ⟨a2, x2, rfl, -, hx2, hc2⟩ := h2.at_ hlt
        by_cases hx : x1 = x2
        · have hne : ((x1.toNat : Int) != (x2.toNat : Int)) = false := by rw [ne_u8]; simp [hx]
          go_wp2
          go_quiet (fail)
          go_wp2
          go_roundw
          case rel => exact ⟨k + 1, by omega, by go_num, ext_step hj (by rw [hx1, hx2, hx]), by first | exact ⟨_, rfl⟩ | exact ⟨_, World.drewN_drewN _ _ _⟩⟩
          case measure => simp [intOf]; omega
        · have hne : ((x1.toNat : Int) != (x2.toNat : Int)) = true := by rw [ne_u8]; simp [hx]
          go_wp2
          go_quiet (fail)
          go_wp2
          go_ret
          exact ⟨by rw [eqB_at (k := k) (by rw [hx1, hx2]; exact fun e => hx (Option.some.inj e))]; rfl, by first | exact ⟨_, rfl⟩ | exact ⟨_, World.drewN_drewN _ _ _⟩⟩
      · go_wp2
        go_ret
        exact ⟨by rw [eqB_all h1.len h2.len (fun j hjn => hj j (by omega))]; rfl, _, rfl⟩
  · have hne : ((n1 : Int) != (n2 : Int)) = true := by rw [bne_iff_ne]; omega
    go_enter Try.func13, Try.ntmps13
    go_wp2
    go_ret
    exact ⟨by rw [eqB_len (by rw [h1.len, h2.len]; exact hn)]; rfl, 0, rfl⟩


/-- Are all bytes 0? -/
def zeroB (l : List UInt8) : Bool := l.all (· == 0)
def orB (l : List UInt8) : Nat := l.foldl (fun x c => x ||| c.toNat) 0
theorem orB_lt (l : List UInt8) : orB l < 256 := by
  unfold orB
  have : ∀ (l : List UInt8) (x : Nat), x < 256 → l.foldl (fun x c => x ||| c.toNat) x < 256 := by
    intro l
    induction l with
    | nil => exact fun x h => h
    | cons c l ih => exact fun x h => ih _ (Nat.or_lt_two_pow (n := 8) h c.toNat_lt)
  exact this l 0 (by decide)
theorem orB_zero (l : List UInt8) : (orB l == 0) = zeroB l := by
  have : ∀ (l : List UInt8) (x : Nat), (l.foldl (fun x c => x ||| c.toNat) x == 0) = (x == 0 && l.all (· == 0)) := by
    intro l
    induction l with
    | nil => intro x; simp
    | cons c l ih =>
      intro x
      rw [List.foldl_cons, ih, List.all_cons]
      have : (x ||| c.toNat == 0) = (x == 0 && c == 0) := by
        rw [Bool.eq_iff_iff]
        simp [Nat.or_eq_zero_iff, ← UInt8.toNat_inj]
      rw [this, Bool.and_assoc]
  have h := this l 0
  simpa [orB, zeroB] using h
end
section
open Go.RowKit

def numQ (l : List UInt8) : Nat := numB l % 18446744073709551616
theorem numQ_lt (l : List UInt8) : numQ l < 18446744073709551616 := Nat.mod_lt _ (by decide)
theorem numQ_step {l : List UInt8} {k : Nat} {x : UInt8} (h : l[k]? = some x) : IntKind.u64.wrap (IntKind.u64.wrap ((numQ (l.take k) : Int) * 256) + (x.toNat : Int)) = (numQ (l.take (k + 1)) : Int) := by
  rw [take_snoc_of h]
  unfold numQ
  rw [numB_snoc, IntKind.wrap_u64, IntKind.wrap_u64]
  omega
theorem numQ_small {l : List UInt8} (h : l.length ≤ 8) : numQ l = numB l := by
  unfold numQ
  refine Nat.mod_eq_of_lt (Nat.lt_of_lt_of_le (numB_lt _ l rfl) ?_)
  exact Nat.le_trans (Nat.pow_le_pow_right (by decide) h) (by decide)
theorem pow28 (k : Nat) : (2 : Int) ^ (8 * k) = ((256 ^ k : Nat) : Int) := by
  rw [Int.pow_mul]; norm_cast
theorem shr_byte {x m j : Nat} : Value.int .u8 ((x : Int) / 2 ^ (8 * (m - 1 - j)) % 256) = cb (UInt8.ofNat (x / 256 ^ (m - j - 1))) := by
  unfold cb
  rw [pow28, show m - 1 - j = m - j - 1 from by omega, ofNat_toNat_int, Int.natCast_ediv]
theorem put_step {x m j : Nat} (h : j < m) : highB (x / 256 ^ (m - j)) j ++ [UInt8.ofNat (x / 256 ^ (m - j - 1))] = highB (x / 256 ^ (m - (j + 1))) (j + 1) := by
  obtain ⟨d, rfl⟩ : ∃ d, m = d + 1 + j := ⟨m - 1 - j, by omega⟩
  rw [highB_snoc, Nat.div_div_eq_div_mul, ← Nat.pow_succ, show d + 1 + j - (j + 1) = d from by omega, show d + 1 + j - j = d + 1 from by omega]
  rfl

theorem high_step {x m j : Nat} (h : j < m) : (List.replicate (m - j) (0 : UInt8) ++ highB x j).set (m - 1 - j) (UInt8.ofNat (x / 256 ^ j)) = List.replicate (m - (j + 1)) 0 ++ highB x (j + 1) := by
  obtain ⟨d, rfl⟩ : ∃ d, m = d + 1 + j := ⟨m - 1 - j, by omega⟩
  have e1 : d + 1 + j - j = d + 1 := by omega
  have e2 : d + 1 + j - 1 - j = d := by omega
  have e3 : d + 1 + j - (j + 1) = d := by omega
  rw [e1, e2, e3, highB_cons, List.replicate_succ', List.append_assoc, List.set_append_right _ _ (by simp)]
  simp
theorem rem_byte {x j : Nat} : Value.int .u8 (((x / 256 ^ j : Nat) : Int) % 256) = cb (UInt8.ofNat (x / 256 ^ j)) := by
  unfold cb; rw [ofNat_toNat_int]

theorem orB_step {l : List UInt8} {k : Nat} {x : UInt8} (h : l[k]? = some x) : orB (l.take k) ||| x.toNat = orB (l.take (k + 1)) := by
  rw [take_snoc_of h]; simp [orB]
theorem beq_zero_int (y : Nat) : ((y : Int) == 0) = (y == 0) := by
  rw [Bool.eq_iff_iff]; simp
end
section
open Go.RowKit

/-- The slice of address A, length n, capacity c (elements of z cells) reads as the cells xs, below block B. -/
def Rz (w : World) (B z : Nat) (A : Option Addr) (n c : Nat) (xs : List Value) : Prop :=
  xs.length = n * z ∧ n ≤ c ∧ c ≤ maxLen ∧ (A = none → c = 0) ∧ (∀ ad, A = some ad → 0 < n → ad.block < B) ∧ ∀ ad i u, A = some ad → xs[i]? = some u → w.cell? (ad.add i) = some u
/-- A slice of the call's own, from block B on, holding the cells xs. -/
def Oz (w : World) (B : Nat) (e : TypeId) (z : Nat) (A : Option Addr) (n c : Nat) (xs : List Value) : Prop := w.ownsRow B e z (.slice A n c) n xs

section
variable {w w' : World} {B B' z n c : Nat} {A : Option Addr} {xs : List Value} {e : TypeId}
theorem Rz.len (h : Rz w B z A n c xs) : xs.length = n * z := h.1
theorem Rz.cap (h : Rz w B z A n c xs) : n ≤ c := h.2.1
theorem Rz.max (h : Rz w B z A n c xs) : c ≤ maxLen := h.2.2.1
theorem Rz.nil (w : World) (B z : Nat) : Rz w B z none 0 0 [] := ⟨by simp, Nat.le_refl _, by simp [maxLen], (fun _ => rfl), (fun _ h => by cases h), (fun _ _ _ h => by cases h)⟩
theorem Rz.one (h : Rz w B 1 A n c xs) : Rv w B A n c xs := by
  obtain ⟨h1, h2⟩ := h
  exact ⟨by simpa using h1, h2⟩
theorem Rv.rz (h : Rv w B A n c xs) : Rz w B 1 A n c xs := by
  obtain ⟨h1, h2⟩ := h
  exact ⟨by simpa using h1, h2⟩
/-- Element i: where it lies, and its cells. -/
theorem Rz.elem (h : Rz w B z A n c xs) {i : Nat} (hi : i < n) : ∃ ad, A = some ad ∧ ad.block < B ∧ ((xs.drop (i * z)).take z).length = z ∧ ∀ j u, ((xs.drop (i * z)).take z)[j]? = some u → w.cell? ((ad.add (i * z)).add j) = some u := by
  obtain ⟨h1, h2, _, h4, h5, h6⟩ := h
  cases A with
  | none => have := h4 rfl; omega
  | some ad =>
    refine ⟨ad, rfl, h5 ad rfl (by omega), ?_, fun j u hu => ?_⟩
    · rw [List.length_take, List.length_drop, h1]
      have : (i + 1) * z ≤ n * z := Nat.mul_le_mul_right z hi
      rw [Nat.add_mul] at this
      omega
    · rw [List.getElem?_take] at hu
      split at hu
      · rw [List.getElem?_drop] at hu
        rw [add_add]
        exact h6 ad _ u rfl hu
      · cases hu
theorem Rz.keep (h : Rz w B z A n c xs) (hk : ∀ p : Addr, p.block < B → w'.cell? p = w.cell? p) : Rz w' B z A n c xs := by
  obtain ⟨h1, h2, h3, h4, h5, h6⟩ := h
  refine ⟨h1, h2, h3, h4, h5, fun ad i u hA hu => ?_⟩
  have hn : 0 < n := by
    have := (List.getElem?_eq_some_iff.1 hu).1
    rcases Nat.eq_zero_or_pos n with h0 | h0
    · rw [h1, h0] at this; simp at this
    · exact h0
  exact (hk _ (by rw [block_add]; exact h5 ad hA hn)).trans (h6 ad i u hA hu)
theorem Rz.more (h : Rz w B z A n c xs) (hB : B ≤ B') : Rz w B' z A n c xs :=
  ⟨h.1, h.2.1, h.2.2.1, h.2.2.2.1, fun ad hA hn => Nat.lt_of_lt_of_le (h.2.2.2.2.1 ad hA hn) hB, h.2.2.2.2.2⟩
theorem Rz.below (h : Rz w B z A n c xs) (hb : Below B w w') : Rz w' B z A n c xs := h.keep fun _ hp => hb.cell hp
theorem Rz.drewN (h : Rz w B z A n c xs) (k : Nat) : Rz (w.drewN k) B z A n c xs := h
theorem Rz.alloc (h : Rz w B z A n c xs) (hB : B ≤ w.heap.size) (o : Obj) : Rz (w.alloc o) B z A n c xs := h.keep fun p hp => World.cell?_alloc_lt w o p (by omega)
theorem Rz.setCell (h : Rz w B z A n c xs) {p : Addr} (hB : B ≤ p.block) (u : Value) : Rz (w.setCell p u) B z A n c xs :=
  h.keep fun q hq => World.cell?_setCell_other w p q u (fun e => by subst e; omega)
theorem Rz.step (h : Rz w w.heap.size z A n c xs) (hb : Below w.heap.size w w') : Rz w' w'.heap.size z A n c xs := (h.below hb).more hb.size
/-- s[i:j] -/
theorem Rz.cut (h : Rz w B z A n c xs) {i j : Nat} (hij : i ≤ j) (hj : j ≤ n) :
    Rz w B z (if c = i then A else A.map (·.add (i * z))) (j - i) (c - i) ((xs.take (j * z)).drop (i * z)) := by
  obtain ⟨h1, h2, h3, h4, h5, h6⟩ := h
  have hjz : j * z ≤ n * z := Nat.mul_le_mul_right z hj
  have hl : ((xs.take (j * z)).drop (i * z)).length = (j - i) * z := by
    rw [List.length_drop, List.length_take, h1, Nat.sub_mul]; omega
  by_cases hc : c = i
  · rw [if_pos hc]
    have hx : (xs.take (j * z)).drop (i * z) = [] := List.eq_nil_of_length_eq_zero (by rw [hl, show j - i = 0 from by omega]; simp)
    rw [hx]
    refine ⟨by rw [show j - i = 0 from by omega]; simp, by omega, by omega, fun hA => by have := h4 hA; omega, fun ad hA hn => by omega, fun ad k u hA hu => by simp at hu⟩
  · rw [if_neg hc]
    cases A with
    | none => have := h4 rfl; omega
    | some ad =>
      refine ⟨hl, by omega, by omega, fun hA => by simp at hA, fun ad' hA hn => ?_, fun ad' k u hA hu => ?_⟩
      · simp only [Option.map_some, Option.some.injEq] at hA
        subst hA
        rw [block_add]
        exact h5 ad rfl (by omega)
      · simp only [Option.map_some, Option.some.injEq] at hA
        subst hA
        rw [add_add]
        rw [List.getElem?_drop, List.getElem?_take] at hu
        split at hu
        · exact h6 ad _ u rfl hu
        · cases hu
theorem Oz.len (h : Oz w B e z A n c xs) : xs.length = n * z := h.1
theorem Oz.nil (w : World) (B : Nat) (e : TypeId) (z : Nat) : Oz w B e z none 0 0 [] := World.ownsRow_nil _ _ _ _
theorem Oz.rz (h : Oz w B e z A n c xs) : Rz w w.heap.size z A n c xs := by
  refine ⟨h.1, ?_⟩
  rcases h.2 with ⟨hv, h0⟩ | ⟨g, cap, cur, hv, hg, hh, hnc, hcm, hcs, ht⟩
  · injection hv with e1 e2 e3
    subst e1; subst e3
    have hx : xs = [] := List.eq_nil_of_length_eq_zero (by rw [h.1, h0]; simp)
    subst hx
    exact ⟨by omega, by simp [maxLen], (fun _ => rfl), (fun _ h => by cases h), (fun _ _ _ h => by cases h)⟩
  · injection hv with e1 e2 e3
    subst e1; subst e3
    refine ⟨hnc, hcm, (fun h => by cases h), (fun ad hA _ => ?_), (fun ad i u hA hu => ?_)⟩
    · injection hA with hA; subst hA
      exact (Array.getElem?_eq_some_iff.1 hh).1
    · injection hA with hA; subst hA
      exact World.ownsRow.cells h rfl i u hu
theorem Oz.more (h : Oz w B e z A n c xs) (hB : B' ≤ B) : Oz w B' e z A n c xs := by
  refine ⟨h.1, ?_⟩
  rcases h.2 with h' | ⟨g, cap, cur, hv, hg, r⟩
  · exact Or.inl h'
  · exact Or.inr ⟨g, cap, cur, hv, by omega, r⟩
theorem Oz.below (h : Oz w B e z A n c xs) (hb : Below w.heap.size w w') : Oz w' B e z A n c xs := by
  refine ⟨h.1, ?_⟩
  rcases h.2 with h' | ⟨g, cap, cur, hv, hg, hh, r⟩
  · exact Or.inl h'
  · exact Or.inr ⟨g, cap, cur, hv, hg, (hb.block g (Array.getElem?_eq_some_iff.1 hh).1).trans hh, r⟩
theorem Oz.step (h : Oz w B e z A n c xs) (hb : Below w.heap.size w w') : Oz w' B e z A n c xs := h.below hb
theorem Oz.alloc (h : Oz w B e z A n c xs) (o : Obj) : Oz (w.alloc o) B e z A n c xs := World.ownsRow.alloc h o
theorem Oz.drewN (h : Oz w B e z A n c xs) (k : Nat) : Oz (w.drewN k) B e z A n c xs := h
theorem Oz.at' (h : Oz w B e z A n c xs) : ∀ k, (Value.slice A n c).ownBlock = some k → B ≤ k ∧ k < w.heap.size := World.ownsRow.lt h
theorem Oz.grown {g : Nat} (h : Oz w B e z A n c xs) (hg : w.grownBy w' (some g)) (hne : ∀ k, (Value.slice A n c).ownBlock = some k → k ≠ g) : Oz w' B e z A n c xs := by
  refine World.ownsRow.kept h hg ?_
  cases e : (Value.slice A n c).ownBlock with
  | none => exact Or.inl rfl
  | some k => exact Or.inr fun e2 => hne k e (by injection e2)
theorem Oz.empty (w : World) (B : Nat) (e : TypeId) (z : Nat) (hB : B ≤ w.heap.size) : Oz (w.alloc (.cells #[] e)) B e z (some ⟨w.heap.size, 0, none⟩) 0 0 [] := World.ownsRow_made w #[] 0 hB (Nat.zero_le _) (by simp)
theorem Oz.emptyK (w : World) (k B : Nat) (e : TypeId) (z : Nat) (hk : w.heap.size = k) (hB : B ≤ k) : Oz (w.alloc (.cells #[] e)) B e z (some ⟨k, 0, none⟩) 0 0 [] := by
  subst hk; exact Oz.empty w B e z hB
/-- One element in a block of its own. -/
theorem Rz.new1 (w : World) (cs : Array Value) (e : TypeId) (z : Nat) (hs : cs.size = z) : Rz (w.alloc (.cells cs e)) (w.heap.size + 1) z (some ⟨w.heap.size, 0, none⟩) 1 1 cs.toList := by
  refine ⟨by simp [hs], Nat.le_refl _, by simp [maxLen], (fun h => by cases h), (fun ad hA _ => by injection hA with hA; subst hA; exact Nat.lt_succ_self _), fun ad i u hA hu => ?_⟩
  injection hA with hA; subst hA
  have ha : (⟨w.heap.size, 0, none⟩ : Addr).add i = ⟨w.heap.size, i, none⟩ := by
    unfold Addr.add
    by_cases hi : i = 0
    · subst hi; rfl
    · rw [if_neg hi]; simp
  rw [ha, cell_of_row _ _ i cs e (0, 0) (heap_alloc_new w _)]
  simpa using hu
end

/-- append, the base slice of the call's own (elements of z cells). -/
theorem run_appz {P : Program} (w : World) (B : Nat) (t ty e : TypeId) (i : TypeInfo) (zv : Value) (z bytes : Nat) (ht : P.underlying t = some (.slice e)) (hi : P.info? e = some i) (hz : i.zero = some zv)
    (hsize : i.size = z) (hby : i.bytes = bytes) (hzs : zv.cells.size = z) (hpos : 0 < z)
    (A : Option Addr) (n c : Nat) (xs : List Value) (hown : Oz w B e z A n c xs)
    (B2 : Nat) (A2 : Option Addr) (m c2 : Nat) (news : List Value) (hr : Rz w B2 z A2 m c2 news) (h1 : ∀ u ∈ news, u.oneCell' = true)
    (h63 : n + m ≤ maxLen) (hbytes : (n + m) * bytes ≤ 140737488355328) (hbase : B ≤ w.heap.size) :
    ∃ A' c' w', (Builtin.append_ #[t, t] ty #[.slice A n c, .slice A2 m c2]).run P w = .ok (.slice A' (n + m) c') w' ∧ Oz w' B e z A' (n + m) c' (xs ++ news) ∧ w.grownBy w' (Value.slice A n c).ownBlock ∧
      ((Value.slice A' (n + m) c').ownBlock = (Value.slice A n c).ownBlock ∨ (Value.slice A' (n + m) c').ownBlock = some w.heap.size) := by
  have shape : ∀ (v : Value) (k : Nat) (ys : List Value) (W : World), W.ownsRow B e z v k ys → ∃ A' c', v = .slice A' k c' := by
    intro v k ys W h
    rcases h.2 with ⟨rfl, rfl⟩ | ⟨g, cap, cur, rfl, _⟩
    · exact ⟨_, _, rfl⟩
    · exact ⟨_, _, rfl⟩
  cases A2 with
  | none =>
    have hc0 : c2 = 0 := hr.2.2.2.1 rfl
    have hm : m = 0 := by have := hr.2.1; omega
    subst hm
    subst hc0
    have hn : news = [] := List.eq_nil_of_length_eq_zero (by rw [hr.1]; simp)
    subst hn
    exact ⟨A, c, w, run_append_owned_none w B t ty e i z ht hi _ n xs hown, by simpa using hown, World.grownBy.refl w _, Or.inl rfl⟩
  | some a =>
    have hnews : ∀ j u, news[j]? = some u → w.cell? (a.add j) = some u := fun j u hu => hr.2.2.2.2.2 a j u rfl hu
    obtain ⟨v', w', hrun, h2, h3, _, h5⟩ := run_append_own_at (P := P) w B t ty e i zv z bytes ht hi hz hsize hby hzs hpos (.slice A n c) n xs hown a m c2 news hr.1 hnews h1 h63 hbytes hbase
    obtain ⟨A', c', rfl⟩ := shape v' _ _ _ h2
    exact ⟨A', c', w', hrun, h2, h3, h5⟩
theorem wpList_appz {P : Program} (w : World) {ops : Array Oper} {rest : List Oper} {o : Oper} {a : Act} {Q : Exit → Act → World → Prop}
    (hg : Region.wanted o (yielded ops a.tmps) = true) (s x : Operand) (t : TypeId) (hop : o.op = Op.call { callee := Callee.builtin Builtin.append, args := #[s, x], argTypes := #[t, t] })
    (B : Nat) (e : TypeId) (i : TypeInfo) (zv : Value) (z bytes : Nat) (ht : P.underlying t = some (.slice e)) (hi : P.info? e = some i) (hz : i.zero = some zv)
    (hsize : i.size = z) (hby : i.bytes = bytes) (hzs : zv.cells.size = z) (hpos : 0 < z)
    (A : Option Addr) (n c : Nat) (xs : List Value) (hs : a.eval s = .slice A n c) (hown : Oz w B e z A n c xs)
    (B2 : Nat) (A2 : Option Addr) (m c2 : Nat) (news : List Value) (hx : a.eval x = .slice A2 m c2) (hr : Rz w B2 z A2 m c2 news) (h1 : ∀ u ∈ news, u.oneCell' = true)
    (h63 : n + m ≤ maxLen) (hbytes : (n + m) * bytes ≤ 140737488355328) (hbase : B ≤ w.heap.size)
    (hK : ∀ A' c' w', Oz w' B e z A' (n + m) c' (xs ++ news) → Below B w w' → wpList P ops Q rest (a.put o.dst (.slice A' (n + m) c')) w') :
    wpList P ops Q (o :: rest) a w := by
  refine wpList_want hg fun K hK' => ?_
  obtain ⟨A', c', w', hrun, r1, r2, r3⟩ := run_appz (P := P) w B t o.type e i zv z bytes ht hi hz hsize hby hzs hpos A n c xs hown B2 A2 m c2 news hr h1 h63 hbytes hbase
  unfold Oper.wp
  simp [execOp, hop, resolve, invoke, builtin, hs, hx, hrun, Result.andThen]
  refine hK' _ _ (hK A' c' w' r1 ?_)
  exact (Below.refl B w).grown r2 hbase fun k hk => (World.ownsRow.lt hown k hk).1
theorem step_appz {P : Program} (w : World) {ops : Array Oper} {o : Oper} {a : Act} {K : Act → World → Prop} {Q : Exit → Act → World → Prop} {E : Prop}
    (hg : Region.wanted o (yielded ops a.tmps) = true) (s x : Operand) (t : TypeId) (hop : o.op = Op.call { callee := Callee.builtin Builtin.append, args := #[s, x], argTypes := #[t, t] })
    (B : Nat) (e : TypeId) (i : TypeInfo) (zv : Value) (z bytes : Nat) (ht : P.underlying t = some (.slice e)) (hi : P.info? e = some i) (hz : i.zero = some zv)
    (hsize : i.size = z) (hby : i.bytes = bytes) (hzs : zv.cells.size = z) (hpos : 0 < z)
    (A : Option Addr) (n c : Nat) (xs : List Value) (hs : a.eval s = .slice A n c) (hown : Oz w B e z A n c xs)
    (B2 : Nat) (A2 : Option Addr) (m c2 : Nat) (news : List Value) (hx : a.eval x = .slice A2 m c2) (hr : Rz w B2 z A2 m c2 news) (h1 : ∀ u ∈ news, u.oneCell' = true)
    (h63 : n + m ≤ maxLen) (hbytes : (n + m) * bytes ≤ 140737488355328) (hbase : B ≤ w.heap.size)
    (hK : ∀ A' c' w', Oz w' B e z A' (n + m) c' (xs ++ news) → Below B w w' → K (a.put o.dst (.slice A' (n + m) c')) w') :
    if Region.wanted o (yielded ops a.tmps) = true then Oper.wp P o a w K Q else E := by
  rw [if_pos hg]
  obtain ⟨A', c', w', hrun, r1, r2, r3⟩ := run_appz (P := P) w B t o.type e i zv z bytes ht hi hz hsize hby hzs hpos A n c xs hown B2 A2 m c2 news hr h1 h63 hbytes hbase
  unfold Oper.wp
  simp [execOp, hop, resolve, invoke, builtin, hs, hx, hrun, Result.andThen]
  refine hK A' c' w' r1 ?_
  exact (Below.refl B w).grown r2 hbase fun k hk => (World.ownsRow.lt hown k hk).1

/-- A whole value of several cells, loaded from wherever it lies. -/
theorem run_ldz {P : Program} (w : World) (p : Addr) (ty : TypeId) (cs : List Value) (d : TypeDesc) (hc : ∀ j v, cs[j]? = some v → w.cell? (p.add j) = some v)
    (hu : P.underlying ty = some d) (hd : (match d with | .struct _ | .array _ _ => true | _ => false) = true) (hi : (P.info? ty).map (·.size) = some cs.length) :
    (loadVar ty p).run P w = .ok (.agg cs.toArray) w := by
  have hl := run_loadCells_list (P := P) w p cs hc
  cases hq : P.info? ty with
  | none => simp [hq] at hi
  | some i =>
    have hs : i.size = cs.length := by simpa [hq] using hi
    have hagg : (isAgg ty).run P w = .ok true w := by
      unfold isAgg
      rw [Sem.run_bind, run_underlying hu w]
      cases d <;> simp_all
    simp [loadVar, Sem.run_bind, hagg, sizeOf, typeInfo, hq, hs, hl]
theorem wp_loadz {P : Program} {o : Oper} {a : Act} {w : World} {K : Act → World → Prop} {Q : Exit → Act → World → Prop} (ty : TypeId) (x : Operand) (ho : o.op = .load ty x)
    (p : Addr) (hx : a.eval x = .pointer (some p)) (cs : List Value) (d : TypeDesc) (hc : ∀ j v, cs[j]? = some v → w.cell? (p.add j) = some v)
    (hu : P.underlying ty = some d) (hd : (match d with | .struct _ | .array _ _ => true | _ => false) = true) (hi : (P.info? ty).map (·.size) = some cs.length)
    (h : K (a.put o.dst (.agg cs.toArray)) w) : o.wp P a w K Q := by
  unfold Oper.wp execOp
  simp only [ho, hx, Instr.loadAt, Instr.sureAddr, Sem.run_bind, Sem.run_pure, Result.andThen_ok, run_ldz w p ty cs d hc hu hd hi]
  exact h
theorem wpList_loadz {P : Program} {ops : Array Oper} {rest : List Oper} {o : Oper} {a : Act} {w : World} {Q : Exit → Act → World → Prop} (hgd : o.guard = none) (ty : TypeId) (x : Operand) (ho : o.op = .load ty x)
    (p : Addr) (hx : a.eval x = .pointer (some p)) (cs : List Value) (d : TypeDesc) (hc : ∀ j v, cs[j]? = some v → w.cell? (p.add j) = some v)
    (hu : P.underlying ty = some d) (hd : (match d with | .struct _ | .array _ _ => true | _ => false) = true) (hi : (P.info? ty).map (·.size) = some cs.length)
    (h : wpList P ops Q rest (a.put o.dst (.agg cs.toArray)) w) : wpList P ops Q (o :: rest) a w :=
  wpList_plain hgd fun _ hK => wp_loadz ty x ho p hx cs d hc hu hd hi (hK _ _ h)

/-- A slice literal of one element of several cells. -/
theorem fill_one {z : Nat} (hz : 0 < z) (v : Value) (hv : v.cells.size = z) (f : Nat → Value) : Instr.fill (fun i => some (i * z, z)) ((Array.range (1 * z)).map f) [(0, v)] = some v.cells := by
  have h := Great.fill_whole hz [v] ((Array.range (1 * z)).map f) (fun u hu => by simp at hu; subst hu; exact hv) (by simp)
  simpa using h
theorem wpList_bs1 {P : Program} {ops : Array Oper} {rest : List Oper} {o : Oper} {a : Act} {w : World} {Q : Exit → Act → World → Prop} (hg : o.guard = none) (t : TypeId) (x : Operand) (ho : o.op = .buildSlice t 1 #[(0, x)])
    (e : TypeId) (ie : TypeInfo) (zv v : Value) (z : Nat) (hx : a.eval x = v) (hu : P.underlying t = some (.slice e)) (hie : P.info? e = some ie) (hz : ie.zero = some zv) (hsize : ie.size = z) (hv : v.cells.size = z) (hpos : 0 < z) (hsm : z ≤ 2 ^ 24)
    (h : wpList P ops Q rest (a.put o.dst (.slice (some ⟨w.heap.size, 0, none⟩) 1 1)) (w.alloc (.cells v.cells e))) : wpList P ops Q (o :: rest) a w := by
  refine wpList_buildSlice hg t e 1 _ ho v.cells ie zv hu hie hz (by rw [hsize]; omega) (by rw [hsize]; omega) ?_ h
  rw [hsize]
  have e1 : (#[(0, x)].map fun (x : Nat × Operand) => (x.1, a.eval x.2)).toList = [(0, v)] := by simp [hx]
  rw [e1]
  exact fill_one hpos v hv _

/-- Lists of rows of z things each. -/
theorem flat_len {α : Type} (z : Nat) : ∀ (L : List (List α)), (∀ x ∈ L, x.length = z) → L.flatten.length = L.length * z
  | [], _ => by simp
  | x :: L, h => by
    rw [List.flatten_cons, List.length_append, flat_len z L (fun y hy => h y (List.mem_cons_of_mem _ hy)), h x (List.mem_cons_self), List.length_cons, Nat.add_mul, Nat.one_mul, Nat.add_comm]
theorem flat_drop {α : Type} (z : Nat) : ∀ (i : Nat) (L : List (List α)), (∀ x ∈ L, x.length = z) → L.flatten.drop (i * z) = (L.drop i).flatten
  | 0, L, _ => by simp
  | i + 1, [], _ => by simp
  | i + 1, x :: L, h => by
    rw [List.flatten_cons, List.drop_succ_cons, ← flat_drop z i L (fun y hy => h y (List.mem_cons_of_mem _ hy)), List.drop_append, h x (List.mem_cons_self), List.drop_of_length_le (by rw [h x (List.mem_cons_self), Nat.add_mul]; omega), Nat.add_mul, Nat.one_mul, Nat.add_sub_cancel, List.nil_append]
theorem flat_take {α : Type} (z : Nat) : ∀ (i : Nat) (L : List (List α)), (∀ x ∈ L, x.length = z) → L.flatten.take (i * z) = (L.take i).flatten
  | 0, L, _ => by simp
  | i + 1, [], _ => by simp
  | i + 1, x :: L, h => by
    rw [List.flatten_cons, List.take_succ_cons, List.flatten_cons, ← flat_take z i L (fun y hy => h y (List.mem_cons_of_mem _ hy)), List.take_append, h x (List.mem_cons_self), List.take_of_length_le (by rw [h x (List.mem_cons_self), Nat.add_mul]; omega), Nat.add_mul, Nat.one_mul, Nat.add_sub_cancel]
theorem flat_elem {α : Type} (z : Nat) (L : List (List α)) (h : ∀ x ∈ L, x.length = z) {i : Nat} {x : List α} (hx : L[i]? = some x) : (L.flatten.drop (i * z)).take z = x := by
  have hi := (List.getElem?_eq_some_iff.1 hx).1
  have hxx := (List.getElem?_eq_some_iff.1 hx).2
  rw [flat_drop z i L h, List.drop_eq_getElem_cons hi, hxx, List.flatten_cons, List.take_append, h x (List.mem_of_getElem? hx), List.take_of_length_le (by rw [h x (List.mem_of_getElem? hx)]; omega)]
  simp
end
section
open Go.RowKit

theorem eq0 {x : Nat} {c : Int} (h : (x : Int) = c) : ((x : Int) == c) = true := by rw [beq_iff_eq]; exact h
theorem ne0 {x : Nat} {c : Int} (h : (x : Int) ≠ c) : ((x : Int) == c) = false := by rw [beq_eq_false_iff_ne]; exact h
theorem eqI {x c : Int} (h : x = c) : (x == c) = true := by rw [beq_iff_eq]; exact h
theorem neI {x c : Int} (h : x ≠ c) : (x == c) = false := by rw [beq_eq_false_iff_ne]; exact h

theorem ret_bool {a b : Bool} (h : a = b) : Ending.returned (.bool a) = .returned (.bool b) := by rw [h]
theorem ret_int {k : IntKind} {a b : Int} (h : a = b) : Ending.returned (.int k a) = .returned (.int k b) := by rw [h]

/-- May a record be, of such a head, whose key and value have so many bytes? -/
def rightR (kind : Int) (fl ex sq k v : Nat) : Bool :=
  decide (sq ≠ 0 ∧ 1 ≤ k ∧ k ≤ 250 ∧ v ≤ 512 ∧ (kind = 1 ∨ kind = 2 ∧ fl = 0 ∧ ex = 0 ∧ v = 0))

/-- A record's cells. -/
def recV (kind : Int) (fl ex sq : Nat) (K V : Value) : Value := .agg #[.int .i64 kind, .int .u32 (fl : Int), .int .u32 (ex : Int), .int .u64 (sq : Int), K, V]

set_option maxHeartbeats 1000000 in
theorem right_any (kind : Int) (fl ex sq k v : Nat) (AK AV : Option Addr) (nk ck nv cv : Nat) (w : World) :
    Calls Try.prog 21 #[recV kind fl ex sq (.slice AK nk ck) (.slice AV nv cv), .int .i64 k, .int .i64 v] w fun e w' => e = .returned (.bool (rightR kind fl ex sq k v)) ∧ Below w.heap.size w w' := by
  unfold recV
  by_cases h1 : sq = 0
  · have b1 := eq0 (x := sq) (c := 0) (by omega)
    have hr : rightR kind fl ex sq k v = false := by unfold rightR; exact decide_eq_false (by omega)
    rw [hr]
    go_enter Try.func21, Try.ntmps21
    go_wp2
    go_ret
    exact ⟨rfl, (Below.refl _ _).alloc (Nat.le_refl _) _⟩
  have b1 := ne0 (x := sq) (c := 0) (by omega)
  by_cases h2 : k < 1
  · have hr : rightR kind fl ex sq k v = false := by unfold rightR; exact decide_eq_false (by omega)
    rw [hr]
    go_enter Try.func21, Try.ntmps21
    go_wp2
    go_ret
    exact ⟨rfl, (Below.refl _ _).alloc (Nat.le_refl _) _⟩
  by_cases h3 : 250 < k
  · have hr : rightR kind fl ex sq k v = false := by unfold rightR; exact decide_eq_false (by omega)
    rw [hr]
    go_enter Try.func21, Try.ntmps21
    go_wp2
    go_ret
    exact ⟨rfl, (Below.refl _ _).alloc (Nat.le_refl _) _⟩
  by_cases h4 : 512 < v
  · have hr : rightR kind fl ex sq k v = false := by unfold rightR; exact decide_eq_false (by omega)
    rw [hr]
    go_enter Try.func21, Try.ntmps21
    go_wp2
    go_ret
    exact ⟨rfl, (Below.refl _ _).alloc (Nat.le_refl _) _⟩
  by_cases h5 : kind = 1
  · have hr : rightR kind fl ex sq k v = true := by unfold rightR; exact decide_eq_true (by omega)
    rw [hr]
    subst h5
    go_enter Try.func21, Try.ntmps21
    go_wp2
    go_ret
    exact ⟨rfl, (Below.refl _ _).alloc (Nat.le_refl _) _⟩
  have b5 := neI h5
  by_cases h6 : kind ≠ 2
  · have hr : rightR kind fl ex sq k v = false := by unfold rightR; exact decide_eq_false (by omega)
    rw [hr]
    have b6 := neI h6
    go_enter Try.func21, Try.ntmps21
    go_wp2
    go_ret
    exact ⟨rfl, (Below.refl _ _).alloc (Nat.le_refl _) _⟩
  have h6 : kind = 2 := by omega
  subst h6
  by_cases h7 : fl ≠ 0
  · have hr : rightR 2 fl ex sq k v = false := by unfold rightR; exact decide_eq_false (by omega)
    rw [hr]
    have b7 := ne0 (x := fl) (c := 0) (by omega)
    go_enter Try.func21, Try.ntmps21
    go_wp2
    go_ret
    exact ⟨rfl, (Below.refl _ _).alloc (Nat.le_refl _) _⟩
  have b7 := eq0 (x := fl) (c := 0) (by omega)
  by_cases h8 : ex ≠ 0
  · have hr : rightR 2 fl ex sq k v = false := by unfold rightR; exact decide_eq_false (by omega)
    rw [hr]
    have b8 := ne0 (x := ex) (c := 0) (by omega)
    go_enter Try.func21, Try.ntmps21
    go_wp2
    go_ret
    exact ⟨rfl, (Below.refl _ _).alloc (Nat.le_refl _) _⟩
  have b8 := eq0 (x := ex) (c := 0) (by omega)
  by_cases h9 : v ≠ 0
  · have hr : rightR 2 fl ex sq k v = false := by unfold rightR; exact decide_eq_false (by omega)
    rw [hr]
    have b9 := ne0 (x := v) (c := 0) (by omega)
    go_enter Try.func21, Try.ntmps21
    go_wp2
    go_ret
    exact ⟨rfl, (Below.refl _ _).alloc (Nat.le_refl _) _⟩
  have b9 := eq0 (x := v) (c := 0) (by omega)
  have hr : rightR 2 fl ex sq k v = true := by unfold rightR; exact decide_eq_true (by omega)
  rw [hr]
  go_enter Try.func21, Try.ntmps21
  go_wp2
  go_ret
  exact ⟨rfl, (Below.refl _ _).alloc (Nat.le_refl _) _⟩

/-- What Check answers. -/
def checkR (kind : Int) (fl ex sq k v : Nat) : Int := if rightR kind fl ex sq k v then 0 else 160
set_option maxHeartbeats 1000000 in
theorem check_any (kind : Int) (fl ex sq : Nat) (AK AV : Option Addr) (nk ck nv cv : Nat) (w : World) :
    Calls Try.prog 20 #[recV kind fl ex sq (.slice AK nk ck) (.slice AV nv cv)] w fun e w' => e = .returned (.int .i64 (checkR kind fl ex sq nk nv)) ∧ Below w.heap.size w w' := by
  have hc := right_any kind fl ex sq nk nv AK AV nk ck nv cv
  unfold recV at hc
  unfold recV
  go_enter Try.func20, Try.ntmps20
  go_wp2_with fail
  refine (hc _).mono ?_
  rintro e w1 ⟨rfl, b1⟩
  have b := ((Below.refl w.heap.size w).alloc (Nat.le_refl _) _).trans (b1.mono (by simp))
  clear hc b1
  cases hr : rightR kind fl ex sq nk nv
  · have HF := Lib.hid (show checkR kind fl ex sq nk nv = 160 from by unfold checkR; rw [hr]; rfl)
    clear hr
    go_wp2_with fail
    go_ret
    exact ⟨by rw [HF.out]; rfl, b⟩
  · have HF := Lib.hid (show checkR kind fl ex sq nk nv = 0 from by unfold checkR; rw [hr]; rfl)
    clear hr
    go_wp2_with fail
    go_ret
    exact ⟨by rw [HF.out]; rfl, b⟩

/-- How many bytes a record has. -/
def sizeR (kind : Int) (fl ex sq k v : Nat) : Nat := if rightR kind fl ex sq k v then 21 + k + v else 0
set_option maxHeartbeats 1000000 in
theorem size_any (kind : Int) (fl ex sq : Nat) (AK AV : Option Addr) (nk ck nv cv : Nat) (w : World) :
    Calls Try.prog 19 #[recV kind fl ex sq (.slice AK nk ck) (.slice AV nv cv)] w fun e w' => e = .returned (.int .i64 (sizeR kind fl ex sq nk nv : Nat)) ∧ Below w.heap.size w w' := by
  have hc := check_any kind fl ex sq AK AV nk ck nv cv
  unfold recV at hc
  unfold recV
  go_enter Try.func19, Try.ntmps19
  go_wp2_with fail
  refine (hc _).mono ?_
  rintro e w1 ⟨rfl, b1⟩
  have c4 : w1.cell? ⟨w.heap.size, 4, none⟩ = some (.slice AK nk ck) := by rw [b1.cell (by simp)]; go_simp
  have c5 : w1.cell? ⟨w.heap.size, 5, none⟩ = some (.slice AV nv cv) := by rw [b1.cell (by simp)]; go_simp
  have b := ((Below.refl w.heap.size w).alloc (Nat.le_refl _) _).trans (b1.mono (by simp))
  clear hc b1
  cases hr : rightR kind fl ex sq nk nv
  · have HF := Lib.hid (show sizeR kind fl ex sq nk nv = 0 from by unfold sizeR; rw [hr]; rfl)
    rw [show checkR kind fl ex sq nk nv = 160 from by unfold checkR; rw [hr]; rfl]
    clear hr
    go_wp2_with fail
    go_ret
    exact ⟨by rw [HF.out]; rfl, b⟩
  · have hb : nk ≤ 250 ∧ nv ≤ 512 := by unfold rightR at hr; have := of_decide_eq_true hr; omega
    obtain ⟨hb1, hb2⟩ := hb
    have HF := Lib.hid (show sizeR kind fl ex sq nk nv = 21 + nk + nv from by unfold sizeR; rw [hr]; rfl)
    rw [show checkR kind fl ex sq nk nv = 0 from by unfold checkR; rw [hr]; rfl]
    clear hr
    go_wp2_with fail
    go_ret
    exact ⟨by rw [HF.out]; simp, b⟩

def secR (kind : Int) (fl ex sq k v : Nat) : Nat := (sizeR kind fl ex sq k v + 47) / 48
theorem sizeR_le (kind : Int) (fl ex sq k v : Nat) : sizeR kind fl ex sq k v ≤ 783 := by
  unfold sizeR
  split
  · rename_i h; unfold rightR at h; have := of_decide_eq_true h; omega
  · omega
set_option maxHeartbeats 1000000 in
theorem sectors_any (kind : Int) (fl ex sq : Nat) (AK AV : Option Addr) (nk ck nv cv : Nat) (w : World) :
    Calls Try.prog 16 #[recV kind fl ex sq (.slice AK nk ck) (.slice AV nv cv)] w fun e w' => e = .returned (.int .i64 (secR kind fl ex sq nk nv : Nat)) ∧ Below w.heap.size w w' := by
  have hc := size_any kind fl ex sq AK AV nk ck nv cv
  have hs := sizeR_le kind fl ex sq nk nv
  unfold recV at hc
  unfold recV
  go_enter Try.func16, Try.ntmps16
  go_wp2_with fail
  refine (hc _).mono ?_
  rintro e w1 ⟨rfl, b1⟩
  have b := ((Below.refl w.heap.size w).alloc (Nat.le_refl _) _).trans (b1.mono (by simp))
  clear hc b1
  have HF := Lib.hid (show secR kind fl ex sq nk nv = (sizeR kind fl ex sq nk nv + 47) / 48 from rfl)
  generalize sizeR kind fl ex sq nk nv = n at hs HF ⊢
  go_wp2_with fail
  go_ret
  refine ⟨?_, b⟩
  rw [HF.out]
  simp
  omega


/-- An item's cells. -/
def itmV (K V : Value) (fl ex sq : Nat) (d : Bool) : Value := .agg #[K, V, .int .u32 (fl : Int), .int .u32 (ex : Int), .int .u64 (sq : Int), .bool d]
/-- May an item be? -/
def rightI (sq k v : Nat) : Bool := decide (1 ≤ k ∧ k ≤ 250 ∧ v ≤ 512 ∧ 0 < sq)
theorem rightI_R (fl ex sq k v : Nat) : rightR 1 fl ex sq k v = rightI sq k v := by
  unfold rightR rightI
  rw [decide_eq_decide]; omega
/-- An item's charge. -/
def chI (k v : Nat) : Nat := (21 + k + v + 47) / 48
theorem secR_I {fl ex sq k v : Nat} : secR 1 fl ex sq k v = if rightI sq k v then chI k v else 0 := by
  unfold secR sizeR
  rw [rightI_R]
  unfold chI
  cases rightI sq k v <;> simp

/-- What Charge answers. -/
def chV (sq k v : Nat) : Value := if rightI sq k v then .tuple #[.int .i64 (chI k v : Nat), .int .i64 0] else .tuple #[.int .i64 0, .int .i64 230]
theorem chV_yes {sq k v : Nat} (h : rightI sq k v = true) : chV sq k v = .tuple #[.int .i64 (chI k v : Nat), .int .i64 0] := by unfold chV; rw [if_pos h]
theorem chV_no {sq k v : Nat} (h : rightI sq k v = false) : chV sq k v = .tuple #[.int .i64 0, .int .i64 230] := by unfold chV; rw [h]; rfl
set_option maxHeartbeats 1000000 in
theorem charge_any (AK AV : Option Addr) (nk ck nv cv fl ex sq : Nat) (d : Bool) (w : World) :
    Calls Try.prog 8 #[itmV (.slice AK nk ck) (.slice AV nv cv) fl ex sq d] w fun e w' =>
      e = .returned (chV sq nk nv) ∧ Below w.heap.size w w' := by
  have hc := sectors_any 1 fl ex sq AK AV nk ck nv cv
  unfold recV at hc
  unfold itmV
  go_enter Try.func8, Try.ntmps8
  go_wp2_with fail
  refine (hc _).mono ?_
  rintro e w1 ⟨rfl, b1⟩
  have b := ((Below.refl w.heap.size w).alloc (Nat.le_refl _) _).trans (b1.mono (by simp))
  clear hc b1
  rw [secR_I]
  cases hr : rightI sq nk nv
  · have HF := Lib.hid hr
    simp only [Bool.false_eq_true, if_false]
    clear hr
    go_wp2_with fail
    go_ret2
    exact ⟨by rw [chV_no HF.out]; rfl, b⟩
  · simp only [if_true]
    have hb : 1 ≤ nk := by unfold rightI at hr; have := of_decide_eq_true hr; omega
    have hn : ((chI nk nv : Nat) : Int) ≠ 0 := by unfold chI; omega
    have hn0 := ne0 hn
    have HF := Lib.hid hr
    clear hr hn hb
    generalize hq : chI nk nv = n at hn0 ⊢
    have HQ := Lib.hid hq
    clear hq
    go_wp2_with fail
    go_ret2
    exact ⟨by rw [chV_yes HF.out, HQ.out]; rfl, b⟩

set_option maxHeartbeats 1000000 in
theorem right13_any (AK AV : Option Addr) (nk ck nv cv fl ex sq : Nat) (d : Bool) (w : World) :
    Calls Try.prog 12 #[itmV (.slice AK nk ck) (.slice AV nv cv) fl ex sq d] w fun e w' => e = .returned (.bool (rightI sq nk nv)) ∧ Below w.heap.size w w' := by
  unfold itmV
  by_cases h1 : nk < 1
  · have hr : rightI sq nk nv = false := by unfold rightI; exact decide_eq_false (by omega)
    rw [hr]
    go_enter Try.func12, Try.ntmps12
    go_wp2
    go_ret
    exact ⟨rfl, (Below.refl _ _).alloc (Nat.le_refl _) _⟩
  by_cases h2 : 250 < nk
  · have hr : rightI sq nk nv = false := by unfold rightI; exact decide_eq_false (by omega)
    rw [hr]
    go_enter Try.func12, Try.ntmps12
    go_wp2
    go_ret
    exact ⟨rfl, (Below.refl _ _).alloc (Nat.le_refl _) _⟩
  by_cases h3 : 512 < nv
  · have hr : rightI sq nk nv = false := by unfold rightI; exact decide_eq_false (by omega)
    rw [hr]
    go_enter Try.func12, Try.ntmps12
    go_wp2
    go_ret
    exact ⟨rfl, (Below.refl _ _).alloc (Nat.le_refl _) _⟩
  have hr : rightI sq nk nv = decide (0 < sq) := by unfold rightI; rw [decide_eq_decide]; omega
  rw [hr]
  go_enter Try.func12, Try.ntmps12
  go_wp2
  go_ret
  exact ⟨rfl, (Below.refl _ _).alloc (Nat.le_refl _) _⟩

set_option maxHeartbeats 1000000 in
theorem charge25_any (AK AV : Option Addr) (nk ck nv cv fl ex sq : Nat) (d : Bool) (w : World) (hk : nk ≤ 10000) (hv : nv ≤ 10000) :
    Calls Try.prog 14 #[itmV (.slice AK nk ck) (.slice AV nv cv) fl ex sq d] w fun e w' => e = .returned (.int .i64 (chI nk nv : Nat)) ∧ Below w.heap.size w w' := by
  unfold itmV
  go_enter Try.func14, Try.ntmps14
  go_wp2
  go_loop [4] (fun i => ∃ k : Nat, 1 ≤ k ∧ k ≤ chI nk nv ∧ i = .int .i64 k) (fun i => chI nk nv - (intOf i).toNat)
  case atStart => exact ⟨1, Nat.le_refl _, by unfold chI; omega, rfl⟩
  case round =>
    obtain ⟨k, h1, h2, rfl⟩ := hrel
    have hc : chI nk nv ≤ 1000 := by unfold chI; omega
    by_cases hlt : 48 * k < 21 + nk + nv
    · have h3 : k + 1 ≤ chI nk nv := by unfold chI; omega
      go_wp2
      go_round
      case rel => exact ⟨k + 1, by omega, h3, by go_num⟩
      case measure => simp [intOf]; omega
    · have h3 : chI nk nv = k := by unfold chI at h2 ⊢; omega
      have hk1 : k ≤ 1000 := by omega
      have H3 := Lib.hid h3
      clear h3 h2 hc
      go_wp2
      go_ret
      exact ⟨by rw [H3.out]; rfl, (Below.refl _ _).alloc (Nat.le_refl _) _⟩

/-- May there be so many segments and sectors? -/
def sizedB (s n : Int) : Bool := decide (4 ≤ s ∧ s ≤ 16 ∧ 24 ≤ n ∧ n ≤ 64)
set_option maxHeartbeats 1000000 in
theorem sized_any (s n : Int) (w : World) :
    Calls Try.prog 18 #[.int .i64 s, .int .i64 n] w fun e w' => e = .returned (.bool (sizedB s n)) ∧ w = w' := by
  by_cases h1 : s < 4
  · rw [show sizedB s n = false from decide_eq_false (by omega)]
    go_enter Try.func18, Try.ntmps18
    go_wp2
    go_ret
    exact ⟨rfl, rfl⟩
  by_cases h2 : 16 < s
  · rw [show sizedB s n = false from decide_eq_false (by omega)]
    go_enter Try.func18, Try.ntmps18
    go_wp2
    go_ret
    exact ⟨rfl, rfl⟩
  by_cases h3 : n < 24
  · rw [show sizedB s n = false from decide_eq_false (by omega)]
    go_enter Try.func18, Try.ntmps18
    go_wp2
    go_ret
    exact ⟨rfl, rfl⟩
  rw [show sizedB s n = decide (n ≤ 64) from by unfold sizedB; rw [decide_eq_decide]; omega]
  go_enter Try.func18, Try.ntmps18
  go_wp2
  go_ret
  exact ⟨rfl, rfl⟩

theorem seginfo : (Try.prog.info? 76).map (fun i => (i.zero, i.size, i.bytes)) = some (some (.agg #[.int .i64 0, .int .u64 0, .int .i64 0]), 3, 24) := by kernel_rfl

/-- make([]api.Seg, m) -/
theorem wpList_mkseg (w : World) {ops : Array Oper} {rest : List Oper} {o : Oper} {a : Act} {Q : Exit → Act → World → Prop}
    (hg : o.guard = none) (l c : Operand) (hop : o.op = Op.makeSlice 48 l c) (B m : Nat)
    (hl : a.eval l = .int .i64 (m : Int)) (hc : a.eval c = .int .i64 (m : Int)) (hm : m ≤ 1000) (hB : B ≤ w.heap.size)
    (hK : ∀ w', Below B w w' → wpList Try.prog ops Q rest (a.put o.dst (.slice (some ⟨w.heap.size, 0, none⟩) m m)) w') :
    wpList Try.prog ops Q (o :: rest) a w := by
  obtain ⟨i0, hi0, hz0, hz1, hz2⟩ := info_parts seginfo
  refine wpList_make_full w hg l c _ hop B 76 i0 _ 3 Try.underlying48 hi0 hz0 hz1 .i64 .i64 _ _ m hl hc rfl rfl (by rw [hz2]; omega) (by unfold maxLen; omega) hB ?_
  intro w' h1 h2
  exact hK w' (below_of_grown0 h2 hB)

/-- New's answer's error. -/
def newE (s n : Int) : Int := if sizedB s n then 0 else 2
theorem newE_yes {s n : Int} (h : sizedB s n = true) : newE s n = 0 := by unfold newE; rw [if_pos h]
theorem newE_no {s n : Int} (h : sizedB s n = false) : newE s n = 2 := by unfold newE; rw [h]; rfl
def NewQ (s n : Int) (w : World) (e : Ending) (w' : World) : Prop := ∃ (x : Int) (A : Option Addr) (m c : Nat), e = .returned (.tuple #[.agg #[.int .i64 x, .slice A m c], .int .i64 (newE s n)]) ∧ Below w.heap.size w w'
set_option maxHeartbeats 1000000 in
theorem new_any (s n : Int) (w : World) :
    Calls Try.prog 15 #[.int .i64 s, .int .i64 n] w (NewQ s n w) := by
  go_enter Try.func15, Try.ntmps15
  go_wp2_with fail
  refine (sized_any s n _).mono ?_
  rintro e w1 ⟨rfl, hq⟩
  subst hq
  cases hr : sizedB s n
  · have HR := Lib.hid hr
    clear hr
    go_wp2_with fail
    refine bodyPost_ret (v := .tuple #[.agg #[.int .i64 0, .slice none 0 0], .int .i64 2]) (by simp [results, Try.results15, go_sem]) rfl ?_
    exact ⟨0, none, 0, 0, by rw [newE_no HR.out], (Below.refl _ _).alloc (Nat.le_refl _) _⟩
  · have hs : 4 ≤ s ∧ s ≤ 16 := by have := of_decide_eq_true hr; omega
    obtain ⟨m, rfl⟩ := Int.eq_ofNat_of_zero_le (show 0 ≤ s by omega)
    have HR := Lib.hid hr
    clear hr
    go_wp2_with (at_make; refine wpList_mkseg _ rfl _ _ rfl (w.heap.size + 1) m rfl rfl (by omega) (by simp) ?_)
    intro w2 b2
    have d0 : w2.cell? ⟨w.heap.size, 0, none⟩ = some (.int .i64 0) := by rw [b2.cell (by simp)]; go_simp
    have d1 : w2.cell? ⟨w.heap.size, 1, none⟩ = some (.slice none 0 0) := by rw [b2.cell (by simp)]; go_simp
    have f0 : w2.frozen? ⟨w.heap.size, 0, none⟩ = false := by rw [b2.frozen (by simp)]; go_simp
    have f1 : w2.frozen? ⟨w.heap.size, 1, none⟩ = false := by rw [b2.frozen (by simp)]; go_simp
    have b := ((Below.refl w.heap.size w).alloc (Nat.le_refl _) _).trans (b2.mono (by simp))
    clear b2
    go_wp2_with fail
    refine bodyPost_ret (v := .tuple #[.agg #[.int .i64 n, .slice (some ⟨w.heap.size + 1, 0, none⟩) m m], .int .i64 0]) (by simp [results, Try.results15, go_sem, d0, d1]) rfl ?_
    exact ⟨n, _, m, m, by rw [newE_yes HR.out], (b.setCell (Nat.le_refl _) _).setCell (Nat.le_refl _) _⟩

/-- What Bound answers. -/
def bndV (s n : Int) : Value := if sizedB s n then .tuple #[.int .i64 ((s - 4) * (n - 17)), .int .i64 0] else .tuple #[.int .i64 0, .int .i64 2]
theorem bndV_yes {s n : Int} (h : sizedB s n = true) : bndV s n = .tuple #[.int .i64 ((s - 4) * (n - 17)), .int .i64 0] := by unfold bndV; rw [if_pos h]
theorem bndV_no {s n : Int} (h : sizedB s n = false) : bndV s n = .tuple #[.int .i64 0, .int .i64 2] := by unfold bndV; rw [h]; rfl
theorem mul_bnd {s n : Int} (h : 4 ≤ s ∧ s ≤ 16 ∧ 24 ≤ n ∧ n ≤ 64) : 0 ≤ (s - 4) * (n - 17) ∧ (s - 4) * (n - 17) ≤ 564 := by
  refine ⟨Int.mul_nonneg (by omega) (by omega), ?_⟩
  calc (s - 4) * (n - 17) ≤ 12 * (n - 17) := Int.mul_le_mul_of_nonneg_right (by omega) (by omega)
    _ ≤ 12 * 47 := Int.mul_le_mul_of_nonneg_left (by omega) (by omega)
    _ = 564 := by decide
set_option maxHeartbeats 1000000 in
theorem bound_any (s n : Int) (w : World) :
    Calls Try.prog 7 #[.int .i64 s, .int .i64 n] w fun e w' => e = .returned (bndV s n) ∧ Below w.heap.size w w' := by
  cases hr : sizedB s n
  · have HR := Lib.hid hr
    clear hr
    go_enter Try.func7, Try.ntmps7
    go_wp2_with fail
    refine (new_any s n _).mono ?_
    rintro e w1 ⟨x, A, m, c, rfl, b1⟩
    rw [newE_no HR.out]
    go_wp2_with fail
    go_ret2
    exact ⟨by rw [bndV_no HR.out]; rfl, b1.alloc b1.size _⟩
  · have hs : 4 ≤ s ∧ s ≤ 16 ∧ 24 ≤ n ∧ n ≤ 64 := of_decide_eq_true hr
    have hm := mul_bnd hs
    obtain ⟨g1, g2, g3, g4⟩ := hs
    obtain ⟨g5, g6⟩ := hm
    have HR := Lib.hid hr
    clear hr
    go_enter Try.func7, Try.ntmps7
    go_wp2_with fail
    refine (new_any s n _).mono ?_
    rintro e w1 ⟨x, A, m, c, rfl, b1⟩
    rw [newE_yes HR.out]
    go_wp2_with fail
    go_ret2
    refine ⟨?_, b1.alloc b1.size _⟩
    rw [bndV_yes HR.out]
    rfl

/-- Into how many segments: n so far, left in the last. -/
def packB (S : Int) : List Int → Int → Int → Int
  | [], n, _ => n
  | k :: l, n, left => if k > left then packB S l (n + 1) (S - 1 - k) else packB S l n (left - k)
theorem packB_cons (S k n left : Int) (l : List Int) : packB S (k :: l) n left = if k > left then packB S l (n + 1) (S - 1 - k) else packB S l n (left - k) := rfl
def intC (l : List Int) : List Value := l.map (Value.int .i64)

set_option maxHeartbeats 1000000 in
theorem pack_any (A : Option Addr) (m c B : Nat) (S : Int) (l : List Int) (w : World) (h : Rv w B A m c (intC l)) (hS : 2 ≤ S ∧ S ≤ 64) (hl : ∀ k ∈ l, 1 ≤ k ∧ k ≤ S - 1) :
    Calls Try.prog 9 #[.int .i64 S, .slice A m c] w fun e w' => e = .returned (.int .i64 (packB S l 0 0)) ∧ w = w' := by
  have m1 : (m : Int) ≤ 9223372036854775807 := by have := h.cap; have := h.max; unfold maxLen at this; omega
  obtain ⟨hS1, hS2⟩ := hS
  have HL := Lib.hid hl; clear hl
  have hlen : l.length = m := by have := h.len; simpa [intC] using this
  have HN := Lib.hid hlen; clear hlen
  go_enter Try.func9, Try.ntmps9
  go_wp2
  go_loop [5, 6, 11] (fun n e i => ∃ (k : Nat) (nn left : Int), k ≤ m ∧ i = .int .i64 k ∧ n = .int .i64 nn ∧ e = .int .i64 left ∧ 0 ≤ nn ∧ nn ≤ k ∧ 0 ≤ left ∧ left ≤ S - 1 ∧ packB S (l.drop k) nn left = packB S l 0 0) (fun _ _ i => m - (intOf i).toNat)
  case atStart => exact ⟨0, 0, 0, Nat.zero_le _, rfl, rfl, rfl, by omega, by omega, by omega, by omega, rfl⟩
  case round =>
    obtain ⟨k, nn, left, hk, rfl, rfl, rfl, hn1, hn2, hl1, hl2, hp⟩ := hrel
    have HP := Lib.hid hp; clear hp
    by_cases hlt : k < m
    · obtain ⟨a1, u, rfl, -, hu, hc⟩ := h.some_ hlt
      unfold intC at hu
      rw [List.getElem?_map] at hu
      obtain ⟨x, hx, rfl⟩ := Option.map_eq_some_iff.1 hu
      have hd : l.drop k = x :: l.drop (k + 1) := by
        rw [List.drop_eq_getElem_cons (by rw [HN.out]; exact hlt)]
        congr 1
        exact Option.some.inj ((List.getElem?_eq_getElem (by rw [HN.out]; exact hlt)).symm.trans hx)
      obtain ⟨hx1, hx2⟩ := HL.out x (List.mem_of_getElem? hx)
      have HQ := HP.out
      rw [hd, packB_cons] at HQ
      clear hu hx hd HP
      by_cases hgt : x > left
      · rw [if_pos hgt] at HQ
        have HQ := Lib.hid HQ
        go_wp2
        go_round
        case rel => exact ⟨k + 1, nn + 1, S - 1 - x, by omega, by go_num, rfl, rfl, by omega, by omega, by omega, by omega, HQ.out⟩
        case measure => simp [intOf]; omega
      · rw [if_neg hgt] at HQ
        have HQ := Lib.hid HQ
        go_wp2
        go_round
        case rel => exact ⟨k + 1, nn, left - x, by omega, by go_num, rfl, rfl, by omega, by omega, by omega, by omega, HQ.out⟩
        case measure => simp [intOf]; omega
    · have hd : l.drop k = [] := List.drop_eq_nil_of_le (by rw [HN.out]; omega)
      have HQ := HP.out
      rw [hd] at HQ
      have HQ := Lib.hid HQ
      clear hd HP
      go_wp2
      go_ret
      exact ⟨by rw [← HQ.out]; rfl, rfl⟩
end
section
open Go.ChangeShapes Go.WideShapes Go.ChangeAt Go.RowKit

theorem own : ownKnob Try.prog.godebug = none := by kernel_rfl
theorem laidOut : laidOutB Try.prog = true := by kernel_rfl

theorem wf_byte {z : Int} (h : (Lit.int .u8 z).wf = true) : 0 ≤ z ∧ z < 256 := by
  have hmin : IntKind.u8.min = 0 := rfl
  have hmax : IntKind.u8.max = 255 := rfl
  simp only [Lit.wf, Bool.and_eq_true, decide_eq_true_eq] at h
  omega
theorem wf_nat {k : IntKind} {z M : Int} (h : (Lit.int k z).wf = true) (hmin : k.min = 0) (hmax : k.max = M) : ∃ n : Nat, z = (n : Int) ∧ (n : Int) ≤ M := by
  simp only [Lit.wf, Bool.and_eq_true, decide_eq_true_eq] at h
  exact ⟨z.toNat, by omega, by omega⟩
theorem wf_int {z : Int} (h : (Lit.int .i64 z).wf = true) : -9223372036854775808 ≤ z ∧ z ≤ 9223372036854775807 := by
  have hmin : IntKind.i64.min = -9223372036854775808 := rfl
  have hmax : IntKind.i64.max = 9223372036854775807 := rfl
  simp only [Lit.wf, Bool.and_eq_true, decide_eq_true_eq] at h
  omega

def byteOf (z : Int) : UInt8 := UInt8.ofNat z.toNat
theorem cb_byteOf {z : Int} (h : (Lit.int .u8 z).wf = true) : cb (byteOf z) = .int .u8 z := by
  have := wf_byte h
  unfold cb byteOf
  rw [ofNat_int]
  congr 1
  omega
where ofNat_int (x : Nat) : ((UInt8.ofNat x).toNat : Int) = (x : Int) % 256 := by simp

section
variable {H : Type} {enc : TypeId × Value → H} {W : World}

/-- A slice of bytes, off its cell. -/
theorem trod_bytes {fuel : Nat} {cs : List Value} {x : DataW H × List MemPlace} (h : DataW.trod enc Try.prog W 0 (fun _ => true) true fuel 33 cs = some x) :
    ∃ (A : Option Addr) (n c : Nat) (l : List UInt8), cs = [.slice A n c] ∧ Rd W W.heap.size A n c l ∧ ((∀ m ∈ x.1.weights Try.prog 33, m ≤ reachBytes) → c ≤ 140737488351232) := by
  rcases open_ints Try.underlying33 Try.underlying5 (by kernel_rfl) h with ⟨hcs, _⟩ | ⟨a, len, cap, zs, hcs, _, hl, hm, hz, hx, hcell, hwz⟩
  · exact ⟨none, 0, 0, [], hcs, Rd.nil _ _, fun _ => by omega⟩
  · simp only [if_true] at hz
    refine ⟨some a, len, cap, (zs.take len).map byteOf, hcs, ⟨?_, hl, hm, (fun h => by cases h), ?_, ?_⟩, ?_⟩
    · simp [cbs]; omega
    · intro ad hA hpos
      injection hA with hA; subst hA
      have h0 := hcell 0 (by omega)
      have := World.block_lt_of_cell? W _ h0
      rwa [block_add] at this
    · intro ad i u hA hu
      injection hA with hA; subst hA
      rw [cbs_get?] at hu
      obtain ⟨y, hy, rfl⟩ := Option.map_eq_some_iff.1 hu
      rw [List.getElem?_map] at hy
      obtain ⟨z, hz', rfl⟩ := Option.map_eq_some_iff.1 hy
      rw [List.getElem?_take] at hz'
      split at hz'
      · have hi : i < zs.length := (List.getElem?_eq_some_iff.1 hz').1
        have hzi : zs.getD i 0 = z := by rw [List.getD_eq_getElem?_getD, hz']; rfl
        rw [hcell i hi, hzi, cb_byteOf (hwz z (List.mem_of_getElem? hz'))]
      · cases hz'
    · intro hw
      subst hx
      have hb : Try.prog.bytesOf 5 = 1 := by kernel_rfl
      have hu : Try.prog.underlying 33 = some (.slice 5) := Try.underlying33
      have := hw ((((lits IntKind.u8 (zs.take len) : List (DataW H)).length + (lits IntKind.u8 (zs.drop len) : List (DataW H)).length) * Try.prog.bytesOf 5)) (by simp [DataW.weights, hu])
      rw [hb] at this
      simp only [lits, List.length_map, List.length_take, List.length_drop, reachBytes] at this
      omega

set_option maxRecDepth 100000 in
/-- A slice of integers of one kind, off its cell. -/
theorem trod_nums {T E : TypeId} {k : IntKind} {nb fuel : Nat} {cs : List Value} {x : DataW H × List MemPlace} (hT : Try.prog.underlying T = some (.slice E)) (hE : Try.prog.underlying E = some (.int k)) (hC : Try.prog.cellsOf E = 1) (hB : Try.prog.bytesOf E = nb)
    (h : DataW.trod enc Try.prog W 0 (fun _ => true) true fuel T cs = some x) :
    ∃ (A : Option Addr) (n c : Nat) (zs : List Int), cs = [.slice A n c] ∧ (Rv W W.heap.size A n c (zs.map (Value.int k)) ∧ ∀ z ∈ zs, (Lit.int k z).wf = true) ∧ ((∀ m ∈ x.1.weights Try.prog T, m ≤ reachBytes) → c * nb ≤ 140737488351232) := by
  rcases open_ints hT hE hC h with ⟨hcs, _⟩ | ⟨a, len, cap, zs, hcs, _, hl, hm, hz, hx, hcell, hwz⟩
  · exact ⟨none, 0, 0, [], hcs, ⟨Rv.nil _ _, by simp⟩, fun _ => by omega⟩
  · simp only [if_true] at hz
    refine ⟨some a, len, cap, zs.take len, hcs, ⟨⟨?_, hl, hm, (fun h => by cases h), ?_, ?_⟩, fun z hzm => hwz z (List.mem_of_mem_take hzm)⟩, ?_⟩
    · simp; omega
    · intro ad hA hpos
      injection hA with hA; subst hA
      have h0 := hcell 0 (by omega)
      have := World.block_lt_of_cell? W _ h0
      rwa [block_add] at this
    · intro ad i u hA hu
      injection hA with hA; subst hA
      rw [List.getElem?_map] at hu
      obtain ⟨z, hz', rfl⟩ := Option.map_eq_some_iff.1 hu
      rw [List.getElem?_take] at hz'
      split at hz'
      · have hi : i < zs.length := (List.getElem?_eq_some_iff.1 hz').1
        have hzi : zs.getD i 0 = z := by rw [List.getD_eq_getElem?_getD, hz']; rfl
        rw [hcell i hi, hzi]
      · cases hz'
    · intro hw
      subst hx
      have := hw ((((lits k (zs.take len) : List (DataW H)).length + (lits k (zs.drop len) : List (DataW H)).length) * Try.prog.bytesOf E)) (by simp [DataW.weights, hT])
      have e : (lits k (zs.take len) : List (DataW H)).length + (lits k (zs.drop len) : List (DataW H)).length = cap := by
        simp only [lits, List.length_map, List.length_take, List.length_drop]; omega
      rw [hB, e] at this
      exact this

set_option maxRecDepth 100000 in
theorem open_bytes {v : Value} {d : DataW H} {p : List MemPlace} {base : Nat} (hv : Value.okWide Try.prog W .any base 33 v) (h : DataW.Trod enc Try.prog W 0 (fun _ => true) true 33 v d p) :
    ∃ (A : Option Addr) (n c : Nat) (l : List UInt8), v = .slice A n c ∧ Rd W W.heap.size A n c l ∧ ((∀ m ∈ d.weights Try.prog 33, m ≤ reachBytes) → c ≤ 140737488351232) := by
  obtain ⟨a, n, c, rfl⟩ := okWide_slice Try.underlying33 hv
  obtain ⟨fuel, hf⟩ := h
  obtain ⟨A', n', c', l, hcs, hr, hw⟩ := trod_bytes hf
  simp [Value.cells] at hcs
  obtain ⟨rfl, rfl, rfl⟩ := hcs
  exact ⟨_, _, _, l, rfl, hr, hw⟩

set_option maxRecDepth 100000 in
theorem open_nums {T E : TypeId} {k : IntKind} {nb : Nat} {v : Value} {d : DataW H} {p : List MemPlace} {base : Nat} (hT : Try.prog.underlying T = some (.slice E)) (hE : Try.prog.underlying E = some (.int k)) (hC : Try.prog.cellsOf E = 1) (hB : Try.prog.bytesOf E = nb)
    (hv : Value.okWide Try.prog W .any base T v) (h : DataW.Trod enc Try.prog W 0 (fun _ => true) true T v d p) :
    ∃ (A : Option Addr) (n c : Nat) (zs : List Int), v = .slice A n c ∧ (Rv W W.heap.size A n c (zs.map (Value.int k)) ∧ ∀ z ∈ zs, (Lit.int k z).wf = true) ∧ ((∀ m ∈ d.weights Try.prog T, m ≤ reachBytes) → c * nb ≤ 140737488351232) := by
  obtain ⟨a, n, c, rfl⟩ := okWide_slice hT hv
  obtain ⟨fuel, hf⟩ := h
  obtain ⟨A', n', c', l, hcs, hr, hw⟩ := trod_nums hT hE hC hB hf
  simp [Value.cells] at hcs
  obtain ⟨rfl, rfl, rfl⟩ := hcs
  exact ⟨_, _, _, l, rfl, hr, hw⟩
/-- Numbers as cells. -/
def cus (k : IntKind) (l : List Nat) : List Value := l.map fun (x : Nat) => Value.int k (x : Int)
theorem nums_nat {k : IntKind} {M : Int} {zs : List Int} (h : ∀ z ∈ zs, (Lit.int k z).wf = true) (hmin : k.min = 0) (hmax : k.max = M) : ∃ l : List Nat, zs.map (Value.int k) = cus k l ∧ ∀ x ∈ l, (x : Int) ≤ M := by
  refine ⟨zs.map Int.toNat, ?_, ?_⟩
  · unfold cus
    rw [List.map_map]
    refine List.map_congr_left fun z hz => ?_
    obtain ⟨n, rfl, _⟩ := wf_nat (h z hz) hmin hmax
    simp
  · intro x hx
    obtain ⟨z, hz, rfl⟩ := List.mem_map.1 hx
    obtain ⟨n, rfl, hn⟩ := wf_nat (h z hz) hmin hmax
    simpa using hn
set_option maxRecDepth 100000 in
theorem open_ints64 {v : Value} {d : DataW H} {p : List MemPlace} {base : Nat} (hv : Value.okWide Try.prog W .any base 39 v) (h : DataW.Trod enc Try.prog W 0 (fun _ => true) true 39 v d p) :
    ∃ (A : Option Addr) (n c : Nat) (zs : List Int), v = .slice A n c ∧ (Rv W W.heap.size A n c (zs.map (Value.int .i64)) ∧ ∀ z ∈ zs, (Lit.int .i64 z).wf = true) ∧ ((∀ m ∈ d.weights Try.prog 39, m ≤ reachBytes) → c * 8 ≤ 140737488351232) :=
  open_nums Try.underlying39 Try.underlying3 (by kernel_rfl) (nb := 8) (by kernel_rfl) hv h

theorem weights_of {P : Program} {ts : List TypeId} {ds : List (DataW H)} (h : (DataW.weightsEach P ts ds).all (· ≤ reachBytes) = true) {j : Nat} {t : TypeId} {d : DataW H} (ht : ts[j]? = some t) (hd : ds[j]? = some d) : ∀ m ∈ d.weights P t, m ≤ reachBytes := by
  intro m hm
  simpa using List.all_eq_true.1 h _ (DataW.weights_mem_each ht hd m hm)
theorem trod_places {P : Program} {t : TypeId} {v : Value} {d : DataW H} {p : List MemPlace} {sp : Nat → Bool} {hd : Bool} (h : DataW.Trod enc P W 0 sp hd t v d p) : ∀ x ∈ p, x.block < W.heap.size := by
  obtain ⟨m, hm⟩ := h
  exact DataW.trod_lt m _ _ _ hm
/-- A struct's fields, each off its cells. -/
theorem trod_fields {P : Program} {fuel : Nat} {t : TypeId} {fs : Array Field} {cs : List Value} {x : DataW H × List MemPlace} (ht : P.underlying t = some (.struct fs)) (h : DataW.trod enc P W 0 (fun _ => true) true fuel t cs = some x) :
    ∃ n, cs.length = P.cellsOf t ∧ ∀ (i : Nat) (T : TypeId) (o : Nat), (fs[i]?).map (fun f => (f.type, f.offset)) = some (T, o) → ∃ y, DataW.trod enc P W 0 (fun _ => true) true n T ((cs.drop o).take (P.cellsOf T)) = some y ∧
      ((∀ m ∈ x.1.weights P t, m ≤ reachBytes) → ∀ m ∈ y.1.weights P T, m ≤ reachBytes) := by
  obtain ⟨xs, n, _, hx, hl, hlen, hf⟩ := DataW.trod_struct ht h
  refine ⟨n, hl, fun i T o hio => ?_⟩
  obtain ⟨f, hi, he⟩ := Option.map_eq_some_iff.1 hio
  simp only [Prod.mk.injEq] at he
  obtain ⟨rfl, rfl⟩ := he
  have hi2 : i < xs.length := by have := (Array.getElem?_eq_some_iff.1 hi).1; omega
  refine ⟨xs[i], (hf i f hi).trans (List.getElem?_eq_getElem hi2), fun hw m hm => hw m ?_⟩
  subst hx
  simp only [DataW.weights, ht]
  exact DataW.weights_mem_each (j := i) (t := f.type) (d := (xs[i]).1) (by simp [hi]) (by simp [hi2]) m hm
theorem trod_int1 {P : Program} {fuel : Nat} {t : TypeId} {k : IntKind} {v : Value} {x : DataW H × List MemPlace} (ht : P.underlying t = some (.int k)) (h : DataW.trod enc P W 0 (fun _ => true) true fuel t [v] = some x) : ∃ n, v = .int k n ∧ (Lit.int k n).wf = true := by
  obtain ⟨n, h1, _, h2⟩ := DataW.trod_int ht h
  simp at h1
  exact ⟨n, h1, h2⟩
theorem trod_bool1 {P : Program} {fuel : Nat} {t : TypeId} {v : Value} {x : DataW H × List MemPlace} (ht : P.underlying t = some .bool) (h : DataW.trod enc P W 0 (fun _ => true) true fuel t [v] = some x) : ∃ b, v = .bool b := by
  obtain ⟨b, h1, _⟩ := DataW.trod_bool ht h
  simp at h1
  exact ⟨b, h1⟩
theorem trod_bytes1 {fuel : Nat} {v : Value} {x : DataW H × List MemPlace} (h : DataW.trod enc Try.prog W 0 (fun _ => true) true fuel 33 [v] = some x) :
    ∃ (A : Option Addr) (n c : Nat) (l : List UInt8), v = .slice A n c ∧ Rd W W.heap.size A n c l ∧ ((∀ m ∈ x.1.weights Try.prog 33, m ≤ reachBytes) → c ≤ 140737488351232) := by
  obtain ⟨A, n, c, l, h1, h2⟩ := trod_bytes h
  simp at h1
  exact ⟨A, n, c, l, h1, h2⟩
end
theorem cells_u8s : Try.prog.cellsOf 33 = 1 := by kernel_rfl
theorem cells_u32 : Try.prog.cellsOf 35 = 1 := by kernel_rfl
theorem cells_u64 : Try.prog.cellsOf 34 = 1 := by kernel_rfl
theorem cells_u8 : Try.prog.cellsOf 5 = 1 := by kernel_rfl
theorem cells_int : Try.prog.cellsOf 3 = 1 := by kernel_rfl
theorem cells_bool : Try.prog.cellsOf 4 = 1 := by kernel_rfl
end
section
open Go.ChangeShapes Go.WideShapes Go.ChangeAt Go.RowKit

set_option maxHeartbeats 1000000 in
theorem wakes25 (w : World) :
    Calls Try.prog 4 #[] w fun e w' => e = .returned (.bool true) ∧ Below w.heap.size w w' := by
  have kc := fun (w : World) (C : Array Value) (n c : Nat) => Lib.run_convert_bytes_const (P := Try.prog) w 33 5 C n c Try.underlying33 Try.underlying5
  have b := Below.refl w.heap.size w
  go_enter Try.func4, Try.ntmps4
  go_wp2_with fail
  refine (bound_any 8 24 _).mono ?_
  rintro e w1 ⟨rfl, b1⟩
  replace b := below_step b b1
  rw [show bndV 8 24 = .tuple #[.int .i64 28, .int .i64 0] from rfl]
  go_wp2_with fail
  have hc := charge_any (some ⟨w1.heap.size, 0, none⟩) none 1 1 0 0 0 0 1 false
  unfold itmV at hc
  refine (hc _).mono ?_
  rintro e w2 ⟨rfl, b2⟩
  replace b := (below_a1' b _).trans (b2.mono (by have := b.size; simp; omega))
  rw [show chV 1 1 0 = .tuple #[.int .i64 1, .int .i64 0] from by rw [chV_yes (by decide)]; rfl]
  clear hc b1 b2
  go_wp2_with fail
  have hR : Rv (w2.alloc (.cells #[.int .i64 17, .int .i64 17, .int .i64 6, .int .i64 1] 3)) (w2.heap.size + 1) (some ⟨w2.heap.size, 0, none⟩) 4 4 (intC [17, 17, 6, 1]) := by
    have := Ov.rv (Ov.lit w2 #[.int .i64 17, .int .i64 17, .int .i64 6, .int .i64 1] 3 w2.heap.size 4 (intC [17, 17, 6, 1]) (Nat.le_refl _) (by simp [maxLen]) rfl rfl)
    exact this.more (by simp)
  refine (pack_any _ 4 4 _ 24 [17, 17, 6, 1] _ hR (by omega) (by decide)).mono ?_
  rintro e w3 ⟨rfl, hq⟩
  subst hq
  rw [show packB 24 [17, 17, 6, 1] 0 0 = 3 from by decide +kernel]
  go_wp2_with fail
  go_ret
  exact ⟨rfl, below_a1' b _⟩

section
variable {H : Type} {enc : TypeId × Value → H} {W : World}
theorem cells_item : Try.prog.cellsOf 37 = 6 := by kernel_rfl
/-- What is known of an item that came in. -/
def Itm (W : World) (B : Nat) (AK : Option Addr) (nk ck : Nat) (lk : List UInt8) (AV : Option Addr) (nv cv : Nat) (lv : List UInt8) (fl ex sq : Nat) : Prop :=
  Rd W B AK nk ck lk ∧ Rd W B AV nv cv lv ∧ fl ≤ 4294967295 ∧ ex ≤ 4294967295 ∧ sq ≤ 18446744073709551615
set_option maxRecDepth 100000 in
theorem trod_item {fuel : Nat} {cs : List Value} {x : DataW H × List MemPlace} (h : DataW.trod enc Try.prog W 0 (fun _ => true) true fuel 37 cs = some x) :
    ∃ (AK : Option Addr) (nk ck : Nat) (lk : List UInt8) (AV : Option Addr) (nv cv : Nat) (lv : List UInt8) (fl ex sq : Nat) (d : Bool),
      cs = (itmV (.slice AK nk ck) (.slice AV nv cv) fl ex sq d).cells.toList ∧ Itm W W.heap.size AK nk ck lk AV nv cv lv fl ex sq ∧
      ((∀ m ∈ x.1.weights Try.prog 37, m ≤ reachBytes) → ck ≤ 140737488351232 ∧ cv ≤ 140737488351232) := by
  obtain ⟨n, hl, hf⟩ := trod_fields Try.underlying37 h
  rw [cells_item] at hl
  obtain ⟨c0, c1, c2, c3, c4, c5, rfl⟩ := list6 hl
  obtain ⟨y0, t0, w0⟩ := hf 0 33 0 rfl
  obtain ⟨y1, t1, w1⟩ := hf 1 33 1 rfl
  obtain ⟨y2, t2, w2⟩ := hf 2 35 2 rfl
  obtain ⟨y3, t3, w3⟩ := hf 3 35 3 rfl
  obtain ⟨y4, t4, w4⟩ := hf 4 34 4 rfl
  obtain ⟨y5, t5, w5⟩ := hf 5 4 5 rfl
  simp only [cells_u8s, cells_u32, cells_u64, cells_bool, List.drop_zero, List.drop_succ_cons, List.take_succ_cons, List.take_zero] at t0 t1 t2 t3 t4 t5
  obtain ⟨AK, nk, ck, lk, rfl, r0, s0⟩ := trod_bytes1 t0
  obtain ⟨AV, nv, cv, lv, rfl, r1, s1⟩ := trod_bytes1 t1
  obtain ⟨z2, rfl, f2⟩ := trod_int1 Try.underlying35 t2
  obtain ⟨z3, rfl, f3⟩ := trod_int1 Try.underlying35 t3
  obtain ⟨z4, rfl, f4⟩ := trod_int1 Try.underlying34 t4
  obtain ⟨d, rfl⟩ := trod_bool1 Try.underlying4 t5
  obtain ⟨fl, rfl, g2⟩ := wf_nat (M := 4294967295) f2 rfl rfl
  obtain ⟨ex, rfl, g3⟩ := wf_nat (M := 4294967295) f3 rfl rfl
  obtain ⟨sq, rfl, g4⟩ := wf_nat (M := 18446744073709551615) f4 rfl rfl
  exact ⟨AK, nk, ck, lk, AV, nv, cv, lv, fl, ex, sq, d, rfl, ⟨r0, r1, by omega, by omega, by omega⟩, fun hw => ⟨s0 (w0 hw), s1 (w1 hw)⟩⟩
theorem open_item {v : Value} {d : DataW H} {p : List MemPlace} {base : Nat} (hv : Value.okWide Try.prog W .any base 37 v) (h : DataW.Trod enc Try.prog W 0 (fun _ => true) true 37 v d p) :
    ∃ (AK : Option Addr) (nk ck : Nat) (lk : List UInt8) (AV : Option Addr) (nv cv : Nat) (lv : List UInt8) (fl ex sq : Nat) (b : Bool),
      v = itmV (.slice AK nk ck) (.slice AV nv cv) fl ex sq b ∧ Itm W W.heap.size AK nk ck lk AV nv cv lv fl ex sq ∧
      ((∀ m ∈ d.weights Try.prog 37, m ≤ reachBytes) → ck ≤ 140737488351232 ∧ cv ≤ 140737488351232) := by
  obtain ⟨cs, rfl, hsz⟩ := okWide_struct Try.underlying37 hv
  obtain ⟨fuel, hf⟩ := h
  obtain ⟨AK, nk, ck, lk, AV, nv, cv, lv, fl, ex, sq, b, hc, hi, hw⟩ := trod_item hf
  refine ⟨AK, nk, ck, lk, AV, nv, cv, lv, fl, ex, sq, b, ?_, hi, hw⟩
  have : cs = (itmV (.slice AK nk ck) (.slice AV nv cv) fl ex sq b).cells := by
    apply Array.toList_inj.1
    exact hc
  rw [this]; rfl
end
end
section
open Go.ChangeShapes Go.WideShapes Go.ChangeAt Go.RowKit
section
variable {H : Type} {enc : TypeId × Value → H} {W : World}

theorem weights_all {P : Program} {e : TypeId} : ∀ {ds : List (DataW H)} {d : DataW H}, d ∈ ds → ∀ m ∈ d.weights P e, m ∈ DataW.weightsAll P e ds
  | d0 :: ds, d, hd, m, hm => by
    simp only [DataW.weightsAll, List.mem_append]
    rcases List.mem_cons.1 hd with rfl | hd
    · exact Or.inl hm
    · exact Or.inr (weights_all hd m hm)

/-- A slice of elements of type E, k cells each. R: what is said of an element and its cells; S: of its size. -/
theorem trod_list {α : Type} {P : Program} {T E : TypeId} {k : Nat} (R : α → List Value → Prop) (S : α → Prop) {fuel : Nat} {cs : List Value} {x : DataW H × List MemPlace}
    (hT : P.underlying T = some (.slice E)) (hk : P.cellsOf E = k) (hk0 : 0 < k)
    (hR : ∀ (fuel : Nat) (cs : List Value) (x : DataW H × List MemPlace), DataW.trod enc P W 0 (fun _ => true) true fuel E cs = some x → ∃ a, R a cs ∧ ((∀ m ∈ x.1.weights P E, m ≤ reachBytes) → S a))
    (h : DataW.trod enc P W 0 (fun _ => true) true fuel T cs = some x) :
    ∃ (A : Option Addr) (n c : Nat) (l : List α), cs = [.slice A n c] ∧ l.length = n ∧ n ≤ c ∧ c ≤ maxLen ∧ (A = none → c = 0) ∧
      (∀ i a, l[i]? = some a → ∃ ad vs, A = some ad ∧ ad.block < W.heap.size ∧ R a vs ∧ vs.length = k ∧ ∀ j u, vs[j]? = some u → W.cell? (ad.add (i * k + j)) = some u) ∧
      ((∀ m ∈ x.1.weights P T, m ≤ reachBytes) → c * P.bytesOf E ≤ reachBytes ∧ ∀ a ∈ l, S a) := by
  rcases Go.Deep.open_slice hT h with ⟨rfl, rfl⟩ | ⟨a, len, cap, m, n, D, Pl, rfl, _, hl, hm, hmm, rfl, hi⟩
  · exact ⟨none, 0, 0, [], rfl, rfl, Nat.le_refl _, by simp [maxLen], fun _ => rfl, fun i a h => by simp at h, fun _ => ⟨by simp, fun a h => by simp at h⟩⟩
  · simp only [if_true] at hmm
    obtain rfl : m = cap := hmm
    have each : ∀ i, i < len → ∃ b, (∃ vs, R b vs ∧ vs.length = k ∧ ∀ j u, vs[j]? = some u → W.cell? (a.add (i * k + j)) = some u) ∧ ((∀ q ∈ (D i).weights P E, q ≤ reachBytes) → S b) := by
      intro i hi'
      obtain ⟨vs, hc, ht⟩ := hi i (by omega)
      obtain ⟨b, hb, hs⟩ := hR n vs _ ht
      obtain ⟨_, hvl, hat⟩ := World.cells?_some hc
      rw [hk] at hvl hat
      refine ⟨b, ⟨vs, hb, hvl, fun j u hu => ?_⟩, hs⟩
      have hj : j < k := by have := (List.getElem?_eq_some_iff.1 hu).1; omega
      have h1 := hat j hj
      rw [add_add] at h1
      rw [h1, hu]
    obtain ⟨l, hll, hl2⟩ : ∃ l : List α, l.length = len ∧ ∀ i b, l[i]? = some b → (∃ vs, R b vs ∧ vs.length = k ∧ ∀ j u, vs[j]? = some u → W.cell? (a.add (i * k + j)) = some u) ∧ ((∀ q ∈ (D i).weights P E, q ≤ reachBytes) → S b) := by
      clear hi hl h
      induction len with
      | zero => exact ⟨[], rfl, fun i b h => by simp at h⟩
      | succ len ih =>
        obtain ⟨l, h1, h2⟩ := ih (fun i hi' => each i (by omega))
        obtain ⟨b, hb⟩ := each len (by omega)
        refine ⟨l ++ [b], by simp [h1], fun i c hc => ?_⟩
        rcases Nat.lt_or_ge i l.length with hlt | hge
        · rw [List.getElem?_append_left hlt] at hc
          exact h2 i c hc
        · rw [List.getElem?_append_right hge] at hc
          have h0 : i - l.length = 0 := by
            have := (List.getElem?_eq_some_iff.1 hc).1
            simp at this; omega
          rw [h0] at hc
          simp at hc
          subst hc
          have : i = len := by omega
          subst this
          exact hb
    refine ⟨some a, len, m, l, rfl, hll, hl, hm, (fun h => by cases h), fun i b hb => ?_, fun hw => ?_⟩
    · obtain ⟨⟨vs, h1, h2, h3⟩, _⟩ := hl2 i b hb
      refine ⟨a, vs, rfl, ?_, h1, h2, h3⟩
      have h0 := h3 0 (vs[0]'(by omega)) (List.getElem?_eq_getElem (by omega))
      have := World.block_lt_of_cell? W _ h0
      rwa [block_add] at this
    · refine ⟨?_, fun b hb => ?_⟩
      · have := hw _ (by simp only [DataW.weights, hT]; exact List.mem_cons_self ..)
        simp only [List.length_map, List.length_range] at this
        rwa [show len + (m - len) = m from by omega] at this
      · obtain ⟨i, hi', hib⟩ := List.getElem_of_mem hb
        have h1 := (hl2 i b (by rw [List.getElem?_eq_getElem hi', hib])).2
        refine h1 fun q hq => hw q ?_
        simp only [DataW.weights, hT]
        refine List.mem_cons_of_mem _ (List.mem_append.2 (Or.inl (weights_all (d := D i) ?_ q hq)))
        exact List.mem_map.2 ⟨i, List.mem_range.2 (by omega), rfl⟩
end
end
end Go.Proofs.Ytajjoepdkikeeaa

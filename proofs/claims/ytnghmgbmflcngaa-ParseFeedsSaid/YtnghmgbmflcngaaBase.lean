/- The words of this seat's proofs: bytes as cells; a slice that reads as bytes; a slice of bytes that the call itself made; appends to it. Conditions: none beyond those typed in each theorem. -/
import Derived.Test.YtnghmgbmflcngaaRows
import Derived.WalkKit
import Derived.WalkSpells
import Derived.WalkLawsBesides
import Derived.BigQuiet
import Derived.Deep.QuietTactic
import Derived.Deep.DeepFit
import Derived.Deep.DeepMust
import Derived.Deep.Draws
import Derived.Lib.Hide
import Derived.Deep.AppendLies
import Derived.Maps.AppendAt
namespace Go.Proofs.Ytnghmgbmflcngaa
set_option linter.unusedVariables false
open Go.RowKit

theorem u8info : (Try.prog.info? 5).map (fun i => (i.zero, i.size, i.bytes)) = some (some (.int .u8 0), 1, 1) := by kernel_rfl

/-- A byte as a cell. -/
def cb (c : UInt8) : Value := .int .u8 (c.toNat : Int)
def cbs (l : List UInt8) : List Value := l.map cb

theorem length_cbs (l : List UInt8) : (cbs l).length = l.length := by simp [cbs]
theorem cbs_append (a b : List UInt8) : cbs (a ++ b) = cbs a ++ cbs b := by simp [cbs]
theorem cbs_get? (l : List UInt8) (i : Nat) : (cbs l)[i]? = (l[i]?).map cb := by simp [cbs]
theorem cbs_one (l : List UInt8) : ∀ u ∈ cbs l, u.oneCell' = true := by
  intro u hu
  obtain ⟨_, _, rfl⟩ := List.mem_map.1 hu
  rfl

theorem block_add (a : Addr) (n : Nat) : (a.add n).block = a.block := by unfold Addr.add; split <;> rfl
theorem add_add (a : Addr) (i j : Nat) : (a.add i).add j = a.add (i + j) := by
  unfold Addr.add
  by_cases hi : i = 0 <;> by_cases hj : j = 0 <;> simp [hi, hj, Nat.add_assoc]

/-- The slice of address A, length n, capacity c reads as the cells xs, below block B. -/
def Rv (w : World) (B : Nat) (A : Option Addr) (n c : Nat) (xs : List Value) : Prop :=
  xs.length = n ∧ n ≤ c ∧ c ≤ maxLen ∧ (A = none → c = 0) ∧ (∀ ad, A = some ad → 0 < n → ad.block < B) ∧ ∀ ad i u, A = some ad → xs[i]? = some u → w.cell? (ad.add i) = some u

/-- .. reads as bytes. -/
def Rd (w : World) (B : Nat) (A : Option Addr) (n c : Nat) (l : List UInt8) : Prop := Rv w B A n c (cbs l)

/-- A slice of the call's own, from block B on, holding the cells xs. -/
def Ov (w : World) (B : Nat) (e : TypeId) (A : Option Addr) (n c : Nat) (xs : List Value) : Prop := w.ownsRow B e 1 (.slice A n c) n xs
def Own (w : World) (B : Nat) (A : Option Addr) (n c : Nat) (l : List UInt8) : Prop := Ov w B 5 A n c (cbs l)

section
variable {w w' : World} {B B' n c : Nat} {A : Option Addr} {xs : List Value} {l : List UInt8} {e : TypeId}

theorem Rv.len (h : Rv w B A n c xs) : xs.length = n := h.1
theorem Rd.len (h : Rd w B A n c l) : l.length = n := by have := h.1; simpa [length_cbs] using this
theorem Rv.cap (h : Rv w B A n c xs) : n ≤ c := h.2.1
theorem Rd.cap (h : Rd w B A n c l) : n ≤ c := h.2.1
theorem Rv.max (h : Rv w B A n c xs) : c ≤ maxLen := h.2.2.1
theorem Rd.max (h : Rd w B A n c l) : c ≤ maxLen := h.2.2.1

theorem Rv.nil (w : World) (B : Nat) : Rv w B none 0 0 [] := ⟨rfl, Nat.le_refl _, by simp [maxLen], (fun _ => rfl), (fun _ h => by cases h), (fun _ _ _ h => by cases h)⟩
theorem Rd.nil (w : World) (B : Nat) : Rd w B none 0 0 [] := Rv.nil w B

theorem Rv.some_ (h : Rv w B A n c xs) {i : Nat} (hi : i < n) : ∃ ad u, A = some ad ∧ ad.block < B ∧ xs[i]? = some u ∧ w.cell? (ad.add i) = some u := by
  obtain ⟨h1, h2, _, h4, h5, h6⟩ := h
  cases A with
  | none => have := h4 rfl; omega
  | some ad => exact ⟨ad, xs[i]'(by omega), rfl, h5 ad rfl (by omega), List.getElem?_eq_getElem (by omega), h6 ad i _ rfl (List.getElem?_eq_getElem (by omega))⟩
theorem Rd.at_ (h : Rd w B A n c l) {i : Nat} (hi : i < n) : ∃ (ad : Addr) (x : UInt8), A = some ad ∧ ad.block < B ∧ l[i]? = some x ∧ w.cell? (ad.add i) = some (.int .u8 (x.toNat : Int)) := by
  obtain ⟨ad, u, hA, hb, hu, hc⟩ := Rv.some_ h hi
  rw [cbs_get?] at hu
  obtain ⟨x, hx, rfl⟩ := Option.map_eq_some_iff.1 hu
  exact ⟨ad, x, hA, hb, hx, hc⟩

theorem Rv.keep (h : Rv w B A n c xs) (hk : ∀ p : Addr, p.block < B → w'.cell? p = w.cell? p) : Rv w' B A n c xs := by
  obtain ⟨h1, h2, h3, h4, h5, h6⟩ := h
  refine ⟨h1, h2, h3, h4, h5, fun ad i u hA hu => ?_⟩
  have hi : i < n := by have := (List.getElem?_eq_some_iff.1 hu).1; omega
  exact (hk _ (by rw [block_add]; exact h5 ad hA (by omega))).trans (h6 ad i u hA hu)
theorem Rv.more (h : Rv w B A n c xs) (hB : B ≤ B') : Rv w B' A n c xs :=
  ⟨h.1, h.2.1, h.2.2.1, h.2.2.2.1, fun ad hA hn => Nat.lt_of_lt_of_le (h.2.2.2.2.1 ad hA hn) hB, h.2.2.2.2.2⟩
theorem Rv.below (h : Rv w B A n c xs) (hb : Below B w w') : Rv w' B A n c xs := h.keep fun _ hp => hb.cell hp
theorem Rv.drew (h : Rv w B A n c xs) : Rv w.drew B A n c xs := h
theorem Rv.drewN (h : Rv w B A n c xs) (k : Nat) : Rv (w.drewN k) B A n c xs := h
theorem Rv.alloc (h : Rv w B A n c xs) (hB : B ≤ w.heap.size) (o : Obj) : Rv (w.alloc o) B A n c xs := h.keep fun p hp => World.cell?_alloc_lt w o p (by omega)
theorem Rv.setCell (h : Rv w B A n c xs) {p : Addr} (hB : B ≤ p.block) (u : Value) : Rv (w.setCell p u) B A n c xs :=
  h.keep fun q hq => World.cell?_setCell_other w p q u (fun e => by subst e; omega)
theorem Rv.cut (h : Rv w B A n c xs) {i j : Nat} (hij : i ≤ j) (hj : j ≤ n) :
    Rv w B (if c = i then A else A.map (·.add i)) (j - i) (c - i) ((xs.take j).drop i) := by
  obtain ⟨h1, h2, h3, h4, h5, h6⟩ := h
  by_cases hc : c = i
  · rw [if_pos hc]
    have : (xs.take j).drop i = [] := List.eq_nil_of_length_eq_zero (by rw [List.length_drop, List.length_take]; omega)
    rw [this]
    refine ⟨by simp; omega, by omega, by omega, fun hA => by have := h4 hA; omega, fun ad hA hn => by omega, fun ad k u hA hu => by simp at hu⟩
  · rw [if_neg hc]
    cases A with
    | none => have := h4 rfl; omega
    | some ad =>
      refine ⟨by rw [List.length_drop, List.length_take]; omega, by omega, by omega, fun hA => by simp at hA, fun ad' hA hn => ?_, fun ad' k u hA hu => ?_⟩
      · simp only [Option.map_some, Option.some.injEq] at hA
        subst hA
        rw [block_add]
        exact h5 ad rfl (by omega)
      · simp only [Option.map_some, Option.some.injEq] at hA
        subst hA
        rw [add_add]
        rw [List.getElem?_drop, List.getElem?_take] at hu
        split at hu
        · exact h6 ad _ u rfl hu
        · cases hu

theorem Rd.keep (h : Rd w B A n c l) (hk : ∀ p : Addr, p.block < B → w'.cell? p = w.cell? p) : Rd w' B A n c l := Rv.keep h hk
theorem Rd.more (h : Rd w B A n c l) (hB : B ≤ B') : Rd w B' A n c l := Rv.more h hB
theorem Rd.below (h : Rd w B A n c l) (hb : Below B w w') : Rd w' B A n c l := Rv.below h hb
theorem Rd.alloc (h : Rd w B A n c l) (hB : B ≤ w.heap.size) (o : Obj) : Rd (w.alloc o) B A n c l := Rv.alloc h hB o
theorem Rd.setCell (h : Rd w B A n c l) {p : Addr} (hB : B ≤ p.block) (u : Value) : Rd (w.setCell p u) B A n c l := Rv.setCell h hB u
theorem Rd.drewN (h : Rd w B A n c l) (k : Nat) : Rd (w.drewN k) B A n c l := h
theorem Rd.cut (h : Rd w B A n c l) {i j : Nat} (hij : i ≤ j) (hj : j ≤ n) :
    Rd w B (if c = i then A else A.map (·.add i)) (j - i) (c - i) ((l.take j).drop i) := by
  have := Rv.cut h hij hj
  unfold Rd cbs at *
  rw [List.map_drop, List.map_take]
  exact this

theorem Ov.len (h : Ov w B e A n c xs) : xs.length = n := by have := h.1; simpa using this
theorem Own.len (h : Own w B A n c l) : l.length = n := by have := Ov.len h; simpa [length_cbs] using this
theorem Ov.rv (h : Ov w B e A n c xs) : Rv w w.heap.size A n c xs := by
  refine ⟨Ov.len h, ?_⟩
  rcases h.2 with ⟨hv, h0⟩ | ⟨g, cap, cur, hv, hg, hh, hnc, hcm, hcs, ht⟩
  · injection hv with e1 e2 e3
    subst e1; subst e3
    have hx : xs = [] := List.eq_nil_of_length_eq_zero (by rw [Ov.len h]; exact h0)
    subst hx
    exact ⟨by omega, by simp [maxLen], (fun _ => rfl), (fun _ h => by cases h), (fun _ _ _ h => by cases h)⟩
  · injection hv with e1 e2 e3
    subst e1; subst e3
    refine ⟨hnc, hcm, (fun h => by cases h), (fun ad hA _ => ?_), (fun ad i u hA hu => ?_)⟩
    · injection hA with hA; subst hA
      exact (Array.getElem?_eq_some_iff.1 hh).1
    · injection hA with hA; subst hA
      exact World.ownsRow.cells h rfl i u hu
theorem Own.rd (h : Own w B A n c l) : Rd w w.heap.size A n c l := Ov.rv h
theorem Ov.more (h : Ov w B e A n c xs) (hB : B' ≤ B) : Ov w B' e A n c xs := by
  refine ⟨h.1, ?_⟩
  rcases h.2 with h' | ⟨g, cap, cur, hv, hg, r⟩
  · exact Or.inl h'
  · exact Or.inr ⟨g, cap, cur, hv, by omega, r⟩
theorem Own.more (h : Own w B A n c l) (hB : B' ≤ B) : Own w B' A n c l := Ov.more h hB
theorem Ov.nil (w : World) (B : Nat) (e : TypeId) : Ov w B e none 0 0 [] := World.ownsRow_nil _ _ _ _
theorem Own.nil (w : World) (B : Nat) : Own w B none 0 0 [] := World.ownsRow_nil _ _ _ _
/-- What is owned stays owned while blocks beyond it turn. -/
theorem Ov.below (h : Ov w B e A n c xs) (hb : Below w.heap.size w w') : Ov w' B e A n c xs := by
  refine ⟨h.1, ?_⟩
  rcases h.2 with h' | ⟨g, cap, cur, hv, hg, hh, r⟩
  · exact Or.inl h'
  · exact Or.inr ⟨g, cap, cur, hv, hg, (hb.block g (Array.getElem?_eq_some_iff.1 hh).1).trans hh, r⟩
theorem Own.below (h : Own w B A n c l) (hb : Below w.heap.size w w') : Own w' B A n c l := Ov.below h hb
theorem Ov.empty (w : World) (B : Nat) (e : TypeId) (hB : B ≤ w.heap.size) : Ov (w.alloc (.cells #[] e)) B e (some ⟨w.heap.size, 0, none⟩) 0 0 [] := World.ownsRow_made w #[] 0 hB (Nat.zero_le _) rfl
theorem Own.empty (w : World) (B : Nat) (hB : B ≤ w.heap.size) : Own (w.alloc (.cells #[] 5)) B (some ⟨w.heap.size, 0, none⟩) 0 0 [] := Ov.empty w B _ hB
theorem Ov.alloc (h : Ov w B e A n c xs) (o : Obj) : Ov (w.alloc o) B e A n c xs := World.ownsRow.alloc h o
theorem Own.alloc (h : Own w B A n c l) (o : Obj) : Own (w.alloc o) B A n c l := World.ownsRow.alloc h o
end

/-- Go's growth, held within bounds: what an append of c to the room of 'cap' asks. -/
def Fits (n m c bytes : Nat) : Prop := c < n + m → Builtin.nextslicecap (n + m) c * bytes ≤ 281474976710656
theorem fits_small {n m c bytes : Nat} (h : (n + m) * bytes ≤ 140737488355328) : Fits n m c bytes := fun hc => growslice_fits hc h
theorem fits_zero {m : Nat} (h : m ≤ 281474976710656) : Fits 0 m 0 1 := fun hc => by
  rw [Nat.zero_add] at *
  rw [nextslicecap_zero (by omega)]; omega
theorem nextcap_quarter {need old : Nat} (h : old < need) (h0 : 1024 ≤ need) : 4 * Builtin.nextslicecap need old ≤ 5 * need + 1024 := by
  unfold Builtin.nextslicecap
  split
  · omega
  · split
    · omega
    · rw [growBy_four]
      repeat' split
      all_goals omega
theorem fits_quarter {n m c : Nat} (h0 : 5 * (n + m) + 1024 ≤ 1125899906842624) : Fits n m c 1 := fun hc => by
  by_cases hs : 1024 ≤ n + m
  · have := nextcap_quarter hc hs; omega
  · have := nextslicecap_le hc; omega

/-- append, the base slice of the call's own, the source any slice. -/
theorem run_app {P : Program} (w : World) (B : Nat) (t ty e : TypeId) (i : TypeInfo) (z : Value) (bytes : Nat) (ht : P.underlying t = some (.slice e)) (hi : P.info? e = some i) (hz : i.zero = some z)
    (hsize : i.size = 1) (hby : i.bytes = bytes) (hzs : z.cells.size = 1)
    (A : Option Addr) (n c : Nat) (xs : List Value) (hown : Ov w B e A n c xs)
    (B2 : Nat) (A2 : Option Addr) (m c2 : Nat) (news : List Value) (hr : Rv w B2 A2 m c2 news) (h1 : ∀ u ∈ news, u.oneCell' = true)
    (hfit : Fits n m c bytes) (h63 : n + m ≤ maxLen) (hbase : B ≤ w.heap.size) :
    ∃ A' c' w', (Builtin.append_ #[t, t] ty #[.slice A n c, .slice A2 m c2]).run P w = .ok (.slice A' (n + m) c') w' ∧ Ov w' B e A' (n + m) c' (xs ++ news) ∧ w.grownBy w' (Value.slice A n c).ownBlock ∧
      ((Value.slice A' (n + m) c').ownBlock = (Value.slice A n c).ownBlock ∨ (Value.slice A' (n + m) c').ownBlock = some w.heap.size) := by
  have shape : ∀ (v : Value) (k : Nat) (ys : List Value) (W : World), W.ownsRow B e 1 v k ys → ∃ A' c', v = .slice A' k c' := by
    intro v k ys W h
    rcases h.2 with ⟨rfl, rfl⟩ | ⟨g, cap, cur, rfl, _⟩
    · exact ⟨_, _, rfl⟩
    · exact ⟨_, _, rfl⟩
  cases A2 with
  | none =>
    have hc0 : c2 = 0 := hr.2.2.2.1 rfl
    have hm : m = 0 := by have := hr.2.1; omega
    subst hm
    subst hc0
    have hn : news = [] := List.eq_nil_of_length_eq_zero hr.1
    subst hn
    exact ⟨A, c, w, run_append_owned_none w B t ty e i 1 ht hi _ n xs hown, by simpa using hown, World.grownBy.refl w _, Or.inl rfl⟩
  | some a =>
    have hl : news.length = m * i.size := by rw [hsize]; simpa using hr.1
    have hnews : ∀ j u, news[j]? = some u → w.cell? (a.add j) = some u := fun j u hu => hr.2.2.2.2.2 a j u rfl hu
    subst hby
    have hsmall : n + m ≤ 9223372036854775807 := by simp only [maxLen] at h63; omega
    have hxl : xs.length = n * i.size := by rw [hsize]; exact hown.1
    have hlen : (xs ++ news).length = (n + m) * i.size := by rw [List.length_append, hxl, hl, Nat.add_mul]
    have grown : ∀ (old : Nat), old < n + m → ∀ (row : Option Nat),
        (w.drew.alloc (.cells (xs.toArray ++ news.toArray ++ Builtin.zeroCells z.cells (grownCap w (n + m) old e - (n + m))) e)).ownsRow B e i.size
          (.slice (some ⟨w.heap.size, 0, none⟩) (n + m) (grownCap w (n + m) old e)) (n + m) (xs ++ news) ∧
        w.grownBy (w.drew.alloc (.cells (xs.toArray ++ news.toArray ++ Builtin.zeroCells z.cells (grownCap w (n + m) old e - (n + m))) e)) row := by
      intro old ho row
      have hge := grownCap_ge w (n + m) old e
      have hcm : grownCap w (n + m) old e ≤ maxLen := grownCap_le_maxLen w (n + m) old e h63
      refine ⟨⟨hlen, .inr ⟨w.heap.size, _, _, rfl, hbase, heap_alloc_new w.drew _, hge, hcm, ?_, ?_⟩⟩, ⟨rfl, rfl, rfl, by simp, fun k hk _ => (World.grownBy_alloc w.drew _ none).block k hk (by simp)⟩⟩
      · simp only [Array.size_append, List.size_toArray, size_zeroCells, hzs, hxl, hl, hsize, ← Nat.add_mul]
        omega
      · simp only [Array.toList_append, List.append_assoc]
        rw [← List.append_assoc, ← hlen]
        exact List.take_left
    rw [hsize] at grown hlen
    have hl1 : news.length = m := by rw [hl, hsize]; omega
    rcases hown.2 with ⟨hv, rfl⟩ | ⟨g, cap, cur, hv, hbg, hg, hnc, hcm, hcs, htake⟩
    · injection hv with e1 e2 e3
      subst e1; subst e3
      have hx : xs = [] := List.eq_nil_of_length_eq_zero (by simpa using hown.1)
      subst hx
      by_cases hm : m = 0
      · subst hm
        have hn : news = [] := List.eq_nil_of_length_eq_zero (by simpa using hl)
        subst hn
        refine ⟨none, 0, w, ?_, World.ownsRow_nil w B e 1, ⟨rfl, rfl, rfl, Nat.le_refl _, fun _ _ _ => rfl⟩, Or.inl rfl⟩
        simp [Builtin.append_, run_underlying ht, sizeOf, typeInfo, hi, Builtin.lenOf, Builtin.firstCells, loadCells, loadCellsFrom]
      · have h48 : m * i.bytes ≤ 281474976710656 := by
          have h := hfit (by omega)
          rw [Nat.zero_add, nextslicecap_zero (by omega)] at h
          exact h
        have hr' := run_append_nil (P := P) w t ty e i z ht hi hz a m c2 news hl hnews (by omega) (by omega) h48
        have hgr := grown 0 (by omega) (Value.ownBlock (.slice none 0 0))
        simp only [Nat.zero_add, List.nil_append, Array.empty_append] at hgr ⊢
        exact ⟨_, _, _, hr', hgr.1, hgr.2, Or.inr rfl⟩
    · injection hv with e1 e2 e3
      subst e1; subst e3
      by_cases hroom : n + m ≤ c
      · have hfit2 : n * i.size + news.length ≤ cur.size := by rw [hl, hcs, hsize]; omega
        have hr' := run_append_room (P := P) w t ty e i ht hi g n c cur hg a m c2 news hl hnews h1 hroom hfit2
        rw [hsize] at hr'
        refine ⟨_, _, _, hr', ⟨hlen, .inr ⟨g, c, _, rfl, hbg, setRow_heap w g cur _ e _ hg, hroom, hcm, ?_, ?_⟩⟩, ⟨rfl, rfl, rfl, by simp, fun k _ hk => setRow_other w g k _ (fun e => hk (by simp [Value.ownBlock, e]))⟩, Or.inl rfl⟩
        · simp only [List.size_toArray, List.length_append, List.length_take, List.length_drop, Array.length_toList]
          omega
        · rw [htake, ← hlen]
          exact List.take_left
      · have holds : ∀ j u, xs[j]? = some u → w.cell? ((⟨g, 0, none⟩ : Addr).add j) = some u := World.ownsRow.cells (g := g) hown rfl
        have hr' := run_append_grow (P := P) w t ty e i z ht hi hz ⟨g, 0, none⟩ n c xs hxl holds a m c2 news hl hnews (by omega) (by omega) (hfit (by omega))
        have hgr := grown c (by omega) (Value.ownBlock (.slice (some ⟨g, 0, none⟩) n c))
        exact ⟨_, _, _, hr', hgr.1, hgr.2, Or.inr rfl⟩

theorem wpList_want {P : Program} {ops : Array Oper} {rest : List Oper} {o : Oper} {a : Act} {w : World} {Q : Exit → Act → World → Prop} (hg : Region.wanted o (yielded ops a.tmps) = true)
    (h : ∀ K : Act → World → Prop, (∀ a w, wpList P ops Q rest a w → K a w) → o.wp P a w K Q) : wpList P ops Q (o :: rest) a w :=
  wpList_step fun K hK => by rw [if_pos hg]; exact h K hK
theorem wpList_app {P : Program} (w : World) {ops : Array Oper} {rest : List Oper} {o : Oper} {a : Act} {Q : Exit → Act → World → Prop}
    (hg : Region.wanted o (yielded ops a.tmps) = true) (s x : Operand) (t : TypeId) (hop : o.op = Op.call { callee := Callee.builtin Builtin.append, args := #[s, x], argTypes := #[t, t] })
    (B : Nat) (e : TypeId) (i : TypeInfo) (z : Value) (bytes : Nat) (ht : P.underlying t = some (.slice e)) (hi : P.info? e = some i) (hz : i.zero = some z)
    (hsize : i.size = 1) (hby : i.bytes = bytes) (hzs : z.cells.size = 1)
    (A : Option Addr) (n c : Nat) (xs : List Value) (hs : a.eval s = .slice A n c) (hown : Ov w B e A n c xs)
    (B2 : Nat) (A2 : Option Addr) (m c2 : Nat) (news : List Value) (hx : a.eval x = .slice A2 m c2) (hr : Rv w B2 A2 m c2 news) (h1 : ∀ u ∈ news, u.oneCell' = true)
    (hfit : Fits n m c bytes) (h63 : n + m ≤ maxLen) (hbase : B ≤ w.heap.size)
    (hK : ∀ A' c' w', Ov w' B e A' (n + m) c' (xs ++ news) → w.grownBy w' (Value.slice A n c).ownBlock →
      ((Value.slice A' (n + m) c').ownBlock = (Value.slice A n c).ownBlock ∨ (Value.slice A' (n + m) c').ownBlock = some w.heap.size) → wpList P ops Q rest (a.put o.dst (.slice A' (n + m) c')) w') :
    wpList P ops Q (o :: rest) a w := by
  refine wpList_want hg fun K hK' => ?_
  obtain ⟨A', c', w', hrun, r1, r2, r3⟩ := run_app (P := P) w B t o.type e i z bytes ht hi hz hsize hby hzs A n c xs hown B2 A2 m c2 news hr h1 hfit h63 hbase
  unfold Oper.wp
  simp [execOp, hop, resolve, invoke, builtin, hs, hx, hrun, Result.andThen]
  exact hK' _ _ (hK A' c' w' r1 r2 r3)

/-- append to bytes of the call's own: what becomes of the world below B. -/
theorem wpList_app8f (w : World) {ops : Array Oper} {rest : List Oper} {o : Oper} {a : Act} {Q : Exit → Act → World → Prop}
    (hg : Region.wanted o (yielded ops a.tmps) = true) (s x : Operand) (hop : o.op = Op.call { callee := Callee.builtin Builtin.append, args := #[s, x], argTypes := #[23, 23] })
    (B : Nat) (A : Option Addr) (n c : Nat) (l : List UInt8) (hs : a.eval s = .slice A n c) (hown : Own w B A n c l)
    (B2 : Nat) (A2 : Option Addr) (m c2 : Nat) (l2 : List UInt8) (hx : a.eval x = .slice A2 m c2) (hr : Rd w B2 A2 m c2 l2)
    (hfit : Fits n m c 1) (hm : n + m ≤ 281474976710656) (hbase : B ≤ w.heap.size)
    (hK : ∀ A' c' w', Own w' B A' (n + m) c' (l ++ l2) → Below B w w' → wpList Try.prog ops Q rest (a.put o.dst (.slice A' (n + m) c')) w') :
    wpList Try.prog ops Q (o :: rest) a w := by
  obtain ⟨i0, hi0, hz0, hz1, hz2⟩ := info_parts u8info
  refine wpList_app w hg s x _ hop B 5 i0 _ 1 Try.underlying23 hi0 hz0 hz1 hz2 rfl A n c (cbs l) hs hown B2 A2 m c2 (cbs l2) hx hr (cbs_one _) hfit (by unfold maxLen; omega) hbase ?_
  intro A' c' w' h1 h2 _
  refine hK A' c' w' ?_ ?_
  · unfold Own
    rw [cbs_append]
    exact h1
  · refine (Below.refl B w).grown h2 hbase fun k hk => ?_
    exact (World.ownsRow.lt hown k hk).1

theorem wpList_app8 (w : World) {ops : Array Oper} {rest : List Oper} {o : Oper} {a : Act} {Q : Exit → Act → World → Prop}
    (hg : Region.wanted o (yielded ops a.tmps) = true) (s x : Operand) (hop : o.op = Op.call { callee := Callee.builtin Builtin.append, args := #[s, x], argTypes := #[23, 23] })
    (B : Nat) (A : Option Addr) (n c : Nat) (l : List UInt8) (hs : a.eval s = .slice A n c) (hown : Own w B A n c l)
    (B2 : Nat) (A2 : Option Addr) (m c2 : Nat) (l2 : List UInt8) (hx : a.eval x = .slice A2 m c2) (hr : Rd w B2 A2 m c2 l2)
    (hbytes : n + m ≤ 140737488355328) (hbase : B ≤ w.heap.size)
    (hK : ∀ A' c' w', Own w' B A' (n + m) c' (l ++ l2) → Below B w w' → wpList Try.prog ops Q rest (a.put o.dst (.slice A' (n + m) c')) w') :
    wpList Try.prog ops Q (o :: rest) a w := by
  exact wpList_app8f w hg s x hop B A n c l hs hown B2 A2 m c2 l2 hx hr (fits_small (by omega)) (by omega) hbase hK

/-- A call that only reads: nothing turns. -/
theorem quiet_below {w w' : World} (h : ∃ q, w' = w.drewN q) (B : Nat) : Below B w w' := by
  obtain ⟨q, rfl⟩ := h
  exact ⟨rfl, rfl, rfl, Nat.le_refl _, fun _ _ => rfl⟩
theorem quiet_self {w w' : World} (h : ∃ q, w' = w.drewN q) : Below w.heap.size w w' := quiet_below h _
theorem quiet_refl (w : World) : ∃ q, w = w.drewN q := ⟨0, rfl⟩
theorem quiet_trans {w w' w'' : World} (h : ∃ q, w' = w.drewN q) (h' : ∃ q, w'' = w'.drewN q) : ∃ q, w'' = w.drewN q := by
  obtain ⟨q, rfl⟩ := h
  obtain ⟨q', rfl⟩ := h'
  exact ⟨q + q', World.drewN_drewN _ _ _⟩
theorem Rv.step {w w' : World} {A : Option Addr} {n c : Nat} {xs : List Value} (h : Rv w w.heap.size A n c xs) (hb : Below w.heap.size w w') : Rv w' w'.heap.size A n c xs := (h.below hb).more hb.size
theorem Rd.step {w w' : World} {A : Option Addr} {n c : Nat} {l : List UInt8} (h : Rd w w.heap.size A n c l) (hb : Below w.heap.size w w') : Rd w' w'.heap.size A n c l := (h.below hb).more hb.size
theorem Ov.step {w w' : World} {B : Nat} {e : TypeId} {A : Option Addr} {n c : Nat} {xs : List Value} (h : Ov w B e A n c xs) (hb : Below w.heap.size w w') : Ov w' B e A n c xs := h.below hb
theorem Own.step {w w' : World} {B : Nat} {A : Option Addr} {n c : Nat} {l : List UInt8} (h : Own w B A n c l) (hb : Below w.heap.size w w') : Own w' B A n c l := h.below hb
theorem below_step {w w1 w2 : World} (b : Below w.heap.size w w1) (hb : Below w1.heap.size w1 w2) : Below w.heap.size w w2 := b.trans (hb.mono b.size)
/-- One or two new blocks, whatever they hold. -/
theorem below_a1 {B : Nat} {w w' : World} (h : Below B w w') (hB : B ≤ w.heap.size) (o : Obj) : Below B w (w'.alloc o) := h.alloc (Nat.le_trans hB h.size) o
theorem below_a1' {w w' : World} (h : Below w.heap.size w w') (o : Obj) : Below w.heap.size w (w'.alloc o) := h.alloc h.size o
theorem below_a2 {B : Nat} {w w' : World} (h : Below B w w') (hB : B ≤ w.heap.size) (o o' : Obj) : Below B w ((w'.alloc o).alloc o') := below_a1 (below_a1 h hB o) hB o'

/-- A block that is known whole, and stays. -/
def Blk (w : World) (g : Nat) (cs : Array Value) (T : TypeId) : Prop := w.heap[g]? = some (.cells cs T (0, 0))
theorem Blk.new (w : World) (cs : Array Value) (T : TypeId) : Blk (w.alloc (.cells cs T)) w.heap.size cs T := heap_alloc_new w _
theorem Blk.lt {w : World} {g : Nat} {cs : Array Value} {T : TypeId} (h : Blk w g cs T) : g < w.heap.size := (Array.getElem?_eq_some_iff.1 h).1
theorem Blk.step {w w' : World} {g : Nat} {cs : Array Value} {T : TypeId} (h : Blk w g cs T) (hb : Below w.heap.size w w') : Blk w' g cs T := (hb.block g h.lt).trans h
theorem Blk.alloc {w : World} {g : Nat} {cs : Array Value} {T : TypeId} (h : Blk w g cs T) (o : Obj) : Blk (w.alloc o) g cs T := (Below.heap_alloc w o g h.lt).trans h
theorem Blk.frozen {w : World} {g : Nat} {cs : Array Value} {T : TypeId} (h : Blk w g cs T) (i : Nat) : w.frozen? ⟨g, i, none⟩ = false := frozen_of_row w g i _ _ h
theorem Blk.far {w : World} {g : Nat} {cs : Array Value} {T : TypeId} (h : Blk w g cs T) {p : Addr} (hp : g ≠ p.block) (u : Value) : Blk (w.setCell p u) g cs T := (Below.heap_setCell w p u g hp).trans h
theorem Blk.set_ {w : World} {g : Nat} {cs : Array Value} {T : TypeId} (h : Blk w g cs T) (i : Nat) (u : Value) : Blk (w.setCell ⟨g, i, none⟩ u) g (cs.setIfInBounds i u) T := heap_setCell_same w g i _ _ _ h
theorem box1 {w : World} {g : Nat} {T : TypeId} {c0 : Value} (h : w.heap[g]? = some (.cells #[c0] T (0, 0))) : w.cell? ⟨g, 0, none⟩ = some c0 := cell_of_row w g 0 _ _ (0, 0) h
theorem box2 {w : World} {g : Nat} {T : TypeId} {c0 c1 : Value} (h : w.heap[g]? = some (.cells #[c0, c1] T (0, 0))) : w.cell? ⟨g, 0, none⟩ = some c0 ∧ w.cell? ⟨g, 1, none⟩ = some c1 := ⟨cell_of_row w g 0 _ _ (0, 0) h, cell_of_row w g 1 _ _ (0, 0) h⟩
theorem box3 {w : World} {g : Nat} {T : TypeId} {c0 c1 c2 : Value} (h : w.heap[g]? = some (.cells #[c0, c1, c2] T (0, 0))) : w.cell? ⟨g, 0, none⟩ = some c0 ∧ w.cell? ⟨g, 1, none⟩ = some c1 ∧ w.cell? ⟨g, 2, none⟩ = some c2 := ⟨cell_of_row w g 0 _ _ (0, 0) h, cell_of_row w g 1 _ _ (0, 0) h, cell_of_row w g 2 _ _ (0, 0) h⟩
theorem box4 {w : World} {g : Nat} {T : TypeId} {c0 c1 c2 c3 : Value} (h : w.heap[g]? = some (.cells #[c0, c1, c2, c3] T (0, 0))) : w.cell? ⟨g, 0, none⟩ = some c0 ∧ w.cell? ⟨g, 1, none⟩ = some c1 ∧ w.cell? ⟨g, 2, none⟩ = some c2 ∧ w.cell? ⟨g, 3, none⟩ = some c3 := ⟨cell_of_row w g 0 _ _ (0, 0) h, cell_of_row w g 1 _ _ (0, 0) h, cell_of_row w g 2 _ _ (0, 0) h, cell_of_row w g 3 _ _ (0, 0) h⟩
theorem box5 {w : World} {g : Nat} {T : TypeId} {c0 c1 c2 c3 c4 : Value} (h : w.heap[g]? = some (.cells #[c0, c1, c2, c3, c4] T (0, 0))) : w.cell? ⟨g, 0, none⟩ = some c0 ∧ w.cell? ⟨g, 1, none⟩ = some c1 ∧ w.cell? ⟨g, 2, none⟩ = some c2 ∧ w.cell? ⟨g, 3, none⟩ = some c3 ∧ w.cell? ⟨g, 4, none⟩ = some c4 := ⟨cell_of_row w g 0 _ _ (0, 0) h, cell_of_row w g 1 _ _ (0, 0) h, cell_of_row w g 2 _ _ (0, 0) h, cell_of_row w g 3 _ _ (0, 0) h, cell_of_row w g 4 _ _ (0, 0) h⟩
theorem box6 {w : World} {g : Nat} {T : TypeId} {c0 c1 c2 c3 c4 c5 : Value} (h : w.heap[g]? = some (.cells #[c0, c1, c2, c3, c4, c5] T (0, 0))) : w.cell? ⟨g, 0, none⟩ = some c0 ∧ w.cell? ⟨g, 1, none⟩ = some c1 ∧ w.cell? ⟨g, 2, none⟩ = some c2 ∧ w.cell? ⟨g, 3, none⟩ = some c3 ∧ w.cell? ⟨g, 4, none⟩ = some c4 ∧ w.cell? ⟨g, 5, none⟩ = some c5 := ⟨cell_of_row w g 0 _ _ (0, 0) h, cell_of_row w g 1 _ _ (0, 0) h, cell_of_row w g 2 _ _ (0, 0) h, cell_of_row w g 3 _ _ (0, 0) h, cell_of_row w g 4 _ _ (0, 0) h, cell_of_row w g 5 _ _ (0, 0) h⟩
theorem box7 {w : World} {g : Nat} {T : TypeId} {c0 c1 c2 c3 c4 c5 c6 : Value} (h : w.heap[g]? = some (.cells #[c0, c1, c2, c3, c4, c5, c6] T (0, 0))) : w.cell? ⟨g, 0, none⟩ = some c0 ∧ w.cell? ⟨g, 1, none⟩ = some c1 ∧ w.cell? ⟨g, 2, none⟩ = some c2 ∧ w.cell? ⟨g, 3, none⟩ = some c3 ∧ w.cell? ⟨g, 4, none⟩ = some c4 ∧ w.cell? ⟨g, 5, none⟩ = some c5 ∧ w.cell? ⟨g, 6, none⟩ = some c6 := ⟨cell_of_row w g 0 _ _ (0, 0) h, cell_of_row w g 1 _ _ (0, 0) h, cell_of_row w g 2 _ _ (0, 0) h, cell_of_row w g 3 _ _ (0, 0) h, cell_of_row w g 4 _ _ (0, 0) h, cell_of_row w g 5 _ _ (0, 0) h, cell_of_row w g 6 _ _ (0, 0) h⟩
theorem box8 {w : World} {g : Nat} {T : TypeId} {c0 c1 c2 c3 c4 c5 c6 c7 : Value} (h : w.heap[g]? = some (.cells #[c0, c1, c2, c3, c4, c5, c6, c7] T (0, 0))) : w.cell? ⟨g, 0, none⟩ = some c0 ∧ w.cell? ⟨g, 1, none⟩ = some c1 ∧ w.cell? ⟨g, 2, none⟩ = some c2 ∧ w.cell? ⟨g, 3, none⟩ = some c3 ∧ w.cell? ⟨g, 4, none⟩ = some c4 ∧ w.cell? ⟨g, 5, none⟩ = some c5 ∧ w.cell? ⟨g, 6, none⟩ = some c6 ∧ w.cell? ⟨g, 7, none⟩ = some c7 := ⟨cell_of_row w g 0 _ _ (0, 0) h, cell_of_row w g 1 _ _ (0, 0) h, cell_of_row w g 2 _ _ (0, 0) h, cell_of_row w g 3 _ _ (0, 0) h, cell_of_row w g 4 _ _ (0, 0) h, cell_of_row w g 5 _ _ (0, 0) h, cell_of_row w g 6 _ _ (0, 0) h, cell_of_row w g 7 _ _ (0, 0) h⟩
theorem box9 {w : World} {g : Nat} {T : TypeId} {c0 c1 c2 c3 c4 c5 c6 c7 c8 : Value} (h : w.heap[g]? = some (.cells #[c0, c1, c2, c3, c4, c5, c6, c7, c8] T (0, 0))) : w.cell? ⟨g, 0, none⟩ = some c0 ∧ w.cell? ⟨g, 1, none⟩ = some c1 ∧ w.cell? ⟨g, 2, none⟩ = some c2 ∧ w.cell? ⟨g, 3, none⟩ = some c3 ∧ w.cell? ⟨g, 4, none⟩ = some c4 ∧ w.cell? ⟨g, 5, none⟩ = some c5 ∧ w.cell? ⟨g, 6, none⟩ = some c6 ∧ w.cell? ⟨g, 7, none⟩ = some c7 ∧ w.cell? ⟨g, 8, none⟩ = some c8 := ⟨cell_of_row w g 0 _ _ (0, 0) h, cell_of_row w g 1 _ _ (0, 0) h, cell_of_row w g 2 _ _ (0, 0) h, cell_of_row w g 3 _ _ (0, 0) h, cell_of_row w g 4 _ _ (0, 0) h, cell_of_row w g 5 _ _ (0, 0) h, cell_of_row w g 6 _ _ (0, 0) h, cell_of_row w g 7 _ _ (0, 0) h, cell_of_row w g 8 _ _ (0, 0) h⟩
theorem box10 {w : World} {g : Nat} {T : TypeId} {c0 c1 c2 c3 c4 c5 c6 c7 c8 c9 : Value} (h : w.heap[g]? = some (.cells #[c0, c1, c2, c3, c4, c5, c6, c7, c8, c9] T (0, 0))) : w.cell? ⟨g, 0, none⟩ = some c0 ∧ w.cell? ⟨g, 1, none⟩ = some c1 ∧ w.cell? ⟨g, 2, none⟩ = some c2 ∧ w.cell? ⟨g, 3, none⟩ = some c3 ∧ w.cell? ⟨g, 4, none⟩ = some c4 ∧ w.cell? ⟨g, 5, none⟩ = some c5 ∧ w.cell? ⟨g, 6, none⟩ = some c6 ∧ w.cell? ⟨g, 7, none⟩ = some c7 ∧ w.cell? ⟨g, 8, none⟩ = some c8 ∧ w.cell? ⟨g, 9, none⟩ = some c9 := ⟨cell_of_row w g 0 _ _ (0, 0) h, cell_of_row w g 1 _ _ (0, 0) h, cell_of_row w g 2 _ _ (0, 0) h, cell_of_row w g 3 _ _ (0, 0) h, cell_of_row w g 4 _ _ (0, 0) h, cell_of_row w g 5 _ _ (0, 0) h, cell_of_row w g 6 _ _ (0, 0) h, cell_of_row w g 7 _ _ (0, 0) h, cell_of_row w g 8 _ _ (0, 0) h, cell_of_row w g 9 _ _ (0, 0) h⟩
theorem box11 {w : World} {g : Nat} {T : TypeId} {c0 c1 c2 c3 c4 c5 c6 c7 c8 c9 c10 : Value} (h : w.heap[g]? = some (.cells #[c0, c1, c2, c3, c4, c5, c6, c7, c8, c9, c10] T (0, 0))) : w.cell? ⟨g, 0, none⟩ = some c0 ∧ w.cell? ⟨g, 1, none⟩ = some c1 ∧ w.cell? ⟨g, 2, none⟩ = some c2 ∧ w.cell? ⟨g, 3, none⟩ = some c3 ∧ w.cell? ⟨g, 4, none⟩ = some c4 ∧ w.cell? ⟨g, 5, none⟩ = some c5 ∧ w.cell? ⟨g, 6, none⟩ = some c6 ∧ w.cell? ⟨g, 7, none⟩ = some c7 ∧ w.cell? ⟨g, 8, none⟩ = some c8 ∧ w.cell? ⟨g, 9, none⟩ = some c9 ∧ w.cell? ⟨g, 10, none⟩ = some c10 := ⟨cell_of_row w g 0 _ _ (0, 0) h, cell_of_row w g 1 _ _ (0, 0) h, cell_of_row w g 2 _ _ (0, 0) h, cell_of_row w g 3 _ _ (0, 0) h, cell_of_row w g 4 _ _ (0, 0) h, cell_of_row w g 5 _ _ (0, 0) h, cell_of_row w g 6 _ _ (0, 0) h, cell_of_row w g 7 _ _ (0, 0) h, cell_of_row w g 8 _ _ (0, 0) h, cell_of_row w g 9 _ _ (0, 0) h, cell_of_row w g 10 _ _ (0, 0) h⟩
theorem box12 {w : World} {g : Nat} {T : TypeId} {c0 c1 c2 c3 c4 c5 c6 c7 c8 c9 c10 c11 : Value} (h : w.heap[g]? = some (.cells #[c0, c1, c2, c3, c4, c5, c6, c7, c8, c9, c10, c11] T (0, 0))) : w.cell? ⟨g, 0, none⟩ = some c0 ∧ w.cell? ⟨g, 1, none⟩ = some c1 ∧ w.cell? ⟨g, 2, none⟩ = some c2 ∧ w.cell? ⟨g, 3, none⟩ = some c3 ∧ w.cell? ⟨g, 4, none⟩ = some c4 ∧ w.cell? ⟨g, 5, none⟩ = some c5 ∧ w.cell? ⟨g, 6, none⟩ = some c6 ∧ w.cell? ⟨g, 7, none⟩ = some c7 ∧ w.cell? ⟨g, 8, none⟩ = some c8 ∧ w.cell? ⟨g, 9, none⟩ = some c9 ∧ w.cell? ⟨g, 10, none⟩ = some c10 ∧ w.cell? ⟨g, 11, none⟩ = some c11 := ⟨cell_of_row w g 0 _ _ (0, 0) h, cell_of_row w g 1 _ _ (0, 0) h, cell_of_row w g 2 _ _ (0, 0) h, cell_of_row w g 3 _ _ (0, 0) h, cell_of_row w g 4 _ _ (0, 0) h, cell_of_row w g 5 _ _ (0, 0) h, cell_of_row w g 6 _ _ (0, 0) h, cell_of_row w g 7 _ _ (0, 0) h, cell_of_row w g 8 _ _ (0, 0) h, cell_of_row w g 9 _ _ (0, 0) h, cell_of_row w g 10 _ _ (0, 0) h, cell_of_row w g 11 _ _ (0, 0) h⟩
/-- A slice literal that the call makes. -/
theorem Ov.lit (w : World) (cs : Array Value) (e : TypeId) (B n : Nat) (xs : List Value) (hB : B ≤ w.heap.size) (hm : n ≤ maxLen) (hs : cs.size = n) (hx : cs.toList = xs) :
    Ov (w.alloc (.cells cs e)) B e (some ⟨w.heap.size, 0, none⟩) n n xs := by
  subst hx
  exact World.ownsRow_lit w cs n hB hm (by simpa using hs)
theorem Own.lit (w : World) (cs : Array Value) (B n : Nat) (l : List UInt8) (hB : B ≤ w.heap.size) (hm : n ≤ maxLen) (hs : cs.size = n) (hx : cs.toList = cbs l) :
    Own (w.alloc (.cells cs 5)) B (some ⟨w.heap.size, 0, none⟩) n n l := Ov.lit w cs _ B n _ hB hm hs hx
theorem Rd.one (w : World) (v : Value) (y : UInt8) (h : v = cb y) : Rd (w.alloc (.cells #[v] 5)) (w.heap.size + 1) (some ⟨w.heap.size, 0, none⟩) 1 1 [y] := by
  subst h
  have := Own.rd (Own.lit w #[cb y] w.heap.size 1 [y] (Nat.le_refl _) (by simp [maxLen]) rfl rfl)
  exact this.more (by simp)

theorem Rd.oneK (w : World) (k : Nat) (v : Value) (y : UInt8) (hk : w.heap.size = k) (h : v = cb y) : Rd (w.alloc (.cells #[v] 5)) (k + 1) (some ⟨k, 0, none⟩) 1 1 [y] := by
  subst hk; exact Rd.one w v y h
theorem Own.litK (w : World) (k : Nat) (cs : Array Value) (B n : Nat) (l : List UInt8) (hk : w.heap.size = k) (hB : B ≤ k) (hm : n ≤ maxLen) (hs : cs.size = n) (hx : cs.toList = cbs l) :
    Own (w.alloc (.cells cs 5)) B (some ⟨k, 0, none⟩) n n l := by
  subst hk; exact Own.lit w cs B n l hB hm hs hx
theorem Own.emptyK (w : World) (k B : Nat) (hk : w.heap.size = k) (hB : B ≤ k) : Own (w.alloc (.cells #[] 5)) B (some ⟨k, 0, none⟩) 0 0 [] := by
  subst hk; exact Own.empty w B hB

theorem below_of_grown0 {w w' : World} {B : Nat} (h : w.grownBy w' none) (hB : B ≤ w.heap.size) : Below B w w' :=
  (Below.refl B w).grown h hB fun k hk => by cases hk

/-- make([]byte, m) -/
theorem wpList_mk8 (w : World) {ops : Array Oper} {rest : List Oper} {o : Oper} {a : Act} {Q : Exit → Act → World → Prop}
    (hg : o.guard = none) (l c : Operand) (hop : o.op = Op.makeSlice 23 l c) (B m : Nat)
    (hl : a.eval l = .int .i64 (m : Int)) (hc : a.eval c = .int .i64 (m : Int)) (hm : m ≤ 281474976710656) (hB : B ≤ w.heap.size)
    (hK : ∀ w', Own w' B (some ⟨w.heap.size, 0, none⟩) m m (List.replicate m 0) → Below B w w' → wpList Try.prog ops Q rest (a.put o.dst (.slice (some ⟨w.heap.size, 0, none⟩) m m)) w') :
    wpList Try.prog ops Q (o :: rest) a w := by
  obtain ⟨i0, hi0, hz0, hz1, hz2⟩ := info_parts u8info
  refine wpList_make_full w hg l c _ hop B 5 i0 _ 1 Try.underlying23 hi0 hz0 hz1 .i64 .i64 _ _ m hl hc rfl rfl (by rw [hz2]; omega) (by unfold maxLen; omega) hB ?_
  intro w' h1 h2
  refine hK w' ?_ (below_of_grown0 h2 hB)
  have e : (madeCells (Value.int .u8 0).cells (m * 1)).toList = cbs (List.replicate m 0) := by
    apply List.ext_getElem
    · simp [madeCells, cbs]
    · intro i h3 h4
      simp [madeCells, cbs, cb, Value.cells, Nat.mod_one]
  rw [e] at h1
  exact h1
/-- make([]byte, 0, m) -/
theorem wpList_mkc8 (w : World) {ops : Array Oper} {rest : List Oper} {o : Oper} {a : Act} {Q : Exit → Act → World → Prop}
    (hg : o.guard = none) (l c : Operand) (hop : o.op = Op.makeSlice 23 l c) (B m : Nat) (C : Int)
    (hl : a.eval l = .int .i64 0) (hc : a.eval c = .int .i64 C) (hC : C = (m : Int)) (hm : m ≤ 281474976710656) (hB : B ≤ w.heap.size)
    (hK : ∀ w', Own w' B (some ⟨w.heap.size, 0, none⟩) 0 m [] → Below B w w' → wpList Try.prog ops Q rest (a.put o.dst (.slice (some ⟨w.heap.size, 0, none⟩) 0 m)) w') :
    wpList Try.prog ops Q (o :: rest) a w := by
  obtain ⟨i0, hi0, hz0, hz1, hz2⟩ := info_parts u8info
  refine wpList_make_own w hg l c _ hop B 5 i0 _ 1 Try.underlying23 hi0 hz0 hz1 .i64 .i64 _ m hl hc hC (by rw [hz2]; omega) (by unfold maxLen; omega) hB ?_
  intro w' h1 h2
  exact hK w' h1 (below_of_grown0 h2 hB)

/-- A store into a slice of the call's own. -/
theorem Own.stored {w : World} {B n c g : Nat} {l : List UInt8} (h : Own w B (some ⟨g, 0, none⟩) n c l) (j : Nat) (y : UInt8) :
    Own (w.setCell ⟨g, j, none⟩ (cb y)) B (some ⟨g, 0, none⟩) n c (l.set j y) := by
  have := (World.ownsRow.stored h j (cb y)).1
  unfold Own Ov
  rw [show cbs (l.set j y) = (cbs l).set j (cb y) from by simp [cbs, List.map_set]]
  exact this
theorem Own.base {w : World} {B n c g : Nat} {l : List UInt8} (h : Own w B (some ⟨g, 0, none⟩) n c l) : B ≤ g ∧ g < w.heap.size := World.ownsRow.lt h g rfl
theorem Own.cellAt {w : World} {B n c g : Nat} {l : List UInt8} (h : Own w B (some ⟨g, 0, none⟩) n c l) {j : Nat} (hj : j < n) : ∃ x : UInt8, l[j]? = some x ∧ w.cell? ⟨g, j, none⟩ = some (.int .u8 (x.toNat : Int)) := by
  have h1 := World.ownsRow.cellAt h j (by omega)
  have hl := h.len
  refine ⟨l[j]'(by omega), List.getElem?_eq_getElem (by omega), ?_⟩
  rw [h1, cbs_get?, List.getElem?_eq_getElem (by omega)]; rfl
theorem Own.frozenAt {w : World} {B n c g : Nat} {l : List UInt8} (h : Own w B (some ⟨g, 0, none⟩) n c l) (j : Nat) : w.frozen? ⟨g, j, none⟩ = false := World.ownsRow.frozenAt h j

/-- append to bytes of the call's own, at a step of a region that draws its order. -/
theorem step_app8 (w : World) {ops : Array Oper} {o : Oper} {a : Act} {K : Act → World → Prop} {Q : Exit → Act → World → Prop} {E : Prop}
    (hg : Region.wanted o (yielded ops a.tmps) = true) (s x : Operand) (hop : o.op = Op.call { callee := Callee.builtin Builtin.append, args := #[s, x], argTypes := #[23, 23] })
    (B : Nat) (A : Option Addr) (n c : Nat) (l : List UInt8) (hs : a.eval s = .slice A n c) (hown : Own w B A n c l)
    (B2 : Nat) (A2 : Option Addr) (m c2 : Nat) (l2 : List UInt8) (hx : a.eval x = .slice A2 m c2) (hr : Rd w B2 A2 m c2 l2)
    (hbytes : n + m ≤ 140737488355328) (hbase : B ≤ w.heap.size)
    (hK : ∀ A' c' w', Own w' B A' (n + m) c' (l ++ l2) → Below B w w' → K (a.put o.dst (.slice A' (n + m) c')) w') :
    if Region.wanted o (yielded ops a.tmps) = true then Oper.wp Try.prog o a w K Q else E := by
  rw [if_pos hg]
  obtain ⟨i0, hi0, hz0, hz1, hz2⟩ := info_parts u8info
  obtain ⟨A', c', w', hrun, h1, h2, r3⟩ := run_app (P := Try.prog) w B 23 o.type 5 i0 _ 1 Try.underlying23 hi0 hz0 hz1 hz2 rfl A n c (cbs l) hown B2 A2 m c2 (cbs l2) hr (cbs_one _) (fits_small (by omega)) (by unfold maxLen; omega) hbase
  unfold Oper.wp
  simp [execOp, hop, resolve, invoke, builtin, hs, hx, hrun, Result.andThen]
  refine hK A' c' w' ?_ ?_
  · unfold Own
    rw [cbs_append]
    exact h1
  · refine (Below.refl B w).grown h2 hbase fun k hk => ?_
    exact (World.ownsRow.lt hown k hk).1

end Go.Proofs.Ytnghmgbmflcngaa

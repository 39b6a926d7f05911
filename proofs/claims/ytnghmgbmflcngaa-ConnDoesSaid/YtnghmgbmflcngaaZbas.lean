/- Merged texts: Base, Plain, Octa, Octb, Octr, Fld. Conditions: typed in each theorem. -/
import Derived.Test.YtnghmgbmflcngaaRows
import Derived.WalkKit
import Derived.WalkSpells
import Derived.WalkLawsBesides
import Derived.BigQuiet
import Derived.Deep.QuietTactic
import Derived.Deep.DeepFit
import Derived.Deep.DeepMust
import Derived.Deep.Draws
import Derived.Lib.Hide
import Derived.Deep.AppendLies
import Derived.Maps.AppendAt
import Derived.Below
namespace Go.Proofs.Ytnghmgbmflcngaa
set_option linter.unusedVariables false
section
open Go.RowKit
theorem u8info : (Try.prog.info? 5).map (fun i => (i.zero, i.size, i.bytes)) = some (some (.int .u8 0), 1, 1) := by kernel_rfl
def cb (c : UInt8) : Value := .int .u8 (c.toNat : Int)
def cbs (l : List UInt8) : List Value := l.map cb
theorem length_cbs (l : List UInt8) : (cbs l).length = l.length := by simp [cbs]
theorem cbs_append (a b : List UInt8) : cbs (a ++ b) = cbs a ++ cbs b := by simp [cbs]
theorem cbs_get? (l : List UInt8) (i : Nat) : (cbs l)[i]? = (l[i]?).map cb := by simp [cbs]
theorem cbs_one (l : List UInt8) : ∀ u ∈ cbs l, u.oneCell' = true := by
  intro u hu
  obtain ⟨_, _, rfl⟩ := List.mem_map.1 hu
  rfl
theorem block_add (a : Addr) (n : Nat) : (a.add n).block = a.block := by unfold Addr.add; split <;> rfl
theorem add_add (a : Addr) (i j : Nat) : (a.add i).add j = a.add (i + j) := by
  unfold Addr.add
  by_cases hi : i = 0 <;> by_cases hj : j = 0 <;> simp [hi, hj, Nat.add_assoc]
def Rv (w : World) (B : Nat) (A : Option Addr) (n c : Nat) (xs : List Value) : Prop :=
  xs.length = n ∧ n ≤ c ∧ c ≤ maxLen ∧ (A = none → c = 0) ∧ (∀ ad, A = some ad → 0 < n → ad.block < B) ∧ ∀ ad i u, A = some ad → xs[i]? = some u → w.cell? (ad.add i) = some u
def Rd (w : World) (B : Nat) (A : Option Addr) (n c : Nat) (l : List UInt8) : Prop := Rv w B A n c (cbs l)
def Ov (w : World) (B : Nat) (e : TypeId) (A : Option Addr) (n c : Nat) (xs : List Value) : Prop := w.ownsRow B e 1 (.slice A n c) n xs
def Own (w : World) (B : Nat) (A : Option Addr) (n c : Nat) (l : List UInt8) : Prop := Ov w B 5 A n c (cbs l)
section
variable {w w' : World} {B B' n c : Nat} {A : Option Addr} {xs : List Value} {l : List UInt8} {e : TypeId}
theorem Rv.len (h : Rv w B A n c xs) : xs.length = n := h.1
theorem Rd.len (h : Rd w B A n c l) : l.length = n := by have := h.1; simpa [length_cbs] using this
theorem Rv.cap (h : Rv w B A n c xs) : n ≤ c := h.2.1
theorem Rd.cap (h : Rd w B A n c l) : n ≤ c := h.2.1
theorem Rv.max (h : Rv w B A n c xs) : c ≤ maxLen := h.2.2.1
theorem Rd.max (h : Rd w B A n c l) : c ≤ maxLen := h.2.2.1
theorem Rv.nil (w : World) (B : Nat) : Rv w B none 0 0 [] := ⟨rfl, Nat.le_refl _, by simp [maxLen], (fun _ => rfl), (fun _ h => by cases h), (fun _ _ _ h => by cases h)⟩
theorem Rd.nil (w : World) (B : Nat) : Rd w B none 0 0 [] := Rv.nil w B
theorem Rv.some_ (h : Rv w B A n c xs) {i : Nat} (hi : i < n) : ∃ ad u, A = some ad ∧ ad.block < B ∧ xs[i]? = some u ∧ w.cell? (ad.add i) = some u := by
  obtain ⟨h1, h2, _, h4, h5, h6⟩ := h
  cases A with
  | none => have := h4 rfl; omega
  | some ad => exact ⟨ad, xs[i]'(by omega), rfl, h5 ad rfl (by omega), List.getElem?_eq_getElem (by omega), h6 ad i _ rfl (List.getElem?_eq_getElem (by omega))⟩
theorem Rd.at_ (h : Rd w B A n c l) {i : Nat} (hi : i < n) : ∃ (ad : Addr) (x : UInt8), A = some ad ∧ ad.block < B ∧ l[i]? = some x ∧ w.cell? (ad.add i) = some (.int .u8 (x.toNat : Int)) := by
  obtain ⟨ad, u, hA, hb, hu, hc⟩ := Rv.some_ h hi
  rw [cbs_get?] at hu
  obtain ⟨x, hx, rfl⟩ := Option.map_eq_some_iff.1 hu
  exact ⟨ad, x, hA, hb, hx, hc⟩
theorem Rv.keep (h : Rv w B A n c xs) (hk : ∀ p : Addr, p.block < B → w'.cell? p = w.cell? p) : Rv w' B A n c xs := by
  obtain ⟨h1, h2, h3, h4, h5, h6⟩ := h
  refine ⟨h1, h2, h3, h4, h5, fun ad i u hA hu => ?_⟩
  have hi : i < n := by have := (List.getElem?_eq_some_iff.1 hu).1; omega
  exact (hk _ (by rw [block_add]; exact h5 ad hA (by omega))).trans (h6 ad i u hA hu)
theorem Rv.more (h : Rv w B A n c xs) (hB : B ≤ B') : Rv w B' A n c xs :=
  ⟨h.1, h.2.1, h.2.2.1, h.2.2.2.1, fun ad hA hn => Nat.lt_of_lt_of_le (h.2.2.2.2.1 ad hA hn) hB, h.2.2.2.2.2⟩
theorem Rv.below (h : Rv w B A n c xs) (hb : Below B w w') : Rv w' B A n c xs := h.keep fun _ hp => hb.cell hp
theorem Rv.drew (h : Rv w B A n c xs) : Rv w.drew B A n c xs := h
theorem Rv.drewN (h : Rv w B A n c xs) (k : Nat) : Rv (w.drewN k) B A n c xs := h
theorem Rv.alloc (h : Rv w B A n c xs) (hB : B ≤ w.heap.size) (o : Obj) : Rv (w.alloc o) B A n c xs := h.keep fun p hp => World.cell?_alloc_lt w o p (by omega)
theorem Rv.setCell (h : Rv w B A n c xs) {p : Addr} (hB : B ≤ p.block) (u : Value) : Rv (w.setCell p u) B A n c xs :=
  h.keep fun q hq => World.cell?_setCell_other w p q u (fun e => by subst e; omega)
theorem Rv.cut (h : Rv w B A n c xs) {i j : Nat} (hij : i ≤ j) (hj : j ≤ n) :
    Rv w B (if c = i then A else A.map (·.add i)) (j - i) (c - i) ((xs.take j).drop i) := by
  obtain ⟨h1, h2, h3, h4, h5, h6⟩ := h
  by_cases hc : c = i
  · rw [if_pos hc]
    have : (xs.take j).drop i = [] := List.eq_nil_of_length_eq_zero (by rw [List.length_drop, List.length_take]; omega)
    rw [this]
    refine ⟨by simp; omega, by omega, by omega, fun hA => by have := h4 hA; omega, fun ad hA hn => by omega, fun ad k u hA hu => by simp at hu⟩
  · rw [if_neg hc]
    cases A with
    | none => have := h4 rfl; omega
    | some ad =>
      refine ⟨by rw [List.length_drop, List.length_take]; omega, by omega, by omega, fun hA => by simp at hA, fun ad' hA hn => ?_, fun ad' k u hA hu => ?_⟩
      · simp only [Option.map_some, Option.some.injEq] at hA
        subst hA
        rw [block_add]
        exact h5 ad rfl (by omega)
      · simp only [Option.map_some, Option.some.injEq] at hA
        subst hA
        rw [add_add]
        rw [List.getElem?_drop, List.getElem?_take] at hu
        split at hu
        · exact h6 ad _ u rfl hu
        · cases hu
theorem Rd.keep (h : Rd w B A n c l) (hk : ∀ p : Addr, p.block < B → w'.cell? p = w.cell? p) : Rd w' B A n c l := Rv.keep h hk
theorem Rd.more (h : Rd w B A n c l) (hB : B ≤ B') : Rd w B' A n c l := Rv.more h hB
theorem Rd.below (h : Rd w B A n c l) (hb : Below B w w') : Rd w' B A n c l := Rv.below h hb
theorem Rd.alloc (h : Rd w B A n c l) (hB : B ≤ w.heap.size) (o : Obj) : Rd (w.alloc o) B A n c l := Rv.alloc h hB o
theorem Rd.setCell (h : Rd w B A n c l) {p : Addr} (hB : B ≤ p.block) (u : Value) : Rd (w.setCell p u) B A n c l := Rv.setCell h hB u
theorem Rd.drewN (h : Rd w B A n c l) (k : Nat) : Rd (w.drewN k) B A n c l := h
theorem Rd.cut (h : Rd w B A n c l) {i j : Nat} (hij : i ≤ j) (hj : j ≤ n) :
    Rd w B (if c = i then A else A.map (·.add i)) (j - i) (c - i) ((l.take j).drop i) := by
  have := Rv.cut h hij hj
  unfold Rd cbs at *
  rw [List.map_drop, List.map_take]
  exact this
theorem Ov.len (h : Ov w B e A n c xs) : xs.length = n := by have := h.1; simpa using this
theorem Own.len (h : Own w B A n c l) : l.length = n := by have := Ov.len h; simpa [length_cbs] using this
theorem Ov.rv (h : Ov w B e A n c xs) : Rv w w.heap.size A n c xs := by
  refine ⟨Ov.len h, ?_⟩
  rcases h.2 with ⟨hv, h0⟩ | ⟨g, cap, cur, hv, hg, hh, hnc, hcm, hcs, ht⟩
  · injection hv with e1 e2 e3
    subst e1; subst e3
    have hx : xs = [] := List.eq_nil_of_length_eq_zero (by rw [Ov.len h]; exact h0)
    subst hx
    exact ⟨by omega, by simp [maxLen], (fun _ => rfl), (fun _ h => by cases h), (fun _ _ _ h => by cases h)⟩
  · injection hv with e1 e2 e3
    subst e1; subst e3
    refine ⟨hnc, hcm, (fun h => by cases h), (fun ad hA _ => ?_), (fun ad i u hA hu => ?_)⟩
    · injection hA with hA; subst hA
      exact (Array.getElem?_eq_some_iff.1 hh).1
    · injection hA with hA; subst hA
      exact World.ownsRow.cells h rfl i u hu
theorem Own.rd (h : Own w B A n c l) : Rd w w.heap.size A n c l := Ov.rv h
theorem Ov.more (h : Ov w B e A n c xs) (hB : B' ≤ B) : Ov w B' e A n c xs := by
  refine ⟨h.1, ?_⟩
  rcases h.2 with h' | ⟨g, cap, cur, hv, hg, r⟩
  · exact Or.inl h'
  · exact Or.inr ⟨g, cap, cur, hv, by omega, r⟩
theorem Own.more (h : Own w B A n c l) (hB : B' ≤ B) : Own w B' A n c l := Ov.more h hB
theorem Ov.nil (w : World) (B : Nat) (e : TypeId) : Ov w B e none 0 0 [] := World.ownsRow_nil _ _ _ _
theorem Own.nil (w : World) (B : Nat) : Own w B none 0 0 [] := World.ownsRow_nil _ _ _ _
theorem Ov.below (h : Ov w B e A n c xs) (hb : Below w.heap.size w w') : Ov w' B e A n c xs := by
  refine ⟨h.1, ?_⟩
  rcases h.2 with h' | ⟨g, cap, cur, hv, hg, hh, r⟩
  · exact Or.inl h'
  · exact Or.inr ⟨g, cap, cur, hv, hg, (hb.block g (Array.getElem?_eq_some_iff.1 hh).1).trans hh, r⟩
theorem Own.below (h : Own w B A n c l) (hb : Below w.heap.size w w') : Own w' B A n c l := Ov.below h hb
theorem Ov.empty (w : World) (B : Nat) (e : TypeId) (hB : B ≤ w.heap.size) : Ov (w.alloc (.cells #[] e)) B e (some ⟨w.heap.size, 0, none⟩) 0 0 [] := World.ownsRow_made w #[] 0 hB (Nat.zero_le _) rfl
theorem Own.empty (w : World) (B : Nat) (hB : B ≤ w.heap.size) : Own (w.alloc (.cells #[] 5)) B (some ⟨w.heap.size, 0, none⟩) 0 0 [] := Ov.empty w B _ hB
theorem Ov.alloc (h : Ov w B e A n c xs) (o : Obj) : Ov (w.alloc o) B e A n c xs := World.ownsRow.alloc h o
theorem Own.alloc (h : Own w B A n c l) (o : Obj) : Own (w.alloc o) B A n c l := World.ownsRow.alloc h o
end
def Fits (n m c bytes : Nat) : Prop := c < n + m → Builtin.nextslicecap (n + m) c * bytes ≤ 281474976710656
theorem fits_small {n m c bytes : Nat} (h : (n + m) * bytes ≤ 140737488355328) : Fits n m c bytes := fun hc => growslice_fits hc h
theorem fits_zero {m : Nat} (h : m ≤ 281474976710656) : Fits 0 m 0 1 := fun hc => by
  rw [Nat.zero_add] at *
  rw [nextslicecap_zero (by omega)]; omega
theorem run_app {P : Program} (w : World) (B : Nat) (t ty e : TypeId) (i : TypeInfo) (z : Value) (bytes : Nat) (ht : P.underlying t = some (.slice e)) (hi : P.info? e = some i) (hz : i.zero = some z)
    (hsize : i.size = 1) (hby : i.bytes = bytes) (hzs : z.cells.size = 1)
    (A : Option Addr) (n c : Nat) (xs : List Value) (hown : Ov w B e A n c xs)
    (B2 : Nat) (A2 : Option Addr) (m c2 : Nat) (news : List Value) (hr : Rv w B2 A2 m c2 news) (h1 : ∀ u ∈ news, u.oneCell' = true)
    (hfit : Fits n m c bytes) (h63 : n + m ≤ maxLen) (hbase : B ≤ w.heap.size) :
    ∃ A' c' w', (Builtin.append_ #[t, t] ty #[.slice A n c, .slice A2 m c2]).run P w = .ok (.slice A' (n + m) c') w' ∧ Ov w' B e A' (n + m) c' (xs ++ news) ∧ w.grownBy w' (Value.slice A n c).ownBlock ∧
      ((Value.slice A' (n + m) c').ownBlock = (Value.slice A n c).ownBlock ∨ (Value.slice A' (n + m) c').ownBlock = some w.heap.size) := by
  have shape : ∀ (v : Value) (k : Nat) (ys : List Value) (W : World), W.ownsRow B e 1 v k ys → ∃ A' c', v = .slice A' k c' := by
    intro v k ys W h
    rcases h.2 with ⟨rfl, rfl⟩ | ⟨g, cap, cur, rfl, _⟩
    · exact ⟨_, _, rfl⟩
    · exact ⟨_, _, rfl⟩
  cases A2 with
  | none =>
    have hc0 : c2 = 0 := hr.2.2.2.1 rfl
    have hm : m = 0 := by have := hr.2.1; omega
    subst hm
    subst hc0
    have hn : news = [] := List.eq_nil_of_length_eq_zero hr.1
    subst hn
    exact ⟨A, c, w, run_append_owned_none w B t ty e i 1 ht hi _ n xs hown, by simpa using hown, World.grownBy.refl w _, Or.inl rfl⟩
  | some a =>
    have hl : news.length = m * i.size := by rw [hsize]; simpa using hr.1
    have hnews : ∀ j u, news[j]? = some u → w.cell? (a.add j) = some u := fun j u hu => hr.2.2.2.2.2 a j u rfl hu
    subst hby
    have hsmall : n + m ≤ 9223372036854775807 := by simp only [maxLen] at h63; omega
    have hxl : xs.length = n * i.size := by rw [hsize]; exact hown.1
    have hlen : (xs ++ news).length = (n + m) * i.size := by rw [List.length_append, hxl, hl, Nat.add_mul]
    have grown : ∀ (old : Nat), old < n + m → ∀ (row : Option Nat),
        (w.drew.alloc (.cells (xs.toArray ++ news.toArray ++ Builtin.zeroCells z.cells (grownCap w (n + m) old e - (n + m))) e)).ownsRow B e i.size
          (.slice (some ⟨w.heap.size, 0, none⟩) (n + m) (grownCap w (n + m) old e)) (n + m) (xs ++ news) ∧
        w.grownBy (w.drew.alloc (.cells (xs.toArray ++ news.toArray ++ Builtin.zeroCells z.cells (grownCap w (n + m) old e - (n + m))) e)) row := by
      intro old ho row
      have hge := grownCap_ge w (n + m) old e
      have hcm : grownCap w (n + m) old e ≤ maxLen := grownCap_le_maxLen w (n + m) old e h63
      refine ⟨⟨hlen, .inr ⟨w.heap.size, _, _, rfl, hbase, heap_alloc_new w.drew _, hge, hcm, ?_, ?_⟩⟩, ⟨rfl, rfl, rfl, by simp, fun k hk _ => (World.grownBy_alloc w.drew _ none).block k hk (by simp)⟩⟩
      · simp only [Array.size_append, List.size_toArray, size_zeroCells, hzs, hxl, hl, hsize, ← Nat.add_mul]
        omega
      · simp only [Array.toList_append, List.append_assoc]
        rw [← List.append_assoc, ← hlen]
        exact List.take_left
    rw [hsize] at grown hlen
    have hl1 : news.length = m := by rw [hl, hsize]; omega
    rcases hown.2 with ⟨hv, rfl⟩ | ⟨g, cap, cur, hv, hbg, hg, hnc, hcm, hcs, htake⟩
    · injection hv with e1 e2 e3
      subst e1; subst e3
      have hx : xs = [] := List.eq_nil_of_length_eq_zero (by simpa using hown.1)
      subst hx
      by_cases hm : m = 0
      · subst hm
        have hn : news = [] := List.eq_nil_of_length_eq_zero (by simpa using hl)
        subst hn
        refine ⟨none, 0, w, ?_, World.ownsRow_nil w B e 1, ⟨rfl, rfl, rfl, Nat.le_refl _, fun _ _ _ => rfl⟩, Or.inl rfl⟩
        simp [Builtin.append_, run_underlying ht, sizeOf, typeInfo, hi, Builtin.lenOf, Builtin.firstCells, loadCells, loadCellsFrom]
      · have h48 : m * i.bytes ≤ 281474976710656 := by
          have h := hfit (by omega)
          rw [Nat.zero_add, nextslicecap_zero (by omega)] at h
          exact h
        have hr' := run_append_nil (P := P) w t ty e i z ht hi hz a m c2 news hl hnews (by omega) (by omega) h48
        have hgr := grown 0 (by omega) (Value.ownBlock (.slice none 0 0))
        simp only [Nat.zero_add, List.nil_append, Array.empty_append] at hgr ⊢
        exact ⟨_, _, _, hr', hgr.1, hgr.2, Or.inr rfl⟩
    · injection hv with e1 e2 e3
      subst e1; subst e3
      by_cases hroom : n + m ≤ c
      · have hfit2 : n * i.size + news.length ≤ cur.size := by rw [hl, hcs, hsize]; omega
        have hr' := run_append_room (P := P) w t ty e i ht hi g n c cur hg a m c2 news hl hnews h1 hroom hfit2
        rw [hsize] at hr'
        refine ⟨_, _, _, hr', ⟨hlen, .inr ⟨g, c, _, rfl, hbg, setRow_heap w g cur _ e _ hg, hroom, hcm, ?_, ?_⟩⟩, ⟨rfl, rfl, rfl, by simp, fun k _ hk => setRow_other w g k _ (fun e => hk (by simp [Value.ownBlock, e]))⟩, Or.inl rfl⟩
        · simp only [List.size_toArray, List.length_append, List.length_take, List.length_drop, Array.length_toList]
          omega
        · rw [htake, ← hlen]
          exact List.take_left
      · have holds : ∀ j u, xs[j]? = some u → w.cell? ((⟨g, 0, none⟩ : Addr).add j) = some u := World.ownsRow.cells (g := g) hown rfl
        have hr' := run_append_grow (P := P) w t ty e i z ht hi hz ⟨g, 0, none⟩ n c xs hxl holds a m c2 news hl hnews (by omega) (by omega) (hfit (by omega))
        have hgr := grown c (by omega) (Value.ownBlock (.slice (some ⟨g, 0, none⟩) n c))
        exact ⟨_, _, _, hr', hgr.1, hgr.2, Or.inr rfl⟩
theorem wpList_want {P : Program} {ops : Array Oper} {rest : List Oper} {o : Oper} {a : Act} {w : World} {Q : Exit → Act → World → Prop} (hg : Region.wanted o (yielded ops a.tmps) = true)
    (h : ∀ K : Act → World → Prop, (∀ a w, wpList P ops Q rest a w → K a w) → o.wp P a w K Q) : wpList P ops Q (o :: rest) a w :=
  wpList_step fun K hK => by rw [if_pos hg]; exact h K hK
theorem wpList_app {P : Program} (w : World) {ops : Array Oper} {rest : List Oper} {o : Oper} {a : Act} {Q : Exit → Act → World → Prop}
    (hg : Region.wanted o (yielded ops a.tmps) = true) (s x : Operand) (t : TypeId) (hop : o.op = Op.call { callee := Callee.builtin Builtin.append, args := #[s, x], argTypes := #[t, t] })
    (B : Nat) (e : TypeId) (i : TypeInfo) (z : Value) (bytes : Nat) (ht : P.underlying t = some (.slice e)) (hi : P.info? e = some i) (hz : i.zero = some z)
    (hsize : i.size = 1) (hby : i.bytes = bytes) (hzs : z.cells.size = 1)
    (A : Option Addr) (n c : Nat) (xs : List Value) (hs : a.eval s = .slice A n c) (hown : Ov w B e A n c xs)
    (B2 : Nat) (A2 : Option Addr) (m c2 : Nat) (news : List Value) (hx : a.eval x = .slice A2 m c2) (hr : Rv w B2 A2 m c2 news) (h1 : ∀ u ∈ news, u.oneCell' = true)
    (hfit : Fits n m c bytes) (h63 : n + m ≤ maxLen) (hbase : B ≤ w.heap.size)
    (hK : ∀ A' c' w', Ov w' B e A' (n + m) c' (xs ++ news) → w.grownBy w' (Value.slice A n c).ownBlock →
      ((Value.slice A' (n + m) c').ownBlock = (Value.slice A n c).ownBlock ∨ (Value.slice A' (n + m) c').ownBlock = some w.heap.size) → wpList P ops Q rest (a.put o.dst (.slice A' (n + m) c')) w') :
    wpList P ops Q (o :: rest) a w := by
  refine wpList_want hg fun K hK' => ?_
  obtain ⟨A', c', w', hrun, r1, r2, r3⟩ := run_app (P := P) w B t o.type e i z bytes ht hi hz hsize hby hzs A n c xs hown B2 A2 m c2 news hr h1 hfit h63 hbase
  unfold Oper.wp
  simp [execOp, hop, resolve, invoke, builtin, hs, hx, hrun, Result.andThen]
  exact hK' _ _ (hK A' c' w' r1 r2 r3)
theorem wpList_app8f (w : World) {ops : Array Oper} {rest : List Oper} {o : Oper} {a : Act} {Q : Exit → Act → World → Prop}
    (hg : Region.wanted o (yielded ops a.tmps) = true) (s x : Operand) (hop : o.op = Op.call { callee := Callee.builtin Builtin.append, args := #[s, x], argTypes := #[23, 23] })
    (B : Nat) (A : Option Addr) (n c : Nat) (l : List UInt8) (hs : a.eval s = .slice A n c) (hown : Own w B A n c l)
    (B2 : Nat) (A2 : Option Addr) (m c2 : Nat) (l2 : List UInt8) (hx : a.eval x = .slice A2 m c2) (hr : Rd w B2 A2 m c2 l2)
    (hfit : Fits n m c 1) (hm : n + m ≤ 281474976710656) (hbase : B ≤ w.heap.size)
    (hK : ∀ A' c' w', Own w' B A' (n + m) c' (l ++ l2) → Below B w w' → wpList Try.prog ops Q rest (a.put o.dst (.slice A' (n + m) c')) w') :
    wpList Try.prog ops Q (o :: rest) a w := by
  obtain ⟨i0, hi0, hz0, hz1, hz2⟩ := info_parts u8info
  refine wpList_app w hg s x _ hop B 5 i0 _ 1 Try.underlying23 hi0 hz0 hz1 hz2 rfl A n c (cbs l) hs hown B2 A2 m c2 (cbs l2) hx hr (cbs_one _) hfit (by unfold maxLen; omega) hbase ?_
  intro A' c' w' h1 h2 _
  refine hK A' c' w' ?_ ?_
  · unfold Own
    rw [cbs_append]
    exact h1
  · refine (Below.refl B w).grown h2 hbase fun k hk => ?_
    exact (World.ownsRow.lt hown k hk).1
theorem wpList_app8 (w : World) {ops : Array Oper} {rest : List Oper} {o : Oper} {a : Act} {Q : Exit → Act → World → Prop}
    (hg : Region.wanted o (yielded ops a.tmps) = true) (s x : Operand) (hop : o.op = Op.call { callee := Callee.builtin Builtin.append, args := #[s, x], argTypes := #[23, 23] })
    (B : Nat) (A : Option Addr) (n c : Nat) (l : List UInt8) (hs : a.eval s = .slice A n c) (hown : Own w B A n c l)
    (B2 : Nat) (A2 : Option Addr) (m c2 : Nat) (l2 : List UInt8) (hx : a.eval x = .slice A2 m c2) (hr : Rd w B2 A2 m c2 l2)
    (hbytes : n + m ≤ 140737488355328) (hbase : B ≤ w.heap.size)
    (hK : ∀ A' c' w', Own w' B A' (n + m) c' (l ++ l2) → Below B w w' → wpList Try.prog ops Q rest (a.put o.dst (.slice A' (n + m) c')) w') :
    wpList Try.prog ops Q (o :: rest) a w := by
  exact wpList_app8f w hg s x hop B A n c l hs hown B2 A2 m c2 l2 hx hr (fits_small (by omega)) (by omega) hbase hK
theorem quiet_below {w w' : World} (h : ∃ q, w' = w.drewN q) (B : Nat) : Below B w w' := by
  obtain ⟨q, rfl⟩ := h
  exact ⟨rfl, rfl, rfl, Nat.le_refl _, fun _ _ => rfl⟩
theorem quiet_self {w w' : World} (h : ∃ q, w' = w.drewN q) : Below w.heap.size w w' := quiet_below h _
theorem Rv.step {w w' : World} {A : Option Addr} {n c : Nat} {xs : List Value} (h : Rv w w.heap.size A n c xs) (hb : Below w.heap.size w w') : Rv w' w'.heap.size A n c xs := (h.below hb).more hb.size
theorem Rd.step {w w' : World} {A : Option Addr} {n c : Nat} {l : List UInt8} (h : Rd w w.heap.size A n c l) (hb : Below w.heap.size w w') : Rd w' w'.heap.size A n c l := (h.below hb).more hb.size
theorem Ov.step {w w' : World} {B : Nat} {e : TypeId} {A : Option Addr} {n c : Nat} {xs : List Value} (h : Ov w B e A n c xs) (hb : Below w.heap.size w w') : Ov w' B e A n c xs := h.below hb
theorem Own.step {w w' : World} {B : Nat} {A : Option Addr} {n c : Nat} {l : List UInt8} (h : Own w B A n c l) (hb : Below w.heap.size w w') : Own w' B A n c l := h.below hb
theorem below_step {w w1 w2 : World} (b : Below w.heap.size w w1) (hb : Below w1.heap.size w1 w2) : Below w.heap.size w w2 := b.trans (hb.mono b.size)
theorem below_a1 {B : Nat} {w w' : World} (h : Below B w w') (hB : B ≤ w.heap.size) (o : Obj) : Below B w (w'.alloc o) := h.alloc (Nat.le_trans hB h.size) o
theorem below_a1' {w w' : World} (h : Below w.heap.size w w') (o : Obj) : Below w.heap.size w (w'.alloc o) := h.alloc h.size o
def Blk (w : World) (g : Nat) (cs : Array Value) (T : TypeId) : Prop := w.heap[g]? = some (.cells cs T (0, 0))
theorem Blk.new (w : World) (cs : Array Value) (T : TypeId) : Blk (w.alloc (.cells cs T)) w.heap.size cs T := heap_alloc_new w _
theorem Blk.lt {w : World} {g : Nat} {cs : Array Value} {T : TypeId} (h : Blk w g cs T) : g < w.heap.size := (Array.getElem?_eq_some_iff.1 h).1
theorem Blk.step {w w' : World} {g : Nat} {cs : Array Value} {T : TypeId} (h : Blk w g cs T) (hb : Below w.heap.size w w') : Blk w' g cs T := (hb.block g h.lt).trans h
theorem Blk.alloc {w : World} {g : Nat} {cs : Array Value} {T : TypeId} (h : Blk w g cs T) (o : Obj) : Blk (w.alloc o) g cs T := (Below.heap_alloc w o g h.lt).trans h
theorem Blk.frozen {w : World} {g : Nat} {cs : Array Value} {T : TypeId} (h : Blk w g cs T) (i : Nat) : w.frozen? ⟨g, i, none⟩ = false := frozen_of_row w g i _ _ h
theorem Blk.far {w : World} {g : Nat} {cs : Array Value} {T : TypeId} (h : Blk w g cs T) {p : Addr} (hp : g ≠ p.block) (u : Value) : Blk (w.setCell p u) g cs T := (Below.heap_setCell w p u g hp).trans h
theorem Blk.set_ {w : World} {g : Nat} {cs : Array Value} {T : TypeId} (h : Blk w g cs T) (i : Nat) (u : Value) : Blk (w.setCell ⟨g, i, none⟩ u) g (cs.setIfInBounds i u) T := heap_setCell_same w g i _ _ _ h
theorem box1 {w : World} {g : Nat} {T : TypeId} {c0 : Value} (h : w.heap[g]? = some (.cells #[c0] T (0, 0))) : w.cell? ⟨g, 0, none⟩ = some c0 := cell_of_row w g 0 _ _ (0, 0) h
theorem box2 {w : World} {g : Nat} {T : TypeId} {c0 c1 : Value} (h : w.heap[g]? = some (.cells #[c0, c1] T (0, 0))) : w.cell? ⟨g, 0, none⟩ = some c0 ∧ w.cell? ⟨g, 1, none⟩ = some c1 := ⟨cell_of_row w g 0 _ _ (0, 0) h, cell_of_row w g 1 _ _ (0, 0) h⟩
theorem box3 {w : World} {g : Nat} {T : TypeId} {c0 c1 c2 : Value} (h : w.heap[g]? = some (.cells #[c0, c1, c2] T (0, 0))) : w.cell? ⟨g, 0, none⟩ = some c0 ∧ w.cell? ⟨g, 1, none⟩ = some c1 ∧ w.cell? ⟨g, 2, none⟩ = some c2 := ⟨cell_of_row w g 0 _ _ (0, 0) h, cell_of_row w g 1 _ _ (0, 0) h, cell_of_row w g 2 _ _ (0, 0) h⟩
theorem box4 {w : World} {g : Nat} {T : TypeId} {c0 c1 c2 c3 : Value} (h : w.heap[g]? = some (.cells #[c0, c1, c2, c3] T (0, 0))) : w.cell? ⟨g, 0, none⟩ = some c0 ∧ w.cell? ⟨g, 1, none⟩ = some c1 ∧ w.cell? ⟨g, 2, none⟩ = some c2 ∧ w.cell? ⟨g, 3, none⟩ = some c3 := ⟨cell_of_row w g 0 _ _ (0, 0) h, cell_of_row w g 1 _ _ (0, 0) h, cell_of_row w g 2 _ _ (0, 0) h, cell_of_row w g 3 _ _ (0, 0) h⟩
theorem box5 {w : World} {g : Nat} {T : TypeId} {c0 c1 c2 c3 c4 : Value} (h : w.heap[g]? = some (.cells #[c0, c1, c2, c3, c4] T (0, 0))) : w.cell? ⟨g, 0, none⟩ = some c0 ∧ w.cell? ⟨g, 1, none⟩ = some c1 ∧ w.cell? ⟨g, 2, none⟩ = some c2 ∧ w.cell? ⟨g, 3, none⟩ = some c3 ∧ w.cell? ⟨g, 4, none⟩ = some c4 := ⟨cell_of_row w g 0 _ _ (0, 0) h, cell_of_row w g 1 _ _ (0, 0) h, cell_of_row w g 2 _ _ (0, 0) h, cell_of_row w g 3 _ _ (0, 0) h, cell_of_row w g 4 _ _ (0, 0) h⟩
theorem box7 {w : World} {g : Nat} {T : TypeId} {c0 c1 c2 c3 c4 c5 c6 : Value} (h : w.heap[g]? = some (.cells #[c0, c1, c2, c3, c4, c5, c6] T (0, 0))) : w.cell? ⟨g, 0, none⟩ = some c0 ∧ w.cell? ⟨g, 1, none⟩ = some c1 ∧ w.cell? ⟨g, 2, none⟩ = some c2 ∧ w.cell? ⟨g, 3, none⟩ = some c3 ∧ w.cell? ⟨g, 4, none⟩ = some c4 ∧ w.cell? ⟨g, 5, none⟩ = some c5 ∧ w.cell? ⟨g, 6, none⟩ = some c6 := ⟨cell_of_row w g 0 _ _ (0, 0) h, cell_of_row w g 1 _ _ (0, 0) h, cell_of_row w g 2 _ _ (0, 0) h, cell_of_row w g 3 _ _ (0, 0) h, cell_of_row w g 4 _ _ (0, 0) h, cell_of_row w g 5 _ _ (0, 0) h, cell_of_row w g 6 _ _ (0, 0) h⟩
theorem box9 {w : World} {g : Nat} {T : TypeId} {c0 c1 c2 c3 c4 c5 c6 c7 c8 : Value} (h : w.heap[g]? = some (.cells #[c0, c1, c2, c3, c4, c5, c6, c7, c8] T (0, 0))) : w.cell? ⟨g, 0, none⟩ = some c0 ∧ w.cell? ⟨g, 1, none⟩ = some c1 ∧ w.cell? ⟨g, 2, none⟩ = some c2 ∧ w.cell? ⟨g, 3, none⟩ = some c3 ∧ w.cell? ⟨g, 4, none⟩ = some c4 ∧ w.cell? ⟨g, 5, none⟩ = some c5 ∧ w.cell? ⟨g, 6, none⟩ = some c6 ∧ w.cell? ⟨g, 7, none⟩ = some c7 ∧ w.cell? ⟨g, 8, none⟩ = some c8 := ⟨cell_of_row w g 0 _ _ (0, 0) h, cell_of_row w g 1 _ _ (0, 0) h, cell_of_row w g 2 _ _ (0, 0) h, cell_of_row w g 3 _ _ (0, 0) h, cell_of_row w g 4 _ _ (0, 0) h, cell_of_row w g 5 _ _ (0, 0) h, cell_of_row w g 6 _ _ (0, 0) h, cell_of_row w g 7 _ _ (0, 0) h, cell_of_row w g 8 _ _ (0, 0) h⟩
theorem box12 {w : World} {g : Nat} {T : TypeId} {c0 c1 c2 c3 c4 c5 c6 c7 c8 c9 c10 c11 : Value} (h : w.heap[g]? = some (.cells #[c0, c1, c2, c3, c4, c5, c6, c7, c8, c9, c10, c11] T (0, 0))) : w.cell? ⟨g, 0, none⟩ = some c0 ∧ w.cell? ⟨g, 1, none⟩ = some c1 ∧ w.cell? ⟨g, 2, none⟩ = some c2 ∧ w.cell? ⟨g, 3, none⟩ = some c3 ∧ w.cell? ⟨g, 4, none⟩ = some c4 ∧ w.cell? ⟨g, 5, none⟩ = some c5 ∧ w.cell? ⟨g, 6, none⟩ = some c6 ∧ w.cell? ⟨g, 7, none⟩ = some c7 ∧ w.cell? ⟨g, 8, none⟩ = some c8 ∧ w.cell? ⟨g, 9, none⟩ = some c9 ∧ w.cell? ⟨g, 10, none⟩ = some c10 ∧ w.cell? ⟨g, 11, none⟩ = some c11 := ⟨cell_of_row w g 0 _ _ (0, 0) h, cell_of_row w g 1 _ _ (0, 0) h, cell_of_row w g 2 _ _ (0, 0) h, cell_of_row w g 3 _ _ (0, 0) h, cell_of_row w g 4 _ _ (0, 0) h, cell_of_row w g 5 _ _ (0, 0) h, cell_of_row w g 6 _ _ (0, 0) h, cell_of_row w g 7 _ _ (0, 0) h, cell_of_row w g 8 _ _ (0, 0) h, cell_of_row w g 9 _ _ (0, 0) h, cell_of_row w g 10 _ _ (0, 0) h, cell_of_row w g 11 _ _ (0, 0) h⟩
theorem Ov.lit (w : World) (cs : Array Value) (e : TypeId) (B n : Nat) (xs : List Value) (hB : B ≤ w.heap.size) (hm : n ≤ maxLen) (hs : cs.size = n) (hx : cs.toList = xs) :
    Ov (w.alloc (.cells cs e)) B e (some ⟨w.heap.size, 0, none⟩) n n xs := by
  subst hx
  exact World.ownsRow_lit w cs n hB hm (by simpa using hs)
theorem Own.lit (w : World) (cs : Array Value) (B n : Nat) (l : List UInt8) (hB : B ≤ w.heap.size) (hm : n ≤ maxLen) (hs : cs.size = n) (hx : cs.toList = cbs l) :
    Own (w.alloc (.cells cs 5)) B (some ⟨w.heap.size, 0, none⟩) n n l := Ov.lit w cs _ B n _ hB hm hs hx
theorem Rd.one (w : World) (v : Value) (y : UInt8) (h : v = cb y) : Rd (w.alloc (.cells #[v] 5)) (w.heap.size + 1) (some ⟨w.heap.size, 0, none⟩) 1 1 [y] := by
  subst h
  have := Own.rd (Own.lit w #[cb y] w.heap.size 1 [y] (Nat.le_refl _) (by simp [maxLen]) rfl rfl)
  exact this.more (by simp)
theorem Rd.oneK (w : World) (k : Nat) (v : Value) (y : UInt8) (hk : w.heap.size = k) (h : v = cb y) : Rd (w.alloc (.cells #[v] 5)) (k + 1) (some ⟨k, 0, none⟩) 1 1 [y] := by
  subst hk; exact Rd.one w v y h
theorem Own.litK (w : World) (k : Nat) (cs : Array Value) (B n : Nat) (l : List UInt8) (hk : w.heap.size = k) (hB : B ≤ k) (hm : n ≤ maxLen) (hs : cs.size = n) (hx : cs.toList = cbs l) :
    Own (w.alloc (.cells cs 5)) B (some ⟨k, 0, none⟩) n n l := by
  subst hk; exact Own.lit w cs B n l hB hm hs hx
theorem Own.emptyK (w : World) (k B : Nat) (hk : w.heap.size = k) (hB : B ≤ k) : Own (w.alloc (.cells #[] 5)) B (some ⟨k, 0, none⟩) 0 0 [] := by
  subst hk; exact Own.empty w B hB
theorem below_of_grown0 {w w' : World} {B : Nat} (h : w.grownBy w' none) (hB : B ≤ w.heap.size) : Below B w w' :=
  (Below.refl B w).grown h hB fun k hk => by cases hk
theorem wpList_mk8 (w : World) {ops : Array Oper} {rest : List Oper} {o : Oper} {a : Act} {Q : Exit → Act → World → Prop}
    (hg : o.guard = none) (l c : Operand) (hop : o.op = Op.makeSlice 23 l c) (B m : Nat)
    (hl : a.eval l = .int .i64 (m : Int)) (hc : a.eval c = .int .i64 (m : Int)) (hm : m ≤ 281474976710656) (hB : B ≤ w.heap.size)
    (hK : ∀ w', Own w' B (some ⟨w.heap.size, 0, none⟩) m m (List.replicate m 0) → Below B w w' → wpList Try.prog ops Q rest (a.put o.dst (.slice (some ⟨w.heap.size, 0, none⟩) m m)) w') :
    wpList Try.prog ops Q (o :: rest) a w := by
  obtain ⟨i0, hi0, hz0, hz1, hz2⟩ := info_parts u8info
  refine wpList_make_full w hg l c _ hop B 5 i0 _ 1 Try.underlying23 hi0 hz0 hz1 .i64 .i64 _ _ m hl hc rfl rfl (by rw [hz2]; omega) (by unfold maxLen; omega) hB ?_
  intro w' h1 h2
  refine hK w' ?_ (below_of_grown0 h2 hB)
  have e : (madeCells (Value.int .u8 0).cells (m * 1)).toList = cbs (List.replicate m 0) := by
    apply List.ext_getElem
    · simp [madeCells, cbs]
    · intro i h3 h4
      simp [madeCells, cbs, cb, Value.cells, Nat.mod_one]
  rw [e] at h1
  exact h1
theorem Own.stored {w : World} {B n c g : Nat} {l : List UInt8} (h : Own w B (some ⟨g, 0, none⟩) n c l) (j : Nat) (y : UInt8) :
    Own (w.setCell ⟨g, j, none⟩ (cb y)) B (some ⟨g, 0, none⟩) n c (l.set j y) := by
  have := (World.ownsRow.stored h j (cb y)).1
  unfold Own Ov
  rw [show cbs (l.set j y) = (cbs l).set j (cb y) from by simp [cbs, List.map_set]]
  exact this
theorem Own.base {w : World} {B n c g : Nat} {l : List UInt8} (h : Own w B (some ⟨g, 0, none⟩) n c l) : B ≤ g ∧ g < w.heap.size := World.ownsRow.lt h g rfl
theorem Own.cellAt {w : World} {B n c g : Nat} {l : List UInt8} (h : Own w B (some ⟨g, 0, none⟩) n c l) {j : Nat} (hj : j < n) : ∃ x : UInt8, l[j]? = some x ∧ w.cell? ⟨g, j, none⟩ = some (.int .u8 (x.toNat : Int)) := by
  have h1 := World.ownsRow.cellAt h j (by omega)
  have hl := h.len
  refine ⟨l[j]'(by omega), List.getElem?_eq_getElem (by omega), ?_⟩
  rw [h1, cbs_get?, List.getElem?_eq_getElem (by omega)]; rfl
theorem Own.frozenAt {w : World} {B n c g : Nat} {l : List UInt8} (h : Own w B (some ⟨g, 0, none⟩) n c l) (j : Nat) : w.frozen? ⟨g, j, none⟩ = false := World.ownsRow.frozenAt h j
theorem step_app8 (w : World) {ops : Array Oper} {o : Oper} {a : Act} {K : Act → World → Prop} {Q : Exit → Act → World → Prop} {E : Prop}
    (hg : Region.wanted o (yielded ops a.tmps) = true) (s x : Operand) (hop : o.op = Op.call { callee := Callee.builtin Builtin.append, args := #[s, x], argTypes := #[23, 23] })
    (B : Nat) (A : Option Addr) (n c : Nat) (l : List UInt8) (hs : a.eval s = .slice A n c) (hown : Own w B A n c l)
    (B2 : Nat) (A2 : Option Addr) (m c2 : Nat) (l2 : List UInt8) (hx : a.eval x = .slice A2 m c2) (hr : Rd w B2 A2 m c2 l2)
    (hbytes : n + m ≤ 140737488355328) (hbase : B ≤ w.heap.size)
    (hK : ∀ A' c' w', Own w' B A' (n + m) c' (l ++ l2) → Below B w w' → K (a.put o.dst (.slice A' (n + m) c')) w') :
    if Region.wanted o (yielded ops a.tmps) = true then Oper.wp Try.prog o a w K Q else E := by
  rw [if_pos hg]
  obtain ⟨i0, hi0, hz0, hz1, hz2⟩ := info_parts u8info
  obtain ⟨A', c', w', hrun, h1, h2, r3⟩ := run_app (P := Try.prog) w B 23 o.type 5 i0 _ 1 Try.underlying23 hi0 hz0 hz1 hz2 rfl A n c (cbs l) hown B2 A2 m c2 (cbs l2) hr (cbs_one _) (fits_small (by omega)) (by unfold maxLen; omega) hbase
  unfold Oper.wp
  simp [execOp, hop, resolve, invoke, builtin, hs, hx, hrun, Result.andThen]
  refine hK A' c' w' ?_ ?_
  · unfold Own
    rw [cbs_append]
    exact h1
  · refine (Below.refl B w).grown h2 hbase fun k hk => ?_
    exact (World.ownsRow.lt hown k hk).1
end
section
def highB : Nat → Nat → List UInt8
  | _, 0 => []
  | x, n + 1 => highB (x / 256) n ++ [UInt8.ofNat x]
theorem length_highB : ∀ (n x : Nat), (highB x n).length = n
  | 0, _ => rfl
  | n + 1, x => by simp [highB, length_highB n]
theorem highB_snoc (x n : Nat) : highB x (n + 1) = highB (x / 256) n ++ [UInt8.ofNat x] := rfl
def numB (l : List UInt8) : Nat := l.foldl (fun x c => x * 256 + c.toNat) 0
theorem numB_snoc (l : List UInt8) (c : UInt8) : numB (l ++ [c]) = numB l * 256 + c.toNat := by simp [numB]
theorem snoc_of {α : Type} (l : List α) (n : Nat) (h : l.length = n + 1) : ∃ (m : List α) (c : α), l = m ++ [c] ∧ m.length = n := by
  refine ⟨l.take n, l[n]'(by omega), ?_, by rw [List.length_take]; omega⟩
  conv => lhs; rw [← List.take_append_drop n l]
  rw [List.drop_eq_getElem_cons (by omega), List.drop_eq_nil_of_le (by omega)]
theorem numB_lt : ∀ (n : Nat) (l : List UInt8), l.length = n → numB l < 256 ^ n
  | 0, l, h => by rw [List.eq_nil_of_length_eq_zero h]; decide
  | n + 1, l, h => by
    obtain ⟨m, c, rfl, hm⟩ := snoc_of l n h
    rw [numB_snoc, Nat.pow_succ]
    have := numB_lt n m hm
    have := c.toNat_lt
    omega
theorem take_snoc_of {α : Type} {l : List α} {k : Nat} {x : α} (h : l[k]? = some x) : l.take (k + 1) = l.take k ++ [x] := by
  rw [List.take_add_one, h]; rfl
theorem list7 {α : Type} {l : List α} (h : l.length = 7) : ∃ c0 c1 c2 c3 c4 c5 c6, l = [c0, c1, c2, c3, c4, c5, c6] := by
  match l, h with
  | [c0, c1, c2, c3, c4, c5, c6], _ => exact ⟨c0, c1, c2, c3, c4, c5, c6, rfl⟩
theorem list12 {α : Type} {l : List α} (h : l.length = 12) : ∃ c0 c1 c2 c3 c4 c5 c6 c7 c8 c9 c10 c11, l = [c0, c1, c2, c3, c4, c5, c6, c7, c8, c9, c10, c11] := by
  match l, h with
  | [c0, c1, c2, c3, c4, c5, c6, c7, c8, c9, c10, c11], _ => exact ⟨c0, c1, c2, c3, c4, c5, c6, c7, c8, c9, c10, c11, rfl⟩
theorem ofNat_toNat_int (x : Nat) : ((UInt8.ofNat x).toNat : Int) = (x : Int) % 256 := by
  simp
theorem wrapu32 (x : Nat) : IntKind.u32.wrap (x : Int) = ((x % 4294967296 : Nat) : Int) := by simp [IntKind.wrap, IntKind.bits, IntKind.signed]
end
section
open Go.RowKit
set_option maxHeartbeats 400000 in
theorem clone_any (A : Option Addr) (n c B : Nat) (l : List UInt8) (w : World) (h : Rd w B A n c l) (hB : B ≤ w.heap.size) (hn : n ≤ 281474976710656) :
    Calls Try.prog 99 #[.slice A n c] w fun e w' => ∃ A' c', e = .returned (.slice A' n c') ∧ Own w' w.heap.size A' n c' l ∧ Below w.heap.size w w' := by
  have qT : ∀ (w : World) (a : Option Addr) (n c n' c' : Nat), (binOp .eql 23 (.slice a n c) (.slice none n' c')).run Try.prog w = .ok (.bool a.isNone) w := fun w a n c n' c' => Lib.run_eql_slice_nil w _ _ a n c n' c' Try.underlying23
  cases A with
  | none =>
    have hc : c = 0 := h.2.2.2.1 rfl
    have hn0 : n = 0 := by have := h.cap; omega
    have hl : l = [] := List.eq_nil_of_length_eq_zero (by rw [h.len]; exact hn0)
    subst hn0; subst hl; clear hc h
    go_enter Try.func99, Try.ntmps99
    go_wp2
    go_ret
    exact ⟨none, 0, rfl, Own.nil _ _, Below.refl _ _⟩
  | some ad =>
    go_enter Try.func99, Try.ntmps99
    go_wp2_with (at_builtin; refine wpList_app8f _ rfl _ _ rfl w.heap.size (some ⟨w.heap.size, 0, none⟩) 0 0 [] rfl (Own.empty w _ (Nat.le_refl _)) B (some ad) n c l rfl (h.alloc hB _) (fits_zero hn) (by omega) (by simp) ?_)
    intro A' c' w' ho hb
    go_wp2
    go_ret
    exact ⟨_, _, rfl, by simpa using ho, ((Below.refl _ _).alloc (Nat.le_refl _) _).trans hb⟩
def eqB (a b : List UInt8) : Bool := decide (a = b)
theorem eqB_len {a b : List UInt8} (h : a.length ≠ b.length) : eqB a b = false := by
  unfold eqB; exact decide_eq_false fun e => h (by rw [e])
theorem eqB_at {a b : List UInt8} {k : Nat} (h : a[k]? ≠ b[k]?) : eqB a b = false := by
  unfold eqB; exact decide_eq_false fun e => h (by rw [e])
theorem eqB_all {a b : List UInt8} {n : Nat} (ha : a.length = n) (hb : b.length = n) (h : ∀ k, k < n → a[k]? = b[k]?) : eqB a b = true := by
  unfold eqB
  refine decide_eq_true (List.ext_getElem? fun k => ?_)
  by_cases hk : k < n
  · exact h k hk
  · rw [List.getElem?_eq_none (by omega), List.getElem?_eq_none (by omega)]
theorem ne_u8 {x y : UInt8} : ((x.toNat : Int) != (y.toNat : Int)) = !decide (x = y) := by
  by_cases h : x = y
  · subst h; simp
  · have : x.toNat ≠ y.toNat := fun e => h (UInt8.toNat_inj.1 e)
    simp [h]; omega
theorem ext_step {α : Type} {l m : List α} {k : Nat} (h : ∀ j, j < k → l[j]? = m[j]?) (hk : l[k]? = m[k]?) : ∀ j, j < k + 1 → l[j]? = m[j]? := by
  intro j hj
  by_cases e : j = k
  · subst e; exact hk
  · exact h j (by omega)
def SameRel (l m : List UInt8) (n : Nat) (w : World) (i : Value) (wr : World) : Prop := ∃ k : Nat, k ≤ n ∧ i = .int .i64 k ∧ (∀ j, j < k → l[j]? = m[j]?) ∧ ∃ q, wr = w.drewN q
def Quiet (v : Value) (w : World) (e : Ending) (w' : World) : Prop := e = .returned v ∧ ∃ q, w' = w.drewN q
set_option maxHeartbeats 400000 in
theorem sequal_any (A1 A2 : Option Addr) (n1 c1 n2 c2 B : Nat) (l1 l2 : List UInt8) (w : World) (h1 : Rd w B A1 n1 c1 l1) (h2 : Rd w B A2 n2 c2 l2) :
    Calls Try.prog 95 #[.slice A1 n1 c1, .slice A2 n2 c2] w (Quiet (.bool (eqB l1 l2)) w) := by
  have m1 : (n1 : Int) ≤ 9223372036854775807 := by have := h1.cap; have := h1.max; unfold maxLen at this; omega
  by_cases hn : n1 = n2
  · subst hn
    go_enter Try.func95, Try.ntmps95
    go_wp2
    go_loopw [13] (fun i wr => SameRel l1 l2 n1 w i wr) (fun i _ => n1 - (intOf i).toNat)
    case atStart => exact ⟨0, Nat.zero_le _, rfl, fun j hj => absurd hj (Nat.not_lt_zero _), 0, rfl⟩
    case round =>
      obtain ⟨k, hk, rfl, hj, q, rfl⟩ := hrel
      by_cases hlt : k < n1
      · obtain ⟨a1, x1, rfl, -, hx1, hc1⟩ := h1.at_ hlt
        obtain ⟨a2, x2, rfl, -, hx2, hc2⟩ := h2.at_ hlt
        by_cases hx : x1 = x2
        · have hne : ((x1.toNat : Int) != (x2.toNat : Int)) = false := by rw [ne_u8]; simp [hx]
          go_wp2
          go_quiet (fail)
          go_wp2
          go_roundw
          case rel => exact ⟨k + 1, by omega, by go_num, ext_step hj (by rw [hx1, hx2, hx]), by first | exact ⟨_, rfl⟩ | exact ⟨_, World.drewN_drewN _ _ _⟩⟩
          case measure => simp [intOf]; omega
        · have hne : ((x1.toNat : Int) != (x2.toNat : Int)) = true := by rw [ne_u8]; simp [hx]
          go_wp2
          go_quiet (fail)
          go_wp2
          go_ret
          exact ⟨by rw [eqB_at (k := k) (by rw [hx1, hx2]; exact fun e => hx (Option.some.inj e))]; rfl, by first | exact ⟨_, rfl⟩ | exact ⟨_, World.drewN_drewN _ _ _⟩⟩
      · go_wp2
        go_ret
        exact ⟨by rw [eqB_all h1.len h2.len (fun j hjn => hj j (by omega))]; rfl, _, rfl⟩
  · have hne : ((n1 : Int) != (n2 : Int)) = true := by rw [bne_iff_ne]; omega
    go_enter Try.func95, Try.ntmps95
    go_wp2
    go_ret
    exact ⟨by rw [eqB_len (by rw [h1.len, h2.len]; exact hn)]; rfl, 0, rfl⟩
end
section
open Go.RowKit
def numQ (l : List UInt8) : Nat := numB l % 18446744073709551616
theorem numQ_lt (l : List UInt8) : numQ l < 18446744073709551616 := Nat.mod_lt _ (by decide)
theorem numQ_step {l : List UInt8} {k : Nat} {x : UInt8} (h : l[k]? = some x) : IntKind.u64.wrap (IntKind.u64.wrap ((numQ (l.take k) : Int) * 256) + (x.toNat : Int)) = (numQ (l.take (k + 1)) : Int) := by
  rw [take_snoc_of h]
  unfold numQ
  rw [numB_snoc, IntKind.wrap_u64, IntKind.wrap_u64]
  omega
theorem numQ_small {l : List UInt8} (h : l.length ≤ 8) : numQ l = numB l := by
  unfold numQ
  refine Nat.mod_eq_of_lt (Nat.lt_of_lt_of_le (numB_lt _ l rfl) ?_)
  exact Nat.le_trans (Nat.pow_le_pow_right (by decide) h) (by decide)
set_option maxHeartbeats 400000 in
theorem number_any (A : Option Addr) (n c B : Nat) (l : List UInt8) (w : World) (h : Rd w B A n c l) :
    Calls Try.prog 107 #[.slice A n c] w fun e w' => e = .returned (.int .u64 (numQ l)) ∧ w = w' := by
  have m1 : (n : Int) ≤ 9223372036854775807 := by have := h.cap; have := h.max; unfold maxLen at this; omega
  go_enter Try.func107, Try.ntmps107
  go_wp2
  go_loop [3, 4] (fun x i => ∃ k : Nat, k ≤ n ∧ i = .int .i64 k ∧ x = .int .u64 (numQ (l.take k))) (fun _ i => n - (intOf i).toNat)
  case atStart => exact ⟨0, Nat.zero_le _, rfl, rfl⟩
  case round =>
    obtain ⟨k, hk, rfl, rfl⟩ := hrel
    by_cases hlt : k < n
    · obtain ⟨a1, x1, rfl, -, hx1, hc1⟩ := h.at_ hlt
      have hxb : x1.toNat < 256 := x1.toNat_lt
      have HS := Lib.hid (numQ_step hx1)
      go_wp2
      go_round
      case rel => exact ⟨k + 1, by omega, by go_num, by rw [HS.out]⟩
      case measure => simp [intOf]; omega
    · go_wp2
      go_ret
      have hkn : k = n := by omega
      exact ⟨by rw [List.take_of_length_le (by rw [h.len]; omega)]; rfl, rfl⟩
theorem pow28 (k : Nat) : (2 : Int) ^ (8 * k) = ((256 ^ k : Nat) : Int) := by
  rw [Int.pow_mul]; norm_cast
theorem shr_byte {x m j : Nat} : Value.int .u8 ((x : Int) / 2 ^ (8 * (m - 1 - j)) % 256) = cb (UInt8.ofNat (x / 256 ^ (m - j - 1))) := by
  unfold cb
  rw [pow28, show m - 1 - j = m - j - 1 from by omega, ofNat_toNat_int, Int.natCast_ediv]
theorem put_step {x m j : Nat} (h : j < m) : highB (x / 256 ^ (m - j)) j ++ [UInt8.ofNat (x / 256 ^ (m - j - 1))] = highB (x / 256 ^ (m - (j + 1))) (j + 1) := by
  obtain ⟨d, rfl⟩ : ∃ d, m = d + 1 + j := ⟨m - 1 - j, by omega⟩
  rw [highB_snoc, Nat.div_div_eq_div_mul, ← Nat.pow_succ, show d + 1 + j - (j + 1) = d from by omega, show d + 1 + j - j = d + 1 from by omega]
  rfl
set_option maxHeartbeats 400000 in
theorem put_any (A : Option Addr) (n c B : Nat) (x m : Nat) (hx : x < 18446744073709551616) (hm : m ≤ 8) (l : List UInt8) (w : World) (h : Rd w B A n c l) (hB : B ≤ w.heap.size) (hn : n ≤ 140737488355000) :
    Calls Try.prog 119 #[.slice A n c, .int .u64 x, .int .i64 m] w fun e w' => ∃ A' c', e = .returned (.slice A' (n + m) c') ∧ Own w' w.heap.size A' (n + m) c' (l ++ highB x m) ∧ Below w.heap.size w w' := by
  go_enter Try.func119, Try.ntmps119
  go_wp2_with (go_at_call 99; refine (clone_any A n c B l _ h hB (by omega)).mono ?_; rintro e w' ⟨A', c', rfl, ho, hb⟩)
  go_loopw [0, 7] (fun b i wr => ∃ (j : Nat) (A'' : Option Addr) (c'' : Nat), j ≤ m ∧ i = .int .i64 ((m : Int) - 1 - j) ∧ b = .slice A'' (n + j) c'' ∧ Own wr w.heap.size A'' (n + j) c'' (l ++ highB (x / 256 ^ (m - j)) j) ∧ Below w.heap.size w wr) (fun _ i _ => (intOf i + 1).toNat)
  case atStart => exact ⟨0, A', c', Nat.zero_le _, by go_num, rfl, by simpa [highB] using ho, hb⟩
  case round =>
    obtain ⟨j, A2, c2, hj, rfl, rfl, ho2, hb2⟩ := hrel
    by_cases hlt : j < m
    · go_wp2_with (at_builtin; refine wpList_app8 _ rfl _ _ rfl w.heap.size A2 (n + j) c2 _ rfl (ho2.alloc _) (wr.heap.size + 1) (some ⟨wr.heap.size, 0, none⟩) 1 1 [UInt8.ofNat (x / 256 ^ (m - j - 1))] rfl (Rd.one wr _ _ shr_byte) (by omega) (by simp; have := hb2.size; omega) ?_)
      intro A3 c3 w3 ho3 hb3
      rw [put_step hlt] at ho3
      have hb4 := (hb2.alloc hb2.size _).trans hb3
      go_wp2
      go_roundw
      case rel => exact ⟨j + 1, A3, c3, by omega, by go_num, rfl, ho3, hb4⟩
      case measure => simp [intOf]; omega
    · go_wp2
      go_ret
      obtain rfl : j = m := by omega
      exact ⟨A2, c2, rfl, by simpa using ho2, hb2⟩
set_option maxHeartbeats 400000 in
theorem put16_any (A : Option Addr) (n c B : Nat) (x : Nat) (hx : x < 65536) (l : List UInt8) (w : World) (h : Rd w B A n c l) (hB : B ≤ w.heap.size) (hn : n ≤ 140737488355000) :
    Calls Try.prog 126 #[.slice A n c, .int .u16 x] w fun e w' => ∃ A' c', e = .returned (.slice A' (n + 2) c') ∧ Own w' w.heap.size A' (n + 2) c' (l ++ highB x 2) ∧ Below w.heap.size w w' := by
  go_enter Try.func126, Try.ntmps126
  go_wp2_with (go_at_call 119; refine (put_any A n c B x 2 (by omega) (by omega) l _ h hB hn).mono ?_; rintro e w' ⟨A', c', rfl, ho, hb⟩)
  go_ret
  exact ⟨A', c', rfl, ho, hb⟩
set_option maxHeartbeats 400000 in
theorem put32_any (A : Option Addr) (n c B : Nat) (x : Nat) (hx : x < 4294967296) (l : List UInt8) (w : World) (h : Rd w B A n c l) (hB : B ≤ w.heap.size) (hn : n ≤ 140737488355000) :
    Calls Try.prog 87 #[.slice A n c, .int .u32 x] w fun e w' => ∃ A' c', e = .returned (.slice A' (n + 4) c') ∧ Own w' w.heap.size A' (n + 4) c' (l ++ highB x 4) ∧ Below w.heap.size w w' := by
  go_enter Try.func87, Try.ntmps87
  go_wp2_with (go_at_call 119; refine (put_any A n c B x 4 (by omega) (by omega) l _ h hB hn).mono ?_; rintro e w' ⟨A', c', rfl, ho, hb⟩)
  go_ret
  exact ⟨A', c', rfl, ho, hb⟩
set_option maxHeartbeats 400000 in
theorem put64_any (A : Option Addr) (n c B : Nat) (x : Nat) (hx : x < 18446744073709551616) (l : List UInt8) (w : World) (h : Rd w B A n c l) (hB : B ≤ w.heap.size) (hn : n ≤ 140737488355000) :
    Calls Try.prog 88 #[.slice A n c, .int .u64 x] w fun e w' => ∃ A' c', e = .returned (.slice A' (n + 8) c') ∧ Own w' w.heap.size A' (n + 8) c' (l ++ highB x 8) ∧ Below w.heap.size w w' := by
  go_enter Try.func88, Try.ntmps88
  go_wp2_with (go_at_call 119; refine (put_any A n c B x 8 hx (by omega) l _ h hB hn).mono ?_; rintro e w' ⟨A', c', rfl, ho, hb⟩)
  go_ret
  exact ⟨A', c', rfl, ho, hb⟩
end
section
open Go.RowKit
theorem Own.kept {w w' : World} {B n c g : Nat} {A : Option Addr} {l : List UInt8} (h : Own w B A n c l) (hg : w.grownBy w' (some g)) (hlt : g < B) : Own w' B A n c l := by
  refine World.ownsRow.kept h hg ?_
  by_cases hn : (Value.slice A n c).ownBlock = none
  · exact Or.inl hn
  · refine Or.inr fun e => ?_
    have := (World.ownsRow.lt h g e).1
    omega
def Rdr (w : World) (B g : Nat) (l : List UInt8) (at_ : Nat) (err : Int) : Prop :=
  ∃ (A : Option Addr) (n c : Nat), w.heap[g]? = some (.cells #[.slice A n c, .int .i64 (at_ : Int), .int .i64 err] 187 (0, 0)) ∧ Own w B A n c l ∧ (∀ k, (Value.slice A n c).ownBlock = some k → k < g) ∧ B ≤ g ∧ at_ ≤ n ∧ n ≤ 281474976710656
section
variable {w w' : World} {B g : Nat} {l : List UInt8} {at_ : Nat} {err : Int}
theorem Rdr.lt (h : Rdr w B g l at_ err) : g < w.heap.size := by
  obtain ⟨_, _, _, h1, _⟩ := h
  exact (Array.getElem?_eq_some_iff.1 h1).1
theorem Rdr.ge (h : Rdr w B g l at_ err) : B ≤ g := by
  obtain ⟨_, _, _, _, _, _, h1, _⟩ := h; exact h1
theorem Rdr.lmax (h : Rdr w B g l at_ err) : l.length ≤ 281474976710656 := by
  obtain ⟨_, _, _, _, h2, _, _, _, h1⟩ := h; rw [h2.len]; exact h1
theorem Rdr.below (h : Rdr w B g l at_ err) (hb : Below w.heap.size w w') : Rdr w' B g l at_ err := by
  have hlt := h.lt
  obtain ⟨A, n, c, h1, h2, h3⟩ := h
  exact ⟨A, n, c, (hb.block g hlt).trans h1, h2.below hb, h3⟩
theorem Rdr.kept {g' : Nat} (h : Rdr w B g l at_ err) (hg : w.grownBy w' (some g')) (hlt : g' < B) : Rdr w' B g l at_ err := by
  have hl := h.lt
  have hge := h.ge
  obtain ⟨A, n, c, h1, h2, h3⟩ := h
  exact ⟨A, n, c, (hg.block g hl (fun e => by injection e; omega)).trans h1, h2.kept hg hlt, h3⟩
theorem Rdr.more {B' : Nat} (h : Rdr w B g l at_ err) (hB : B' ≤ B) : Rdr w B' g l at_ err := by
  obtain ⟨A, n, c, h1, h2, h3, h4, h5⟩ := h
  exact ⟨A, n, c, h1, h2.more hB, h3, by omega, h5⟩
end
theorem grown_below {w w1 w2 : World} {row : Option Nat} (h : w.grownBy w1 row) (hb : Below w1.heap.size w1 w2) : w.grownBy w2 row :=
  ⟨hb.os.trans h.os, hb.tape.trans h.tape, hb.output.trans h.output, Nat.le_trans h.size hb.size, fun k hk hne => (hb.block k (Nat.lt_of_lt_of_le hk h.size)).trans (h.block k hk hne)⟩
theorem grown_trans {w w1 w2 : World} {row : Option Nat} (h : w.grownBy w1 row) (h2 : w1.grownBy w2 row) : w.grownBy w2 row :=
  ⟨h2.os.trans h.os, h2.tape.trans h.tape, h2.output.trans h.output, Nat.le_trans h.size h2.size, fun k hk hne => (h2.block k (Nat.lt_of_lt_of_le hk h.size) hne).trans (h.block k hk hne)⟩
theorem grown_of_below {w w' : World} {row : Option Nat} (h : Below w.heap.size w w') : w.grownBy w' row := ⟨h.os, h.tape, h.output, h.size, fun k hk _ => h.block k hk⟩
theorem grown_drewN {w w' : World} {row : Option Nat} (h : w.grownBy w' row) (q : Nat) : w.grownBy (w'.drewN q) row := ⟨h.os, h.tape, h.output, h.size, h.block⟩
theorem below_grown {w w' : World} {B g : Nat} (h : w.grownBy w' (some g)) (hg : B ≤ g) (hlt : g < w.heap.size) : Below B w w' :=
  (Below.refl B w).grown h (by omega) fun k hk => by injection hk; omega
theorem below_dN {B : Nat} {a w : World} (h : Below B a w) (n : Nat) : Below B a (w.drewN n) := ⟨h.os, h.tape, h.output, h.size, h.block⟩
set_option maxHeartbeats 400000 in
theorem read_any (A : Option Addr) (n c B : Nat) (l : List UInt8) (w : World) (h : Rd w B A n c l) (hB : B ≤ w.heap.size) (hn : n ≤ 281474976710656) :
    Calls Try.prog 120 #[.slice A n c] w fun e w' => ∃ g, e = .returned (.pointer (some ⟨g, 0, none⟩)) ∧ Rdr w' w.heap.size g l 0 0 ∧ Below w.heap.size w w' := by
  go_enter Try.func120, Try.ntmps120
  go_wp2_with (go_at_call 99; refine (clone_any A n c B l _ h hB (by omega)).mono ?_; rintro e w' ⟨A', c', rfl, ho, hb⟩)
  go_ret
  refine ⟨w'.heap.size, rfl, ⟨A', n, c', heap_alloc_new _ _, ho.alloc _, ?_, hb.size, Nat.zero_le _, hn⟩, hb.alloc hb.size _⟩
  intro k hk
  exact (World.ownsRow.lt ho k hk).2
def takeR (l : List UInt8) (at_ : Nat) (err n : Int) : List UInt8 × Nat × Int :=
  if err ≠ 0 then ([], at_, err) else if n < 0 then ([], at_, 2) else if n > (l.length : Int) - at_ then ([], at_, 9) else ((l.drop at_).take n.toNat, at_ + n.toNat, 0)
theorem rdr_grown_set (w : World) (g i : Nat) (v : Value) : w.grownBy (w.setCell ⟨g, i, none⟩ v) (some g) :=
  ⟨rfl, rfl, rfl, by simp, fun k _ hk => heap_setCell_other w ⟨g, i, none⟩ k v (fun e => hk (by simp [e]))⟩
theorem rdr_grown_dset (w : World) (g i q : Nat) (v : Value) : w.grownBy ((w.drewN q).setCell ⟨g, i, none⟩ v) (some g) :=
  grown_trans (grown_drewN (World.grownBy.refl w _) q) (rdr_grown_set (w.drewN q) g i v)
theorem own_set {w : World} {B n c g i : Nat} {A : Option Addr} {l : List UInt8} (h2 : Own w B A n c l) (h3 : ∀ k, (Value.slice A n c).ownBlock = some k → k < g) (v : Value) : Own (w.setCell ⟨g, i, none⟩ v) B A n c l := by
  refine World.ownsRow.kept h2 (rdr_grown_set w g i v) ?_
  by_cases hn : (Value.slice A n c).ownBlock = none
  · exact Or.inl hn
  · exact Or.inr fun e => Nat.lt_irrefl _ (h3 g e)
theorem rdr_set2 {w : World} {B g n c at_ : Nat} {A : Option Addr} {l : List UInt8} {err : Int} (h1 : w.heap[g]? = some (.cells #[.slice A n c, .int .i64 (at_ : Int), .int .i64 err] 187 (0, 0))) (h2 : Own w B A n c l)
    (h3 : ∀ k, (Value.slice A n c).ownBlock = some k → k < g) (h4 : B ≤ g) (h5 : at_ ≤ n) (h6 : n ≤ 281474976710656) (err' : Int) : Rdr (w.setCell ⟨g, 2, none⟩ (.int .i64 err')) B g l at_ err' :=
  ⟨A, n, c, heap_setCell_same w g 2 _ _ _ h1, own_set h2 h3 _, h3, h4, h5, h6⟩
theorem rdr_set1 {w : World} {B g n c at_ at2 : Nat} {A : Option Addr} {l : List UInt8} {err : Int} (h1 : w.heap[g]? = some (.cells #[.slice A n c, .int .i64 (at_ : Int), .int .i64 err] 187 (0, 0))) (h2 : Own w B A n c l)
    (h3 : ∀ k, (Value.slice A n c).ownBlock = some k → k < g) (h4 : B ≤ g) (h5 : at2 ≤ n) (h6 : n ≤ 281474976710656) : Rdr (w.setCell ⟨g, 1, none⟩ (.int .i64 (at2 : Int))) B g l at2 err :=
  ⟨A, n, c, heap_setCell_same w g 1 _ _ _ h1, own_set h2 h3 _, h3, h4, h5, h6⟩
theorem Rdr.drewN {w : World} {B g : Nat} {l : List UInt8} {at_ : Nat} {err : Int} (h : Rdr w B g l at_ err) (q : Nat) : Rdr (w.drewN q) B g l at_ err := h
theorem rd_lift {w : World} {B n n' c c' g i : Nat} {v : Value} {A : Option Addr} {l l' : List UInt8} (h : Rd w B A n c l) (hn : n = n') (hb : ∀ ad, A = some ad → ad.block < g) (hl : l = l') (hc : c = c') (gg : Nat) (hgg : gg = g := by rfl) :
    Rd (w.setCell ⟨g, i, none⟩ v) gg A n' c' l' := by
  subst hn; subst hl; subst hc; subst hgg
  obtain ⟨h1, h2, h3, h4, h5, h6⟩ := h
  refine ⟨h1, h2, h3, h4, fun ad hA _ => hb ad hA, fun ad j u hA hu => ?_⟩
  rw [World.cell?_setCell_other]
  · exact h6 ad j u hA hu
  · intro e
    have := congrArg Addr.block e
    rw [block_add] at this
    have h7 := hb ad hA
    simp at this
    omega
theorem blk_map {A : Option Addr} {g : Nat} (h : ∀ ad, A = some ad → ad.block < g) (i : Nat) : ∀ ad, A.map (·.add i) = some ad → ad.block < g := by
  intro ad hA
  cases A with
  | none => cases hA
  | some a => simp at hA; subst hA; rw [block_add]; exact h a rfl
set_option maxHeartbeats 400000 in
theorem take_any (l : List UInt8) (at_ : Nat) (err m : Int) (g B : Nat) (w : World) (h : Rdr w B g l at_ err) :
    Calls Try.prog 134 #[.pointer (some ⟨g, 0, none⟩), .int .i64 m] w fun e w' => ∃ A n c, e = .returned (.slice A n c) ∧ Rd w' g A n c (takeR l at_ err m).1 ∧ Rdr w' B g l (takeR l at_ err m).2.1 (takeR l at_ err m).2.2 ∧ w.grownBy w' (some g) := by
  have h' := h
  obtain ⟨A, n, c, h1, h2, h3, h4, h5, h6⟩ := h
  have c0 : w.cell? ⟨g, 0, none⟩ = some (.slice A n c) := cell_of_row w g 0 _ _ (0, 0) h1
  have c1 : w.cell? ⟨g, 1, none⟩ = some (.int .i64 (at_ : Int)) := cell_of_row w g 1 _ _ (0, 0) h1
  have c2 : w.cell? ⟨g, 2, none⟩ = some (.int .i64 err) := cell_of_row w g 2 _ _ (0, 0) h1
  have f1 : w.frozen? ⟨g, 1, none⟩ = false := frozen_of_row w g 1 _ _ h1
  have f2 : w.frozen? ⟨g, 2, none⟩ = false := frozen_of_row w g 2 _ _ h1
  have hcap := h2.rd.cap
  have hmx := h2.rd.max
  unfold maxLen at hmx
  have hl := h2.len
  by_cases he : err = 0
  · by_cases hm0 : m < 0
    · subst he
      have e1 : takeR l at_ 0 m = ([], at_, 2) := by simp [takeR, hm0]
      rw [e1]
      clear hl
      go_enter Try.func134, Try.ntmps134
      go_wp2
      go_ret
      refine ⟨none, 0, 0, rfl, Rd.nil _ _, ?_, rdr_grown_set w g 2 _⟩
      exact rdr_set2 h1 h2 h3 h4 h5 h6 2
    · obtain ⟨m, rfl⟩ := Int.eq_ofNat_of_zero_le (show 0 ≤ m by omega)
      by_cases hm1 : m ≤ n - at_
      · subst he
        have e1 : takeR l at_ 0 m = ((l.drop at_).take m, at_ + m, 0) := by
          unfold takeR
          rw [if_neg (by omega), if_neg (by omega), if_neg (by omega)]; simp
        rw [e1]
        have hR := (h2.rd.cut (i := at_) (j := at_ + m) (by omega) (by omega))
        have hlt : ¬ (n : Int) - at_ < m := by omega
        have hblk : ∀ ad, A = some ad → ad.block < g := fun ad hA => h3 _ (by rw [hA]; rfl)
        have e2 : (l.take (at_ + m)).drop at_ = (l.drop at_).take m := by rw [List.drop_take]; congr 1; omega
        clear hl
        go_enter Try.func134, Try.ntmps134
        go_wp2
        go_quiet (fail)
        go_wp2
        go_quiet (fail)
        go_wp2
        all_goals
          go_ret
          refine ⟨_, _, _, rfl, ?_, ?_, ?_⟩
          · first
              | (have hc : c = at_ := by assumption
                 rw [if_pos hc] at hR
                 exact rd_lift hR (by omega) hblk e2 (by omega) g)
              | (have hc : ¬ c = at_ := by assumption
                 rw [if_neg hc] at hR
                 exact rd_lift hR (by omega) (blk_map hblk at_) e2 rfl g)
          · exact rdr_set1 (at2 := at_ + m) h1 h2 h3 h4 (by omega) h6
          · exact grown_drewN (rdr_grown_dset w g 1 _ _) _
      · subst he
        have e1 : takeR l at_ 0 m = ([], at_, 9) := by
          unfold takeR
          rw [if_neg (by omega), if_neg (by omega), if_pos (by omega)]
        rw [e1]
        have hlt : (n : Int) - at_ < m := by omega
        clear hl
        go_enter Try.func134, Try.ntmps134
        go_wp2
        go_quiet (fail)
        go_wp2
        go_ret
        refine ⟨none, 0, 0, rfl, Rd.nil _ _, ?_, ?_⟩
        · exact rdr_set2 h1 h2 h3 h4 h5 h6 9
        · exact rdr_grown_dset w g 2 _ _
  · have hne : (err != 0) = true := by rw [bne_iff_ne]; exact he
    have e1 : takeR l at_ err m = ([], at_, err) := if_pos he
    rw [e1]
    go_enter Try.func134, Try.ntmps134
    go_wp2
    go_ret
    exact ⟨none, 0, 0, rfl, Rd.nil _ _, h', World.grownBy.refl _ _⟩
theorem takeR_le (l : List UInt8) (at_ : Nat) (err n : Int) : (takeR l at_ err n).1.length ≤ l.length := by
  unfold takeR
  split
  · simp
  · split
    · simp
    · split
      · simp
      · simp; omega
def RdrOut (w : World) (B g : Nat) (l : List UInt8) (at_ : Nat) (err n : Int) (w' : World) : Prop :=
  Rdr w' B g l (takeR l at_ err n).2.1 (takeR l at_ err n).2.2 ∧ w.grownBy w' (some g)
set_option maxHeartbeats 400000 in
theorem raw_any (l : List UInt8) (at_ : Nat) (err m : Int) (g B : Nat) (w : World) (h : Rdr w B g l at_ err) :
    Calls Try.prog 133 #[.pointer (some ⟨g, 0, none⟩), .int .i64 m] w fun e w' => ∃ A n c, e = .returned (.slice A n c) ∧ Own w' w.heap.size A n c (takeR l at_ err m).1 ∧ RdrOut w B g l at_ err m w' := by
  go_enter Try.func133, Try.ntmps133
  go_wp2_with fail
  refine (take_any l at_ err m g B _ h).mono ?_
  rintro e w1 ⟨A, n, c, rfl, h1, h2, h3⟩
  have hlt := h2.lt
  have hn : n ≤ 281474976710656 := by have := h1.len; have := takeR_le l at_ err m; have := h.lmax; omega
  go_wp2_with fail
  refine (clone_any A n c g _ _ h1 (by omega) hn).mono ?_
  rintro e w2 ⟨A2, c2, rfl, h4, h5⟩
  go_wp2_with fail
  go_ret
  exact ⟨A2, n, c2, rfl, h4.more h3.size, h2.below h5, grown_below h3 h5⟩
def U64Q (w : World) (B g : Nat) (l : List UInt8) (at_ : Nat) (err n : Int) (kd : IntKind) (M : Nat) (e : Ending) (w' : World) : Prop :=
  e = .returned (.int kd ((numQ (takeR l at_ err n).1 % M : Nat) : Int)) ∧ RdrOut w B g l at_ err n w'
theorem numQ_or {l : List UInt8} {k : Nat} {x : UInt8} (h : l[k]? = some x) : ((numQ (l.take k) : Nat) * 256 % 18446744073709551616 ||| x.toNat) = numQ (l.take (k + 1)) := by
  have h1 : numQ (l.take (k + 1)) = ((numB (l.take k)) * 256 + x.toNat) % 18446744073709551616 := by
    rw [take_snoc_of h]; unfold numQ; rw [numB_snoc]
  have h2 : numQ (l.take k) = numB (l.take k) % 18446744073709551616 := rfl
  have hx := x.toNat_lt
  rw [h1, h2]
  generalize numB (l.take k) = y
  have e1 : y % 18446744073709551616 * 256 % 18446744073709551616 = 2 ^ 8 * (y % 72057594037927936) := by omega
  rw [e1, ← Nat.two_pow_add_eq_or_of_lt (by omega)]
  omega
theorem numQ_or_int {l : List UInt8} {k y : Nat} {x : UInt8} (h : l[k]? = some x) (hy : y = numQ (l.take k)) : bits BinOp.or IntKind.u64 (IntKind.u64.wrap ((y : Int) * 256)) (x.toNat : Int) = (numQ (l.take (k + 1)) : Int) := by
  have e : IntKind.u64.wrap ((y : Int) * 256) = ((y * 256 % 18446744073709551616 : Nat) : Int) := by rw [IntKind.wrap_u64]; omega
  have hx := x.toNat_lt
  rw [e, u64_or_nat _ _ (Nat.mod_lt _ (by decide)) (by omega), hy, numQ_or h]
set_option maxHeartbeats 400000 in
theorem number_rd (l : List UInt8) (at_ : Nat) (err : Int) (m : Nat) (g B : Nat) (w : World) (h : Rdr w B g l at_ err) :
    Calls Try.prog 131 #[.pointer (some ⟨g, 0, none⟩), .int .i64 m] w (U64Q w B g l at_ err m .u64 18446744073709551616) := by
  go_enter Try.func131, Try.ntmps131
  go_wp2_with fail
  refine (raw_any l at_ err m g B _ h).mono ?_
  rintro e w1 ⟨A, n, c, rfl, h1, h2⟩
  have hR := h1.rd
  have m1 : (n : Int) ≤ 9223372036854775807 := by have := hR.cap; have := hR.max; unfold maxLen at this; omega
  go_wp2_with fail
  go_loop [5, 12] (fun x i => ∃ k y : Nat, k ≤ n ∧ i = .int .i64 k ∧ y = numQ ((takeR l at_ err m).1.take k) ∧ x = .int .u64 (y : Int)) (fun _ i => n - (intOf i).toNat)
  case atStart => exact ⟨0, 0, Nat.zero_le _, rfl, rfl, rfl⟩
  case round =>
    obtain ⟨k, y, hk, rfl, hy, rfl⟩ := hrel
    have hyl : y < 18446744073709551616 := by rw [hy]; exact numQ_lt _
    have HY := Lib.hid hy; clear hy
    by_cases hlt : k < n
    · obtain ⟨a1, x1, rfl, -, hx1, hc1⟩ := hR.at_ hlt
      have hxb : x1.toNat < 256 := x1.toNat_lt
      have HO := Lib.hid (numQ_or_int hx1 HY.out)
      go_wp2
      go_round
      case rel => exact ⟨k + 1, numQ ((takeR l at_ err m).1.take (k + 1)), by omega, by go_num, rfl, by rw [HO.out]⟩
      case measure => simp [intOf]; omega
    · go_wp2
      go_ret
      have e1 : y = numQ (takeR l at_ err m).1 % 18446744073709551616 := by
        rw [HY.out, List.take_of_length_le (by rw [hR.len]; omega), Nat.mod_eq_of_lt (numQ_lt _)]
      exact ⟨by rw [← e1]; rfl, h2⟩
set_option maxHeartbeats 400000 in
theorem u8_rd (l : List UInt8) (at_ : Nat) (err : Int) (g B : Nat) (w : World) (h : Rdr w B g l at_ err) :
    Calls Try.prog 123 #[.pointer (some ⟨g, 0, none⟩)] w (U64Q w B g l at_ err 1 .u8 256) := by
  go_enter Try.func123, Try.ntmps123
  go_wp2_with fail
  refine (number_rd l at_ err 1 g B _ h).mono ?_
  rintro e w1 ⟨rfl, h2⟩
  rw [Nat.mod_eq_of_lt (numQ_lt _)]
  have hq := numQ_lt (takeR l at_ err (1 : Nat)).1
  generalize hQ : numQ (takeR l at_ err (1 : Nat)).1 = q at hq ⊢
  have HQ := Lib.hid hQ; clear hQ
  go_wp2_with fail
  go_ret
  exact ⟨by rw [show numQ (takeR l at_ err 1).1 = q from HQ.out]; congr 2, h2⟩
set_option maxHeartbeats 400000 in
theorem u16_rd (l : List UInt8) (at_ : Nat) (err : Int) (g B : Nat) (w : World) (h : Rdr w B g l at_ err) :
    Calls Try.prog 124 #[.pointer (some ⟨g, 0, none⟩)] w (U64Q w B g l at_ err 2 .u16 65536) := by
  go_enter Try.func124, Try.ntmps124
  go_wp2_with fail
  refine (number_rd l at_ err 2 g B _ h).mono ?_
  rintro e w1 ⟨rfl, h2⟩
  rw [Nat.mod_eq_of_lt (numQ_lt _)]
  have hq := numQ_lt (takeR l at_ err (2 : Nat)).1
  generalize hQ : numQ (takeR l at_ err (2 : Nat)).1 = q at hq ⊢
  have HQ := Lib.hid hQ; clear hQ
  go_wp2_with fail
  go_ret
  exact ⟨by rw [show numQ (takeR l at_ err 2).1 = q from HQ.out]; congr 2, h2⟩
set_option maxHeartbeats 400000 in
theorem u32_rd (l : List UInt8) (at_ : Nat) (err : Int) (g B : Nat) (w : World) (h : Rdr w B g l at_ err) :
    Calls Try.prog 121 #[.pointer (some ⟨g, 0, none⟩)] w (U64Q w B g l at_ err 4 .u32 4294967296) := by
  go_enter Try.func121, Try.ntmps121
  go_wp2_with fail
  refine (number_rd l at_ err 4 g B _ h).mono ?_
  rintro e w1 ⟨rfl, h2⟩
  rw [Nat.mod_eq_of_lt (numQ_lt _)]
  have hq := numQ_lt (takeR l at_ err (4 : Nat)).1
  generalize hQ : numQ (takeR l at_ err (4 : Nat)).1 = q at hq ⊢
  have HQ := Lib.hid hQ; clear hQ
  go_wp2_with fail
  go_ret
  exact ⟨by rw [show numQ (takeR l at_ err 4).1 = q from HQ.out]; congr 2, h2⟩
set_option maxHeartbeats 400000 in
theorem u64_rd (l : List UInt8) (at_ : Nat) (err : Int) (g B : Nat) (w : World) (h : Rdr w B g l at_ err) :
    Calls Try.prog 122 #[.pointer (some ⟨g, 0, none⟩)] w (U64Q w B g l at_ err 8 .u64 18446744073709551616) := by
  go_enter Try.func122, Try.ntmps122
  go_wp2_with fail
  refine (number_rd l at_ err 8 g B _ h).mono ?_
  rintro e w1 ⟨rfl, h2⟩
  rw [Nat.mod_eq_of_lt (numQ_lt _)]
  have hq := numQ_lt (takeR l at_ err (8 : Nat)).1
  generalize hQ : numQ (takeR l at_ err (8 : Nat)).1 = q at hq ⊢
  have HQ := Lib.hid hQ; clear hQ
  go_wp2_with fail
  go_ret
  exact ⟨by rw [show numQ (takeR l at_ err 8).1 = q from HQ.out, Nat.mod_eq_of_lt hq]; rfl, h2⟩
end
section
open Go.RowKit
def fld (l : List UInt8) (o k : Nat) : Nat := numB ((l.drop o).take k)
theorem fld_lt (l : List UInt8) (o k : Nat) : fld l o k < 256 ^ k := by
  unfold fld
  refine Nat.lt_of_lt_of_le (numB_lt _ _ rfl) (Nat.pow_le_pow_right (by decide) ?_)
  rw [List.length_take]; exact Nat.min_le_left _ _
theorem takeR_in {l : List UInt8} {at_ k : Nat} (h : at_ + k ≤ l.length) : takeR l at_ 0 (k : Int) = ((l.drop at_).take k, at_ + k, 0) := by
  unfold takeR
  rw [if_neg (by decide), if_neg (by omega), if_neg (by omega)]
  simp
theorem num_in {l : List UInt8} {at_ k m : Nat} (hk : k ≤ 8) (hm : 256 ^ k ≤ m) : numQ ((l.drop at_).take k) % m = fld l at_ k := by
  rw [numQ_small (by rw [List.length_take]; omega)]
  exact Nat.mod_eq_of_lt (Nat.lt_of_lt_of_le (fld_lt l at_ k) hm)
theorem fld_take {l : List UInt8} {o k n : Nat} (h : o + k ≤ n) : fld (l.take n) o k = fld l o k := by
  unfold fld
  rw [List.drop_take, List.take_take, Nat.min_eq_left (by omega)]
theorem rd_pre {w : World} {B n c m : Nat} {A : Option Addr} {l : List UInt8} (h : Rd w B A n c l) (hm : m ≤ n) : Rd w B A m c (l.take m) := by
  obtain ⟨h1, h2, h3, h4, h5, h6⟩ := h
  refine ⟨?_, by omega, h3, h4, fun ad hA hm0 => h5 ad hA (by omega), fun ad i u hA hu => ?_⟩
  · rw [length_cbs] at *; rw [List.length_take]; omega
  · unfold cbs at hu h6
    rw [List.map_take, List.getElem?_take] at hu
    split at hu
    · exact h6 ad i u hA hu
    · cases hu
theorem u8_at (l : List UInt8) (at_ v : Nat) (hv : v = fld l at_ 1) (g B : Nat) (w : World) (h : Rdr w B g l at_ 0) (hl : at_ + 1 ≤ l.length) :
    Calls Try.prog 123 #[.pointer (some ⟨g, 0, none⟩)] w fun e w' => e = .returned (.int .u8 (v : Int)) ∧ Rdr w' B g l (at_ + 1) 0 ∧ w.grownBy w' (some g) := by
  refine (u8_rd l at_ 0 g B w h).mono ?_
  rintro e w' ⟨rfl, h2, g2⟩
  have e1 : takeR l at_ 0 1 = ((l.drop at_).take 1, at_ + 1, 0) := takeR_in (k := 1) hl
  have e2 : numQ ((l.drop at_).take 1) % 256 = v := by rw [hv]; exact num_in (by omega) (by decide)
  rw [e1] at h2
  refine ⟨?_, h2, g2⟩
  rw [e1, e2]
theorem u16_at (l : List UInt8) (at_ v : Nat) (hv : v = fld l at_ 2) (g B : Nat) (w : World) (h : Rdr w B g l at_ 0) (hl : at_ + 2 ≤ l.length) :
    Calls Try.prog 124 #[.pointer (some ⟨g, 0, none⟩)] w fun e w' => e = .returned (.int .u16 (v : Int)) ∧ Rdr w' B g l (at_ + 2) 0 ∧ w.grownBy w' (some g) := by
  refine (u16_rd l at_ 0 g B w h).mono ?_
  rintro e w' ⟨rfl, h2, g2⟩
  have e1 : takeR l at_ 0 2 = ((l.drop at_).take 2, at_ + 2, 0) := takeR_in (k := 2) hl
  have e2 : numQ ((l.drop at_).take 2) % 65536 = v := by rw [hv]; exact num_in (by omega) (by decide)
  rw [e1] at h2
  refine ⟨?_, h2, g2⟩
  rw [e1, e2]
theorem u32_at (l : List UInt8) (at_ v : Nat) (hv : v = fld l at_ 4) (g B : Nat) (w : World) (h : Rdr w B g l at_ 0) (hl : at_ + 4 ≤ l.length) :
    Calls Try.prog 121 #[.pointer (some ⟨g, 0, none⟩)] w fun e w' => e = .returned (.int .u32 (v : Int)) ∧ Rdr w' B g l (at_ + 4) 0 ∧ w.grownBy w' (some g) := by
  refine (u32_rd l at_ 0 g B w h).mono ?_
  rintro e w' ⟨rfl, h2, g2⟩
  have e1 : takeR l at_ 0 4 = ((l.drop at_).take 4, at_ + 4, 0) := takeR_in (k := 4) hl
  have e2 : numQ ((l.drop at_).take 4) % 4294967296 = v := by rw [hv]; exact num_in (by omega) (by decide)
  rw [e1] at h2
  refine ⟨?_, h2, g2⟩
  rw [e1, e2]
theorem u64_at (l : List UInt8) (at_ v : Nat) (hv : v = fld l at_ 8) (g B : Nat) (w : World) (h : Rdr w B g l at_ 0) (hl : at_ + 8 ≤ l.length) :
    Calls Try.prog 122 #[.pointer (some ⟨g, 0, none⟩)] w fun e w' => e = .returned (.int .u64 (v : Int)) ∧ Rdr w' B g l (at_ + 8) 0 ∧ w.grownBy w' (some g) := by
  refine (u64_rd l at_ 0 g B w h).mono ?_
  rintro e w' ⟨rfl, h2, g2⟩
  have e1 : takeR l at_ 0 8 = ((l.drop at_).take 8, at_ + 8, 0) := takeR_in (k := 8) hl
  have e2 : numQ ((l.drop at_).take 8) % 18446744073709551616 = v := by rw [hv]; exact num_in (by omega) (by decide)
  rw [e1] at h2
  refine ⟨?_, h2, g2⟩
  rw [e1, e2]
end
end Go.Proofs.Ytnghmgbmflcngaa

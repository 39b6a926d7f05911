/- Merged texts: Tol, Alp, Arq, All, Rql, PaPie. Conditions: typed in each theorem. -/
import Derived.Test.YtnghmgbmflcngaaPfa
import Derived.Test.YtnghmgbmflcngaaRow
import Derived.Test.YtnghmgbmflcngaaSlc
import Derived.Deep.DeepCutAuto
import Derived.StillTailTactics
import Derived.Test.YtnghmgbmflcngaaWk20
import Derived.Test.YtnghmgbmflcngaaClo
import Derived.Test.YtnghmgbmflcngaaOpen
import Derived.BigRegion
namespace Go.Proofs.Ytnghmgbmflcngaa
set_option linter.unusedVariables false
section
open Go.RowKit

/-- The owner of a slice's memory. -/
def obk (A : Option Addr) : Option Nat := A.map (·.block)
theorem obk_eq (A : Option Addr) (n c : Nat) : (Value.slice A n c).ownBlock = obk A := by cases A <;> rfl
/-- All blocks but those of F are as they were. -/
structure Kp (w w' : World) (F : Nat → Prop) : Prop where
  os : w'.os = w.os
  tape : w'.tape = w.tape
  output : w'.output = w.output
  size : w.heap.size ≤ w'.heap.size
  block : ∀ k, k < w.heap.size → ¬ F k → w'.heap[k]? = w.heap[k]?
theorem Kp.of_grown {w w' : World} {g : Nat} (h : w.grownBy w' (some g)) : Kp w w' (fun k => k = g) := ⟨h.os, h.tape, h.output, h.size, fun k hk hg => h.block k hk (fun e => hg (by injection e))⟩
theorem Kp.of_row {w w' : World} {r : Option Nat} (h : w.grownBy w' r) : Kp w w' (fun k => some k = r) := ⟨h.os, h.tape, h.output, h.size, fun k hk hg => h.block k hk hg⟩
theorem Kp.of_two {w w' : World} {g : Nat} {r : Option Nat} (h : TwoK w w' g r) : Kp w w' (fun k => k = g ∨ some k = r) := ⟨h.os, h.tape, h.output, h.size, fun k hk hg => h.block k hk (fun e => hg (.inl e)) (fun e => hg (.inr e))⟩
theorem Kp.of_below {w w' : World} (h : Below w.heap.size w w') (F : Nat → Prop) : Kp w w' F := ⟨h.os, h.tape, h.output, h.size, fun k hk _ => h.block k hk⟩
theorem Kp.below {w w' : World} {F : Nat → Prop} {B : Nat} (h : Kp w w' F) (hF : ∀ k, F k → B ≤ k) (hB : B ≤ w.heap.size) : Below B w w' :=
  ⟨h.os, h.tape, h.output, h.size, fun k hk => h.block k (by omega) (fun hf => by have := hF k hf; omega)⟩
theorem Kp.blk {w w' : World} {F : Nat → Prop} {g : Nat} {cs : Array Value} {T : TypeId} (h : Kp w w' F) (hb : Blk w g cs T) (hg : ¬ F g) : Blk w' g cs T := (h.block g hb.lt hg).trans hb
/-- Bytes that stand outside of F. -/
def RdF (w : World) (F : Nat → Prop) (A : Option Addr) (n c : Nat) (l : List UInt8) : Prop := Rd w w.heap.size A n c l ∧ ∀ k, obk A = some k → k < w.heap.size ∧ ¬ F k
theorem RdF.kp {w w' : World} {F F' : Nat → Prop} {A : Option Addr} {n c : Nat} {l : List UInt8} (r : RdF w F A n c l) {G : Nat → Prop} (h : Kp w w' G) (hG : ∀ k, k < w.heap.size → G k → F k) (hF : ∀ k, k < w.heap.size → F' k → F k) : RdF w' F' A n c l := by
  obtain ⟨⟨a1, a2, a3, a4, a5, a6⟩, r2⟩ := r
  refine ⟨⟨a1, a2, a3, a4, fun ad hA hn => Nat.lt_of_lt_of_le (a5 ad hA hn) h.size, fun ad j v hA hu => ?_⟩, fun k hk => ?_⟩
  · subst hA
    obtain ⟨b1, b2⟩ := r2 ad.block rfl
    rw [World.cell?_of_block (w := w) (h.block _ (by rw [block_add]; exact b1) (by rw [block_add]; exact fun hg => b2 (hG _ b1 hg)))]
    exact a6 ad j v rfl hu
  · obtain ⟨b1, b2⟩ := r2 k hk
    exact ⟨Nat.lt_of_lt_of_le b1 h.size, fun hf => b2 (hF k b1 hf)⟩
theorem RdF.weak {w : World} {F F' : Nat → Prop} {A : Option Addr} {n c : Nat} {l : List UInt8} (r : RdF w F A n c l) (hF : ∀ k, k < w.heap.size → F' k → F k) : RdF w F' A n c l := ⟨r.1, fun k hk => ⟨(r.2 k hk).1, fun hf => (r.2 k hk).2 (hF k (r.2 k hk).1 hf)⟩⟩
theorem Own.rdF {w : World} {B : Nat} {A : Option Addr} {n c : Nat} {l : List UInt8} (o : Own w B A n c l) {F : Nat → Prop} (hF : ∀ k, F k → k < B) : RdF w F A n c l := by
  refine ⟨o.rd, fun k hk => ?_⟩
  obtain ⟨h1, h2⟩ := World.ownsRow.lt o k (by rw [obk_eq]; exact hk)
  exact ⟨h2, fun hf => by have := hF k hf; omega⟩
/-- A request's cells. -/
def reqL (q : RQ) (K : Option Addr) (nk ck : Nat) (V : Option Addr) (nv cv : Nat) : List Value := [.int .i64 q.op, .bool q.qt, .bool q.fu, .int .i64 q.bd, .int .u32 (q.oq : Nat), .slice K nk ck, .slice V nv cv, .int .u32 (q.fl : Nat), .int .u32 (q.ex : Nat), .int .u64 (q.cs : Nat), .int .u64 (q.dl : Nat), .int .u64 (q.ni : Nat)]
def TCell (w : World) (F : Nat → Prop) (q : RQ) (cs : List Value) : Prop := ∃ K nk ck V nv cv, cs = reqL q K nk ck V nv cv ∧ RdF w F K nk ck q.lk ∧ RdF w F V nv cv q.lv
theorem TCell.len {w : World} {F : Nat → Prop} {q : RQ} {cs : List Value} (h : TCell w F q cs) : cs.length = 12 := by
  obtain ⟨K, nk, ck, V, nv, cv, rfl, -, -⟩ := h; rfl
theorem TCell.kp {w w' : World} {F F' : Nat → Prop} {q : RQ} {cs : List Value} (r : TCell w F q cs) {G : Nat → Prop} (h : Kp w w' G) (hG : ∀ k, k < w.heap.size → G k → F k) (hF : ∀ k, k < w.heap.size → F' k → F k) : TCell w' F' q cs := by
  obtain ⟨K, nk, ck, V, nv, cv, e, r1, r2⟩ := r
  exact ⟨K, nk, ck, V, nv, cv, e, r1.kp h hG hF, r2.kp h hG hF⟩
/-- A row of them. -/
def TRow (w : World) (F : Nat → Prop) (qs : List RQ) (L : List (List Value)) : Prop := L.length = qs.length ∧ ∀ (j : Nat) (q : RQ) (cs : List Value), qs[j]? = some q → L[j]? = some cs → TCell w F q cs
theorem TRow.nil (w : World) (F : Nat → Prop) : TRow w F [] [] := ⟨rfl, fun j q cs h => by simp at h⟩
theorem TRow.kp {w w' : World} {F F' : Nat → Prop} {qs : List RQ} {L : List (List Value)} (r : TRow w F qs L) {G : Nat → Prop} (h : Kp w w' G) (hG : ∀ k, k < w.heap.size → G k → F k) (hF : ∀ k, k < w.heap.size → F' k → F k) : TRow w' F' qs L := ⟨r.1, fun j q cs h1 h2 => (r.2 j q cs h1 h2).kp h hG hF⟩
theorem TRow.below {w w' : World} {F : Nat → Prop} {qs : List RQ} {L : List (List Value)} (r : TRow w F qs L) (h : Below w.heap.size w w') (hF : ∀ k, F k → k < w.heap.size) : TRow w' F qs L := r.kp (Kp.of_below h (fun _ => False)) (fun _ _ h => h.elim) (fun _ _ h => h)
theorem TRow.weak {w : World} {F F' : Nat → Prop} {qs : List RQ} {L : List (List Value)} (r : TRow w F qs L) (hF : ∀ k, k < w.heap.size → F' k → F k) : TRow w F' qs L := r.kp (Kp.of_below (Below.refl _ _) (fun _ => False)) (fun _ _ h => h.elim) hF
theorem TRow.snoc {w : World} {F : Nat → Prop} {qs : List RQ} {L : List (List Value)} (r : TRow w F qs L) {q : RQ} {cs : List Value} (h : TCell w F q cs) : TRow w F (qs ++ [q]) (L ++ [cs]) := by
  refine ⟨by rw [List.length_append, List.length_append, r.1]; rfl, fun j q' cs' h1 h2 => ?_⟩
  rw [List.getElem?_append] at h1 h2
  rw [r.1] at h2
  split at h1
  · rename_i hj
    rw [if_pos hj] at h2
    exact r.2 j q' cs' h1 h2
  · rename_i hj
    rw [if_neg hj] at h2
    have e : j - qs.length = 0 := by
      have := (List.getElem?_eq_some_iff.1 h1).1
      simp at this
      omega
    rw [e] at h1 h2
    simp at h1 h2
    subst h1 h2
    exact h
theorem TRow.lens {w : World} {F : Nat → Prop} {qs : List RQ} {L : List (List Value)} (r : TRow w F qs L) : ∀ x ∈ L, x.length = 12 := by
  intro x hx
  obtain ⟨j, hj, rfl⟩ := List.mem_iff_getElem.1 hx
  have hj' : j < qs.length := by rw [← r.1]; exact hj
  exact (r.2 j qs[j] L[j] (List.getElem?_eq_getElem hj') (List.getElem?_eq_getElem hj)).len
theorem TRow.ones {w : World} {F : Nat → Prop} {q : RQ} {cs : List Value} (h : TCell w F q cs) : ∀ u ∈ cs, u.oneCell' = true := by
  obtain ⟨K, nk, ck, V, nv, cv, rfl, -, -⟩ := h
  unfold reqL
  intro u hu
  simp only [List.mem_cons, List.not_mem_nil, or_false] at hu
  rcases hu with rfl | rfl | rfl | rfl | rfl | rfl | rfl | rfl | rfl | rfl | rfl | rfl <;> rfl
end
section
open Go.RowKit

theorem tell_len {l : List UInt8} : (tell l).2.1.length ≤ l.length := by
  generalize hn : l.length = n
  induction n using Nat.strongRecOn generalizing l with
  | ind n ih =>
    cases hx : nxt l with
    | none => rw [tell_bad hx]; exact Nat.zero_le _
    | some o =>
      cases o with
      | none => rw [tell_no hx]; exact Nat.le_of_eq hn
      | some p =>
        obtain ⟨q, N⟩ := p
        have hs := nxt_step hx
        rw [tell_yes hx]
        have hd : (l.drop N).length = l.length - N := List.length_drop
        have := ih (l.length - N) (by omega) (l := l.drop N) hd
        show (tell (l.drop N)).2.1.length ≤ n
        omega
theorem tell_few {l : List UInt8} : (tell l).1.length ≤ l.length := by
  generalize hn : l.length = n
  induction n using Nat.strongRecOn generalizing l with
  | ind n ih =>
    cases hx : nxt l with
    | none => rw [tell_bad hx]; exact Nat.zero_le _
    | some o =>
      cases o with
      | none => rw [tell_no hx]; exact Nat.zero_le _
      | some p =>
        obtain ⟨q, N⟩ := p
        have hs := nxt_step hx
        rw [tell_yes hx]
        have hd : (l.drop N).length = l.length - N := List.length_drop
        have := ih (l.length - N) (by omega) (l := l.drop N) hd
        show ((tell (l.drop N)).1.length + 1) ≤ n
        omega
theorem Oz.kp {w w' : World} {B z n c : Nat} {e : TypeId} {A : Option Addr} {xs : List Value} (h : Oz w B e z A n c xs) {G : Nat → Prop} (hk : Kp w w' G) (hG : ∀ k, obk A = some k → ¬ G k) : Oz w' B e z A n c xs := by
  refine ⟨h.1, ?_⟩
  rcases h.2 with h' | ⟨g, cap, cur, hv, hg, hh, r⟩
  · exact Or.inl h'
  · refine Or.inr ⟨g, cap, cur, hv, hg, (hk.block g (Array.getElem?_eq_some_iff.1 hh).1 (hG g ?_)).trans hh, r⟩
    injection hv with e1
    subst e1
    rfl
theorem Oz.own {w : World} {B z n c : Nat} {e : TypeId} {A : Option Addr} {xs : List Value} (h : Oz w B e z A n c xs) : ∀ k, obk A = some k → B ≤ k ∧ k < w.heap.size := fun k hk => h.at' k (by rw [obk_eq]; exact hk)
theorem Que.own {w : World} {B n c : Nat} {A : Option Addr} {l : List UInt8} (h : Que w B A n c l) : ∀ k, obk A = some k → B ≤ k ∧ k < w.heap.size := fun k hk => h.owner k (by rw [obk_eq]; exact hk)
/-- What may change. -/
def AllF (g : Nat) (A OA : Option Addr) (k : Nat) : Prop := k = g ∨ obk A = some k ∨ obk OA = some k
/-- The state: what is held, what was told. -/
def AllJ (g : Nat) (w : World) (u : List UInt8) (qs : List RQ) (A : Option Addr) (cq : Nat) (OA : Option Addr) (on oc : Nat) (L : List (List Value)) (wr : World) : Prop :=
  PrsA wr g A u.length cq u false ∧ Oz wr (g + 1) 26 12 OA on oc L.flatten ∧ TRow wr (AllF g A OA) qs L ∧ (∀ k, obk A = some k → obk OA ≠ some k) ∧ on = qs.length ∧ Below w.heap.size w wr ∧ w.heap.size ≤ g
/-- The state between a request told and its append. -/
def AllT (g : Nat) (w : World) (u : List UInt8) (qs : List RQ) (A : Option Addr) (cq : Nat) (OA : Option Addr) (on oc : Nat) (L : List (List Value)) (q : RQ) (cs : List Value) (wr : World) : Prop := AllJ g w u qs A cq OA on oc L wr ∧ TCell wr (AllF g A OA) q cs
/-- What is left when all is told. -/
def AllE (w : World) (qs : List RQ) (OA : Option Addr) (on oc : Nat) (wr : World) : Prop := ∃ L : List (List Value), Rz wr wr.heap.size 12 OA on oc L.flatten ∧ TRow wr (fun _ => False) qs L ∧ on = qs.length ∧ Below w.heap.size w wr
section
variable {g cq on oc : Nat} {w wr wr' : World} {u : List UInt8} {qs : List RQ} {A OA : Option Addr} {L : List (List Value)} {q : RQ} {cs : List Value}
theorem allF_lt {n c : Nat} {br : Bool} {xs : List Value} {e : TypeId} (hp : PrsA w g A n c u br) (ho : Oz w (g + 1) e 12 OA on oc xs) : ∀ k, AllF g A OA k → k < w.heap.size := by
  intro k hk
  rcases hk with rfl | hk | hk
  · exact hp.lt
  · exact (hp.2.own k hk).2
  · exact (ho.own k hk).2
theorem AllJ.prs (h : AllJ g w u qs A cq OA on oc L wr) : PrsA wr g A u.length cq u false := h.1
theorem AllJ.oz (h : AllJ g w u qs A cq OA on oc L wr) : Oz wr (g + 1) 26 12 OA on oc L.flatten := h.2.1
theorem AllJ.len (h : AllJ g w u qs A cq OA on oc L wr) : on = qs.length := h.2.2.2.2.1
theorem AllJ.bel (h : AllJ g w u qs A cq OA on oc L wr) : Below w.heap.size w wr := h.2.2.2.2.2.1
theorem AllJ.ge (h : AllJ g w u qs A cq OA on oc L wr) : w.heap.size ≤ g := h.2.2.2.2.2.2
theorem AllJ.lt (h : AllJ g w u qs A cq OA on oc L wr) : g < wr.heap.size := h.1.lt
theorem AllJ.done (h : AllJ g w u qs A cq OA on oc L wr) : AllE w qs OA on oc wr := ⟨L, h.2.1.rz, h.2.2.1.weak (fun _ _ h => h.elim), h.len, h.bel⟩
theorem AllJ.start {w1 : World} (hp : PrsA w1 w.heap.size none 0 0 [] false) (b : Below w.heap.size w w1) : AllJ w.heap.size w [] [] none 0 none 0 0 [] w1 :=
  ⟨hp, Oz.nil _ _ _ _, TRow.nil _ _, (fun k h => by cases h), rfl, b, Nat.le_refl _⟩
theorem AllJ.below (h : AllJ g w u qs A cq OA on oc L wr) (b : Below wr.heap.size wr wr') : AllJ g w u qs A cq OA on oc L wr' := by
  obtain ⟨hp, ho, ht, hd, hl, hb, hg⟩ := h
  exact ⟨hp.step b, ho.below b, ht.below b (allF_lt hp ho), hd, hl, below_step hb b, hg⟩
theorem AllT.below (h : AllT g w u qs A cq OA on oc L q cs wr) (b : Below wr.heap.size wr wr') : AllT g w u qs A cq OA on oc L q cs wr' :=
  ⟨h.1.below b, h.2.kp (Kp.of_below b (fun _ => False)) (fun _ _ h => h.elim) (fun _ _ h => h)⟩
theorem AllJ.bad (h : AllJ g w u qs A cq OA on oc L wr) (hg : wr.grownBy wr' (some g)) : AllE w qs OA on oc wr' := by
  obtain ⟨hp, ho, ht, hd, hl, hb, hge⟩ := h
  have hk := Kp.of_grown hg
  refine ⟨L, (ho.kp hk (fun k h e => by have := (ho.own k h).1; omega)).rz, ht.kp hk (fun k _ e => .inl e) (fun _ _ h => h.elim), hl, hb.trans (below_grown hg hge hp.lt)⟩
theorem AllJ.feed (h : AllJ g w u qs A cq OA on oc L wr) {p : List UInt8} {m c' : Nat} {A' : Option Addr} (hm : p.length = m) (hp' : PrsA wr' g A' (u.length + m) c' (u ++ p) false) (tk : TwoK wr wr' g (Value.slice A u.length 0).ownBlock)
    (hA : (Value.slice A' u.length 0).ownBlock = (Value.slice A u.length 0).ownBlock ∨ (Value.slice A' u.length 0).ownBlock = some wr.heap.size) : AllJ g w (u ++ p) qs A' c' OA on oc L wr' := by
  obtain ⟨hp, ho, ht, hd, hl, hb, hge⟩ := h
  rw [obk_eq] at tk hA
  rw [obk_eq] at hA
  have hk := Kp.of_two tk
  have hlo := ho.own
  refine ⟨by rw [List.length_append, hm]; exact hp', ho.kp hk (fun k h1 h2 => ?_), ht.kp hk (fun k _ h => ?_) (fun k hlt h => ?_), fun k h1 h2 => ?_, hl, ?_, hge⟩
  · rcases h2 with rfl | h2
    · have := (hlo _ h1).1; omega
    · exact hd k h2.symm h1
  · rcases h with rfl | h
    · exact .inl rfl
    · exact .inr (.inl h.symm)
  · rcases h with h | h | h
    · exact .inl h
    · rcases hA with e | e
      · rw [e] at h; exact .inr (.inl h)
      · rw [e] at h; injection h with h; omega
    · exact .inr (.inr h)
  · rcases hA with e | e
    · rw [e] at h1; exact hd k h1 h2
    · rw [e] at h1; injection h1 with h1; have := (hlo k h2).2; omega
  · refine hb.trans (hk.below (fun k h => ?_) hb.size)
    rcases h with rfl | h
    · exact hge
    · have := (hp.2.own k h.symm).1; omega
theorem AllJ.told (h : AllJ g w u qs A cq OA on oc L wr) {N cx nk ck nv cv : Nat} {X K V : Option Addr} (hN : N ≤ u.length) (hp' : PrsA wr' g X (u.length - N) cx (u.drop N) false) (oK : Own wr' wr.heap.size K nk ck q.lk) (oV : Own wr' wr.heap.size V nv cv q.lv) (gg : wr.grownBy wr' (some g)) (hX : (Value.slice X 0 0).ownBlock = (Value.slice A 0 0).ownBlock) :
    AllT g w (u.drop N) qs X cx OA on oc L q (reqL q K nk ck V nv cv) wr' := by
  obtain ⟨hp, ho, ht, hd, hl, hb, hge⟩ := h
  rw [obk_eq, obk_eq] at hX
  have hk := Kp.of_grown gg
  have hlo := ho.own
  have hF : AllF g X OA = AllF g A OA := by funext k; unfold AllF; rw [hX]
  have hlt := allF_lt hp ho
  refine ⟨⟨by rw [List.length_drop]; exact hp', ho.kp hk (fun k h1 h2 => by have := (hlo k h1).1; omega), ?_, by rw [hX]; exact hd, hl, hb.trans (below_grown gg hge hp.lt), hge⟩, ?_⟩
  · rw [hF]; exact ht.kp hk (fun k _ e => .inl e) (fun _ _ h => h)
  · rw [hF]; exact ⟨K, nk, ck, V, nv, cv, rfl, oK.rdF hlt, oV.rdF hlt⟩
theorem AllT.snoc (h : AllT g w u qs A cq OA on oc L q cs wr) {OA' : Option Addr} {oc' : Nat} (ho' : Oz wr' (g + 1) 26 12 OA' (on + 1) oc' (L.flatten ++ cs)) (gg : wr.grownBy wr' (Value.slice OA on oc).ownBlock)
    (hA : (Value.slice OA' (on + 1) oc').ownBlock = (Value.slice OA on oc).ownBlock ∨ (Value.slice OA' (on + 1) oc').ownBlock = some wr.heap.size) : AllJ g w u (qs ++ [q]) A cq OA' (on + 1) oc' (L ++ [cs]) wr' := by
  obtain ⟨⟨hp, ho, ht, hd, hl, hb, hge⟩, hc⟩ := h
  rw [obk_eq] at gg hA
  rw [obk_eq] at hA
  have hk := Kp.of_row gg
  have hlo := ho.own
  have hF : ∀ k, k < wr.heap.size → AllF g A OA' k → AllF g A OA k := fun k hlt h => by
    rcases h with h | h | h
    · exact .inl h
    · exact .inr (.inl h)
    · rcases hA with e | e
      · rw [e] at h; exact .inr (.inr h)
      · rw [e] at h; injection h with h; omega
  refine ⟨⟨hk.blk hp.1 (fun h => by have := (hlo g h.symm).1; omega), hp.2.keptO gg (fun k h1 h2 => hd k (by rw [obk_eq] at h1; exact h1) h2)⟩, ?_, (ht.kp hk (fun k _ e => .inr (.inr e.symm)) hF).snoc (hc.kp hk (fun k _ e => .inr (.inr e.symm)) hF), fun k h1 h2 => ?_, ?_, ?_, hge⟩
  · rw [List.flatten_append, List.flatten_singleton]; exact ho'
  · rcases hA with e | e
    · rw [e] at h2; exact hd k h1 h2
    · rw [e] at h2; injection h2 with h2; have := (hp.2.own k h1).2; omega
  · rw [List.length_append, hl]; rfl
  · exact hb.trans (hk.below (fun k h => by have := (hlo k h.symm).1; omega) hb.size)
theorem AllE.below (h : AllE w qs OA on oc wr) (b : Below wr.heap.size wr wr') : AllE w qs OA on oc wr' := by
  obtain ⟨L, hr, ht, hl, hb⟩ := h
  exact ⟨L, hr.step b, ht.below b (fun _ h => h.elim), hl, below_step hb b⟩
end
end
section
open Go.RowKit

theorem reqinfo : (Try.prog.info? 26).map (fun i => (i.size, i.bytes, i.zero.map (fun z => z.cells.size))) = some (12, (Try.prog.info? 26).elim 0 (·.bytes), some 12) := by kernel_rfl
theorem reqbytes : (Try.prog.info? 26).elim 0 (·.bytes) ≤ 200 := by decide +kernel
theorem req_parts : ∃ i z, Try.prog.info? 26 = some i ∧ i.zero = some z ∧ i.size = 12 ∧ i.bytes ≤ 200 ∧ z.cells.size = 12 := by
  have h := reqinfo
  have hb := reqbytes
  cases hi : Try.prog.info? 26 with
  | none => rw [hi] at h; cases h
  | some i =>
    rw [hi] at h hb
    simp only [Option.map_some, Option.some.injEq, Prod.mk.injEq] at h
    obtain ⟨h1, -, h2⟩ := h
    cases hz : i.zero with
    | none => rw [hz] at h2; cases h2
    | some z =>
      rw [hz] at h2
      simp only [Option.map_some, Option.some.injEq] at h2
      exact ⟨i, z, rfl, hz, h1, hb, h2⟩
/-- A slice literal of one request. -/
theorem wpl_bsR (w : World) {ops : Array Oper} {rest : List Oper} {o : Oper} {a : Act} {Q : Exit → Act → World → Prop} (hg : o.guard = none) (x : Operand) (ho : o.op = .buildSlice 75 1 #[(0, x)]) (cs : Array Value) (hx : a.eval x = .agg cs) (hl : cs.size = 12)
    (h : wpList Try.prog ops Q rest (a.put o.dst (.slice (some ⟨w.heap.size, 0, none⟩) 1 1)) (w.alloc (.cells cs 26))) : wpList Try.prog ops Q (o :: rest) a w := by
  obtain ⟨i, z, hi, hz, hs, _, _⟩ := req_parts
  exact wpList_bs1 hg _ x ho 26 i z (.agg cs) 12 hx Try.underlying75 hi hz hs hl (by omega) (by decide) h
/-- append of requests: whose memory it is. -/
theorem wpl_appR (w : World) {ops : Array Oper} {rest : List Oper} {o : Oper} {a : Act} {Q : Exit → Act → World → Prop}
    (hg : Region.wanted o (yielded ops a.tmps) = true) (s x : Operand) (hop : o.op = Op.call { callee := Callee.builtin Builtin.append, args := #[s, x], argTypes := #[75, 75] })
    (B : Nat) (A : Option Addr) (n c : Nat) (xs : List Value) (hs : a.eval s = .slice A n c) (hown : Oz w B 26 12 A n c xs)
    (B2 : Nat) (A2 : Option Addr) (m c2 : Nat) (news : List Value) (hx : a.eval x = .slice A2 m c2) (hr : Rz w B2 12 A2 m c2 news) (h1 : ∀ u ∈ news, u.oneCell' = true)
    (hbytes : n + m ≤ 200000000000) (hbase : B ≤ w.heap.size)
    (hK : ∀ A' c' w', Oz w' B 26 12 A' (n + m) c' (xs ++ news) → w.grownBy w' (Value.slice A n c).ownBlock → ((Value.slice A' (n + m) c').ownBlock = (Value.slice A n c).ownBlock ∨ (Value.slice A' (n + m) c').ownBlock = some w.heap.size) → wpList Try.prog ops Q rest (a.put o.dst (.slice A' (n + m) c')) w') :
    wpList Try.prog ops Q (o :: rest) a w := by
  obtain ⟨i, z, hi, hz, hsz, hby, hzs⟩ := req_parts
  refine wpList_want hg fun K hK' => ?_
  obtain ⟨A', c', w', hrun, r1, r2, r3⟩ := run_appz (P := Try.prog) w B 75 o.type 26 i z 12 i.bytes Try.underlying75 hi hz hsz rfl hzs (by omega) A n c xs hown B2 A2 m c2 news hr h1 (by unfold maxLen; omega) (Nat.le_trans (Nat.mul_le_mul_left _ hby) (by omega)) hbase
  unfold Oper.wp
  simp [execOp, hop, resolve, invoke, builtin, hs, hx, hrun, Result.andThen]
  exact hK' _ _ (hK A' c' w' r1 r2 r3)
end
section
open Go.RowKit

/-- What 'all' answers. -/
def AllQ (l : List UInt8) (w : World) (e : Ending) (w' : World) : Prop :=
  ∃ (OA : Option Addr) (oc : Nat), e = .returned (.tuple #[.slice OA (tell l).1.length oc, .int .i64 ((tell l).2.1.length : Nat), .int .i64 (if (tell l).2.2 = true then 300 else 0)]) ∧ AllE w (tell l).1 OA (tell l).1.length oc w'
def lenV : Value → Nat
  | .slice _ n _ => n
  | _ => 0
/-- Next, written out. -/
def NxY (g N n : Nat) (A : Option Addr) (l : List UInt8) (q : RQ) (w : World) (e : Ending) (w' : World) : Prop :=
  ∃ (K2 V2 : Option Addr) (nk2 ck2 nv2 cv2 : Nat) (X3 : Option Addr) (cx3 : Nat), e = .returned (.tuple #[.agg #[.int .i64 q.op, .bool q.qt, .bool q.fu, .int .i64 q.bd, .int .u32 (q.oq : Nat), .slice K2 nk2 ck2, .slice V2 nv2 cv2, .int .u32 (q.fl : Nat), .int .u32 (q.ex : Nat), .int .u64 (q.cs : Nat), .int .u64 (q.dl : Nat), .int .u64 (q.ni : Nat)], .bool true, .int .i64 0]) ∧ PrsA w' g X3 (n - N) cx3 (l.drop N) false ∧
    Own w' w.heap.size K2 nk2 ck2 q.lk ∧ Own w' w.heap.size V2 nv2 cv2 q.lv ∧ w.grownBy w' (some g) ∧ (Value.slice X3 0 0).ownBlock = (Value.slice A 0 0).ownBlock
/-- The outer state, and the inner one: the bytes fed so far are la. -/
def AllO (l la : List UInt8) (g : Nat) (w : World) (OA : Option Addr) (on oc : Nat) (wr : World) : Prop := ∃ (u : List UInt8) (qs : List RQ) (A : Option Addr) (cq : Nat) (L : List (List Value)), tell la = (qs, u, false) ∧ AllJ g w u qs A cq OA on oc L wr
def AllN (la : List UInt8) (g : Nat) (w : World) (OA : Option Addr) (on oc : Nat) (wr : World) : Prop := ∃ (u : List UInt8) (qs : List RQ) (A : Option Addr) (cq : Nat) (L : List (List Value)), tell la = (qs ++ (tell u).1, (tell u).2) ∧ AllJ g w u qs A cq OA on oc L wr
theorem take_more {l : List UInt8} {a k : Nat} : l.take a ++ (l.drop a).take k = l.take (a + k) := (List.take_add ..).symm
theorem allN_start {la p u : List UInt8} {qs : List RQ} (h : tell la = (qs, u, false)) : tell (la ++ p) = (qs ++ (tell (u ++ p)).1, (tell (u ++ p)).2) := by
  have := tell_app (l := la) (by rw [h]) p
  rw [h] at this
  exact this
theorem allN_bad {l la u : List UInt8} {qs : List RQ} {k : Nat} (hl : la = l.take k) (h : tell la = (qs ++ (tell u).1, (tell u).2)) (hx : nxt u = none) : tell l = (qs, [], true) := by
  rw [tell_bad hx, List.append_nil] at h
  have h2 := tell_app_bad (l := la) (by rw [h]) (l.drop k)
  rw [hl, List.take_append_drop, ← hl, h] at h2
  exact h2
theorem allN_no {la u : List UInt8} {qs : List RQ} (h : tell la = (qs ++ (tell u).1, (tell u).2)) (hx : nxt u = some none) : tell la = (qs, u, false) := by
  rw [tell_no hx, List.append_nil] at h
  exact h
theorem allN_yes {la u : List UInt8} {qs : List RQ} {q : RQ} {N : Nat} (h : tell la = (qs ++ (tell u).1, (tell u).2)) (hx : nxt u = some (some (q, N))) : tell la = ((qs ++ [q]) ++ (tell (u.drop N)).1, (tell (u.drop N)).2) ∧ qs.length + 1 ≤ (tell la).1.length := by
  rw [tell_yes hx] at h
  refine ⟨by rw [h, List.append_assoc]; rfl, ?_⟩
  rw [h]
  simp only [List.length_append, List.length_cons]
  omega
set_option maxRecDepth 100000 in
set_option maxHeartbeats 8000000 in
theorem all_any (A : Option Addr) (n c : Nat) (l : List UInt8) (AC : Option Addr) (nc cc : Nat) (lc : List UInt8) (w : World) (rb : Rd w w.heap.size A n c l) (rc : Rd w w.heap.size AC nc cc lc) (hn : n ≤ 65536) (hnc : nc ≤ 9223372036854775800) :
    Calls Try.prog 50 #[.slice A n c, .slice AC nc cc] w (AllQ l w) := by
  have HB := Lib.hid rb
  have HC := Lib.hid rc
  have HL := Lib.hid rb.len
  have HN := Lib.hid hn
  have HNC := Lib.hid hnc
  have HNB : Hid (∀ W g n c A u, PrsA W g A n c u false → nxt u = none → Calls Try.prog 49 #[.pointer (some ⟨g, 0, none⟩)] W fun e w' => e = .returned (.tuple #[.agg #[.int .i64 0, .bool false, .bool false, .int .i64 0, .int .u32 0, .slice none 0 0, .slice none 0 0, .int .u32 0, .int .u32 0, .int .u64 0, .int .u64 0, .int .u64 0], .bool false, .int .i64 300]) ∧ PrsA w' g none 0 0 [] true ∧ W.grownBy w' (some g)) := Lib.hid (fun W g n c A u h hx => next_bad' g n c A u W h hx)
  have HNW : Hid (∀ W g n c A u, PrsA W g A n c u false → nxt u = some none → Calls Try.prog 49 #[.pointer (some ⟨g, 0, none⟩)] W fun e w' => e = .returned (.tuple #[.agg #[.int .i64 0, .bool false, .bool false, .int .i64 0, .int .u32 0, .slice none 0 0, .slice none 0 0, .int .u32 0, .int .u32 0, .int .u64 0, .int .u64 0, .int .u64 0], .bool false, .int .i64 0]) ∧ Below W.heap.size W w') := Lib.hid (fun W g n c A u h hx => next_wait' g n c A u W h hx)
  have HNY : Hid (∀ W g n c A u q N, PrsA W g A n c u false → nxt u = some (some (q, N)) → Calls Try.prog 49 #[.pointer (some ⟨g, 0, none⟩)] W (NxY g N n A u q W)) := Lib.hid (fun W g n c A u q N h hx => next_yes' g n c A u W h q N hx)
  clear rb rc hn hnc
  go_enter Try.func50, Try.ntmps50
  go_wp2_with fail
  refine (new_any w).mono ?_
  rintro e w1 ⟨rfl, hp, b⟩
  have HJ := AllJ.start hp b
  clear hp b
  generalize hgg : w.heap.size = g at HJ ⊢
  go_wp2_with fail
  go_loopw [8, 9, 10, 11, 12, 13, 14] (fun s at_ i x1 x2 x3 x4 wr => ∃ (a j on oc : Nat) (OA : Option Addr), s = .slice OA on oc ∧ at_ = .int .i64 (a : Nat) ∧ i = .int .i64 (j : Nat) ∧ a ≤ n ∧ j ≤ nc ∧ AllO l (l.take a) g w OA on oc wr) (fun _ _ i _ _ _ _ _ => nc + 1 - (intOf i).toNat)
  case atStart => exact ⟨0, 0, 0, 0, none, rfl, rfl, rfl, Nat.zero_le _, Nat.zero_le _, [], [], none, 0, [], by rw [List.take_zero, tell_no nxt_nil], HJ⟩
  case round =>
    obtain ⟨a, j, on, oc, OA, rfl, rfl, rfl, ha, hj, hO⟩ := hrel
    have hge : Hid (w.heap.size ≤ g) := Lib.hid (by omega)
    obtain ⟨u, qs, A1, cq, L, hT, HJ⟩ := hO
    have HS : IntKind.i64.wrap ((n : Int) - (a : Int)) = (n : Int) - (a : Int) := IntWalk.i64_in _ (by have := HN.out; omega)
    go_upto_if 25 with fail
    go_cut [11] (fun v wx => ∃ k : Nat, v = .int .i64 (k : Nat) ∧ a + k ≤ n ∧ (¬ j < nc → a + k = n) ∧ wx = wr)
    case first =>
      by_cases hlt : j < nc
      · have hlt' : ((j : Int) < (nc : Int)) = True := eq_true (by omega)
        obtain ⟨ad, x, hAD, _, _, hcell⟩ := (HC.out.below HJ.bel).at_ hlt
        subst hAD
        have WX : IntKind.i64.wrap (x.toNat : Int) = (x.toNat : Int) := IntWalk.i64_in _ (by have := x.toNat_lt; omega)
        have HLT := Lib.hid hlt
        clear hlt
        go_wp2_with fail
        all_goals
          go_meet
          first
          | exact ⟨x.toNat, rfl, by omega, fun h => absurd HLT.out h, rfl⟩
          | exact ⟨n - a, by rw [show (n : Int) - (a : Int) = ((n - a : Nat) : Int) from by omega], by omega, fun _ => by omega, rfl⟩
      · have hlt' : ((j : Int) < (nc : Int)) = False := eq_false (by omega)
        go_wp2_with fail
        go_meet
        exact ⟨n - a, by rw [show (n : Int) - (a : Int) = ((n - a : Nat) : Int) from by omega], by omega, fun _ => by omega, rfl⟩
    case rest =>
      obtain ⟨k, rfl, hk, hkn, rfl⟩ := hcut
      clear HS
      have HK : IntKind.i64.wrap ((a : Int) + (k : Int)) = (a : Int) + (k : Int) := IntWalk.i64_in _ (by have := HN.out; omega)
      obtain ⟨X, cx, HX, hX2⟩ := slc_lh HB.out a (a + k) (a : Int) ((a : Int) + (k : Int)) rfl (by omega) (by omega) hk
      have rX := hX2 _ _ (HB.out.below HJ.bel)
      rw [Nat.add_sub_cancel_left] at rX
      simp only [Nat.add_sub_cancel_left] at HX
      clear hX2
      obtain ⟨p, hp⟩ : ∃ p, p = (l.take (a + k)).drop a := ⟨_, rfl⟩
      rw [← hp] at rX
      obtain ⟨la, hla⟩ : ∃ la, la = l.take (a + k) := ⟨_, rfl⟩
      have happ : l.take a ++ p = la := by
        have h1 := List.take_append_drop a (l.take (a + k))
        rw [List.take_take, Nat.min_eq_left (by omega)] at h1
        rw [hp, hla]
        exact h1
      have hul : u.length ≤ a := by
        have := @tell_len (l.take a)
        rw [hT, List.length_take] at this
        exact Nat.le_trans this (by omega)
      have hT2 := allN_start (p := p) hT
      rw [happ] at hT2
      have HLA := Lib.hid hla
      clear hp hla happ hT
      go_wp2_with fail
      refine (feed_ok g u.length cq A1 u X k cx p _ HJ.prs (rX.more HJ.bel.size) (by have := HN.out; omega)).mono ?_
      rintro e w2 ⟨A2, c2, rfl, hp2, tk, hA2⟩
      have HJ2 := HJ.feed rX.len hp2 tk hA2
      clear HJ hp2 tk hA2 rX hul HX
      generalize u ++ p = u2 at hT2 HJ2
      have hTT : qs.length ≤ (tell la).1.length := by rw [hT2, List.length_append]; omega
      have hTN : Hid ((tell la).1.length ≤ 65536) := Lib.hid (by
        have h1 := @tell_few la
        have h2 := HLA.out
        have h3 : la.length ≤ n := by rw [h2, List.length_take]; omega
        have := HN.out; omega)
      obtain ⟨TT, hTe⟩ : ∃ TT, TT = (tell la).1.length := ⟨_, rfl⟩
      have HTE := Lib.hid hTe
      rw [← hTe] at hTT hTN
      clear hTe
      have honT : Hid (on ≤ TT) := Lib.hid (by have := HJ2.len; omega)
      clear hTT
      go_wp2_with fail
      go_loopw [8, 12, 13, 14] (fun s x2 x3 x4 wr => ∃ (on oc : Nat) (OA : Option Addr), s = .slice OA on oc ∧ on ≤ TT ∧ AllN la g w OA on oc wr) (fun s _ _ _ _ => TT - lenV s)
      case atStart => exact ⟨on, oc, OA, rfl, honT.out, u2, qs, A2, c2, L, hT2, HJ2⟩
      case round =>
        clear HJ2 hT2 honT
        obtain ⟨on', oc', OA', rfl, hon, u3, qs3, A3, c3, L3, hT3, HJ3⟩ := hrel
        cases hx : nxt u3 with
        | none =>
          have hTl := allN_bad HLA.out hT3 hx
          go_wp2_with fail
          refine (HNB.out _ _ u3.length c3 A3 u3 HJ3.prs hx).mono ?_
          rintro e w3 ⟨rfl, hp3, gg⟩
          have HE := HJ3.bad gg
          have HL3 := Lib.hid HJ3.len
          clear gg HJ3 hT3 hx
          go_upto_region 12 with fail
          have ba := below_a1' (Below.refl w3.heap.size w3) (.cells #[.int .i64 0, .bool false, .bool false, .int .i64 0, .int .u32 0, .slice none 0 0, .slice none 0 0, .int .u32 0, .int .u32 0, .int .u64 0, .int .u64 0, .int .u64 0] 26)
          replace hp3 := hp3.step ba
          replace HE := HE.below ba
          clear ba
          generalize w3.alloc (.cells #[.int .i64 0, .bool false, .bool false, .int .i64 0, .int .u32 0, .slice none 0 0, .slice none 0 0, .int .u32 0, .int .u32 0, .int .u64 0, .int .u64 0, .int .u64 0] 26) = W3 at hp3 HE ⊢
          go_wp2_with fail
          refine (held_any g 0 0 none [] true W3 hp3).mono ?_
          rintro e w4 ⟨rfl, rfl⟩
          go_wp2_with fail
          refine bodyPost_ret (v := .tuple #[.slice OA' on' oc', .int .i64 0, .int .i64 300]) (by simp [results, Try.results50, go_sem]) rfl ?_
          have e1 : on' = (tell l).1.length := by rw [hTl]; exact HL3.out
          refine ⟨OA', oc', ?_, ?_⟩
          · rw [← e1, hTl]; rfl
          · rw [← e1, hTl]; exact HE
        | some o =>
          cases o with
          | none =>
            have hTl := allN_no hT3 hx
            go_wp2_with fail
            refine (HNW.out _ _ u3.length c3 A3 u3 HJ3.prs hx).mono ?_
            rintro e w3 ⟨rfl, b3⟩
            replace HJ3 := HJ3.below b3
            have HL3 := Lib.hid HJ3.len
            clear b3 hT3 hx
            go_upto_region 12 with fail
            have ba := below_a1' (Below.refl w3.heap.size w3) (.cells #[.int .i64 0, .bool false, .bool false, .int .i64 0, .int .u32 0, .slice none 0 0, .slice none 0 0, .int .u32 0, .int .u32 0, .int .u64 0, .int .u64 0, .int .u64 0] 26)
            replace HJ3 := HJ3.below ba
            clear ba
            generalize w3.alloc (.cells #[.int .i64 0, .bool false, .bool false, .int .i64 0, .int .u32 0, .slice none 0 0, .slice none 0 0, .int .u32 0, .int .u32 0, .int .u64 0, .int .u64 0, .int .u64 0] 26) = W3 at HJ3 ⊢
            have HTL := Lib.hid hTl
            clear hTl
            by_cases hend : a + k = n ∧ nc ≤ j
            · have h1 : (((a : Int) + (k : Int)) == (n : Int)) = true := beq_iff_eq.2 (by omega)
              have h2 : ((a : Int) + (k : Int) = (n : Int)) = True := eq_true (by omega)
              have h3 : ((nc : Int) ≤ (j : Int)) = True := eq_true (by omega)
              have HE := Lib.hid hend
              clear hend
              go_wp2_with fail
              refine (held_any g u3.length c3 A3 u3 false W3 HJ3.prs).mono ?_
              rintro e w4 ⟨rfl, rfl⟩
              go_wp2_with fail
              refine bodyPost_ret (v := .tuple #[.slice OA' on' oc', .int .i64 (u3.length : Nat), .int .i64 0]) (by simp [results, Try.results50, go_sem]) rfl ?_
              have e0 : la = l := by rw [HLA.out, HE.out.1, ← HL.out]; exact List.take_length
              have hTl := HTL.out
              rw [e0] at hTl
              have e1 : on' = (tell l).1.length := by rw [hTl]; exact HL3.out
              refine ⟨OA', oc', ?_, ?_⟩
              · rw [← e1, hTl]; rfl
              · rw [← e1, hTl]; exact HJ3.done
            · have HJP : IntKind.i64.wrap ((j : Int) + 1) = (j : Int) + 1 := IntWalk.i64_in _ (by have := HNC.out; omega)
              have HJL : Hid (j + 1 ≤ nc) := Lib.hid (by
                by_cases e : a + k = n
                · omega
                · by_cases e2 : j < nc
                  · omega
                  · exact absurd (hkn e2) e)
              by_cases e : a + k = n
              · have h1 : (((a : Int) + (k : Int)) == (n : Int)) = true := beq_iff_eq.2 (by omega)
                have h2 : ((a : Int) + (k : Int) = (n : Int)) = True := eq_true (by omega)
                have h3 : ((nc : Int) ≤ (j : Int)) = False := eq_false (by have := HJL.out; omega)
                clear e hend hkn
                go_wp2_with fail
                go_roundw
                case rel => exact ⟨a + k, j + 1, on', oc', OA', rfl, by first | rfl | go_num, by first | rfl | go_num, hk, HJL.out, u3, qs3, A3, c3, L3, by rw [← HLA.out]; exact HTL.out, HJ3⟩
                case measure => have := HJL.out; simp [intOf]; omega
              · have h1 : (((a : Int) + (k : Int)) == (n : Int)) = false := by rw [beq_eq_false_iff_ne]; omega
                have h2 : ((a : Int) + (k : Int) = (n : Int)) = False := eq_false (by omega)
                clear e hend hkn
                go_wp2_with fail
                go_roundw
                case rel => exact ⟨a + k, j + 1, on', oc', OA', rfl, by first | rfl | go_num, by first | rfl | go_num, hk, HJL.out, u3, qs3, A3, c3, L3, by rw [← HLA.out]; exact HTL.out, HJ3⟩
                case measure => have := HJL.out; simp [intOf]; omega
          | some pr =>
            obtain ⟨q, N⟩ := pr
            obtain ⟨hTy, hTq⟩ := allN_yes hT3 hx
            have hNs := nxt_step hx
            go_wp2_with fail
            refine (HNY.out _ _ u3.length c3 A3 u3 q N HJ3.prs hx).mono ?_
            rintro e w3 ⟨K2, V2, nk2, ck2, nv2, cv2, X3, cx3, rfl, hp3, oK, oV, gg, hX⟩
            have HT := HJ3.told hNs.2 hp3 oK oV gg hX
            have HL3 := Lib.hid (show on' + 1 ≤ TT by rw [HTE.out, HJ3.len]; exact hTq)
            have HCL := Lib.hid HJ3.len
            have HTY := Lib.hid hTy
            clear hTy hTq hNs
            clear hp3 oK oV gg hX hT3 hx HJ3
            go_upto_region 12 with fail
            have kq := Blk.new w3 #[.int .i64 q.op, .bool q.qt, .bool q.fu, .int .i64 q.bd, .int .u32 (q.oq : Nat), .slice K2 nk2 ck2, .slice V2 nv2 cv2, .int .u32 (q.fl : Nat), .int .u32 (q.ex : Nat), .int .u64 (q.cs : Nat), .int .u64 (q.dl : Nat), .int .u64 (q.ni : Nat)] 26
            have ba := below_a1' (Below.refl w3.heap.size w3) (.cells #[.int .i64 q.op, .bool q.qt, .bool q.fu, .int .i64 q.bd, .int .u32 (q.oq : Nat), .slice K2 nk2 ck2, .slice V2 nv2 cv2, .int .u32 (q.fl : Nat), .int .u32 (q.ex : Nat), .int .u64 (q.cs : Nat), .int .u64 (q.dl : Nat), .int .u64 (q.ni : Nat)] 26)
            replace HT := HT.below ba
            clear ba
            generalize w3.alloc (.cells #[.int .i64 q.op, .bool q.qt, .bool q.fu, .int .i64 q.bd, .int .u32 (q.oq : Nat), .slice K2 nk2 ck2, .slice V2 nv2 cv2, .int .u32 (q.fl : Nat), .int .u32 (q.ex : Nat), .int .u64 (q.cs : Nat), .int .u64 (q.dl : Nat), .int .u64 (q.ni : Nat)] 26) = W3 at HT kq ⊢
            generalize w3.heap.size = gq at kq ⊢
            obtain ⟨z0, z1, z2, z3, z4, z5, z6, z7, z8, z9, z10, z11⟩ := box12 kq
            have HTN2 := hTN.out
            have rn := Rz.new1 W3 #[.int .i64 q.op, .bool q.qt, .bool q.fu, .int .i64 q.bd, .int .u32 (q.oq : Nat), .slice K2 nk2 ck2, .slice V2 nv2 cv2, .int .u32 (q.fl : Nat), .int .u32 (q.ex : Nat), .int .u64 (q.cs : Nat), .int .u64 (q.dl : Nat), .int .u64 (q.ni : Nat)] 26 12 rfl
            have HT4 := HT.below (below_a1' (Below.refl W3.heap.size W3) (.cells #[.int .i64 q.op, .bool q.qt, .bool q.fu, .int .i64 q.bd, .int .u32 (q.oq : Nat), .slice K2 nk2 ck2, .slice V2 nv2 cv2, .int .u32 (q.fl : Nat), .int .u32 (q.ex : Nat), .int .u64 (q.cs : Nat), .int .u64 (q.dl : Nat), .int .u64 (q.ni : Nat)] 26))
            have hsz4 : g + 1 ≤ (W3.alloc (.cells #[.int .i64 q.op, .bool q.qt, .bool q.fu, .int .i64 q.bd, .int .u32 (q.oq : Nat), .slice K2 nk2 ck2, .slice V2 nv2 cv2, .int .u32 (q.fl : Nat), .int .u32 (q.ex : Nat), .int .u64 (q.cs : Nat), .int .u64 (q.dl : Nat), .int .u64 (q.ni : Nat)] 26)).heap.size := HT4.1.lt
            have h1c := TRow.ones HT4.2
            go_wp2_with (first | refine wpl_bsR _ rfl _ rfl #[.int .i64 q.op, .bool q.qt, .bool q.fu, .int .i64 q.bd, .int .u32 (q.oq : Nat), .slice K2 nk2 ck2, .slice V2 nv2 cv2, .int .u32 (q.fl : Nat), .int .u32 (q.ex : Nat), .int .u64 (q.cs : Nat), .int .u64 (q.dl : Nat), .int .u64 (q.ni : Nat)] rfl rfl ?_ | (at_builtin; refine wpl_appR _ rfl _ _ rfl (g + 1) OA' on' oc' L3.flatten rfl HT4.1.oz _ _ 1 1 _ rfl rn h1c (by have := HL3.out; omega) hsz4 ?_))
            intro OA5 oc5 w5 ho5 gg5 hA5
            have HJ5 := HT4.snoc ho5 gg5 (by rw [World.size_alloc]; exact hA5)
            clear HT HT4 ho5 gg5 hA5 rn h1c hsz4 kq z0 z1 z2 z3 z4 z5 z6 z7 z8 z9 z10 z11 HTN2
            go_wp2_with fail
            go_roundw
            case rel => exact ⟨on' + 1, oc5, OA5, rfl, HL3.out, u3.drop N, qs3 ++ [q], X3, cx3, L3 ++ [_], HTY.out, HJ5⟩
            case measure => have := HL3.out; simp [lenV]; omega
end
section
open Go.RowKit

theorem undReq : ∃ fs, Try.prog.underlying 26 = some (.struct fs) := by
  refine ⟨_, Try.underlying26⟩
theorem szReq : (Try.prog.info? 26).map (·.size) = some 12 := by kernel_rfl
theorem still_loadR {ops : Array Oper} {rest : List Oper} {o : Oper} {a : Act} {w : World} {Q : Act → Prop} (hw : Region.wanted o (yielded ops a.tmps) = true) (x : Operand) (ho : o.op = .load 26 x)
    (p : Addr) (hx : a.eval x = .pointer (some p)) (cs : List Value) (hl : cs.length = 12) (hc : ∀ j v, cs[j]? = some v → w.cell? (p.add j) = some v)
    (h : wpStill Try.prog ops w Q rest (a.put o.dst (.agg cs.toArray))) : wpStill Try.prog ops w Q (o :: rest) a := by
  obtain ⟨fs, hu⟩ := undReq
  refine wpStill_step fun K hK => ?_
  rw [if_pos hw]
  unfold Oper.still execOp
  simp only [ho, hx, Instr.loadAt, Instr.sureAddr, Sem.run_bind, Sem.run_pure, Result.andThen_ok, run_ldz w p _ cs _ hc hu rfl (by rw [hl]; exact szReq), Oper.stillUpon_value]
  exact hK _ h
/-- Element j of a row of told requests. -/
theorem told_at {w : World} {B n c : Nat} {A : Option Addr} {L : List (List Value)} {F : Nat → Prop} {qs : List RQ} (h : Rz w B 12 A n c L.flatten) (ht : TRow w F qs L) {j : Nat} (hj : j < qs.length) (hn : n = qs.length) :
    ∃ ad q K nk ck V nv cv, A = some ad ∧ qs[j]? = some q ∧ (∀ i v, (reqL q K nk ck V nv cv)[i]? = some v → w.cell? ((ad.add (j * 12)).add i) = some v) ∧ Rd w w.heap.size K nk ck q.lk ∧ Rd w w.heap.size V nv cv q.lv := by
  obtain ⟨ad, hA, hb, hl, hc⟩ := Rz.elem h (i := j) (by omega)
  have hq : qs[j]? = some qs[j] := List.getElem?_eq_getElem hj
  have hjl : j < L.length := by rw [ht.1]; exact hj
  have hL : L[j]? = some L[j] := List.getElem?_eq_getElem hjl
  obtain ⟨K, nk, ck, V, nv, cv, e, r1, r2⟩ := ht.2 j _ _ hq hL
  refine ⟨ad, _, K, nk, ck, V, nv, cv, hA, hq, fun i v hv => hc i v ?_, r1.1, r2.1⟩
  rw [flat_elem 12 L ht.lens hL, e]
  exact hv
end
section
open Go.ChangeShapes Go.WideShapes Go.ChangeAt Go.RowKit

/-- What 'all' answers, its words under names. -/
def AllR (qs : List RQ) (N hl : Nat) (er : Int) (w : World) (e : Ending) (w' : World) : Prop :=
  ∃ (OA : Option Addr) (oc : Nat) (L : List (List Value)), e = .returned (.tuple #[.slice OA N oc, .int .i64 (hl : Nat), .int .i64 er]) ∧ Rz w' w'.heap.size 12 OA N oc L.flatten ∧ TRow w' (fun _ => False) qs L ∧ Below w.heap.size w w'
theorem AllQ.r {l : List UInt8} {w : World} {e : Ending} {w' : World} (h : AllQ l w e w') : AllR (tell l).1 (tell l).1.length (tell l).2.1.length (if (tell l).2.2 = true then 300 else 0) w e w' := by
  obtain ⟨OA, oc, he, L, h1, h2, -, h4⟩ := h
  exact ⟨OA, oc, L, he, h1, h2, h4⟩
theorem same_self (q : RQ) (K1 V1 K2 V2 : Option Addr) (nk1 ck1 nv1 cv1 nk2 ck2 nv2 cv2 : Nat) (w : World) (h1 : Rd w w.heap.size K1 nk1 ck1 q.lk) (h2 : Rd w w.heap.size V1 nv1 cv1 q.lv) (h3 : Rd w w.heap.size K2 nk2 ck2 q.lk) (h4 : Rd w w.heap.size V2 nv2 cv2 q.lv) :
    Calls Try.prog 48 #[.agg (reqL q K1 nk1 ck1 V1 nv1 cv1).toArray, .agg (reqL q K2 nk2 ck2 V2 nv2 cv2).toArray] w fun e w' => e = .returned (.bool true) ∧ Below w.heap.size w w' := by
  have h := qsame_any q.op q.op q.bd q.bd q.qt q.qt q.fu q.fu q.oq q.oq q.fl q.fl q.ex q.ex q.cs q.cs q.dl q.dl q.ni q.ni K1 K2 V1 V2 nk1 ck1 nk2 ck2 nv1 cv1 nv2 cv2 q.lk q.lk q.lv q.lv w h1 h3 h2 h4
  rw [reqSame_yes ⟨rfl, rfl, rfl, rfl, rfl, rfl, rfl, rfl, rfl, rfl, rfl, rfl⟩] at h
  exact h
set_option maxRecDepth 100000 in
set_option maxHeartbeats 4000000 in
theorem walk_parsePieces (A0 : Option Addr) (n0 c0 : Nat) (l0 : List UInt8) (A1 : Option Addr) (n1 c1 : Nat) (l1 : List UInt8) (A2 : Option Addr) (n2 c2 : Nat) (l2 : List UInt8) (w : World) (r0 : Rd w w.heap.size A0 n0 c0 l0) (s0 : c0 ≤ 140737488351232) (r1 : Rd w w.heap.size A1 n1 c1 l1) (s1 : c1 ≤ 140737488351232) (r2 : Rd w w.heap.size A2 n2 c2 l2) (s2 : c2 ≤ 140737488351232) :
    Calls Try.prog 10 #[.slice A0 n0 c0, .slice A1 n1 c1, .slice A2 n2 c2] w fun e w' => e = .returned (.bool true) ∧ Below w.heap.size w w' := by
  have hc0 := r0.cap
  have hc1 := r1.cap
  have hc2 := r2.cap
  obtain ⟨m0, E0⟩ : ∃ m, m = min n0 20000 := ⟨_, rfl⟩
  have I0 : (if (20000 : Int) < (n0 : Int) then (20000 : Int) else (n0 : Int)) = (m0 : Int) := by split <;> omega
  obtain ⟨m1, E1⟩ : ∃ m, m = min n1 200 := ⟨_, rfl⟩
  have I1 : (if (200 : Int) < (n1 : Int) then (200 : Int) else (n1 : Int)) = (m1 : Int) := by split <;> omega
  obtain ⟨m2, E2⟩ : ∃ m, m = min n2 200 := ⟨_, rfl⟩
  have I2 : (if (200 : Int) < (n2 : Int) then (200 : Int) else (n2 : Int)) = (m2 : Int) := by split <;> omega
  obtain ⟨X0, cx0, HX0, h0⟩ := slc_h r0 m0 (m0 : Int) rfl (by omega)
  obtain ⟨X1, cx1, HX1, h1⟩ := slc_h r1 m1 (m1 : Int) rfl (by omega)
  obtain ⟨X2, cx2, HX2, h2⟩ := slc_h r2 m2 (m2 : Int) rfl (by omega)
  have HR0 := Lib.hid (h0 _ _ r0)
  have HR1 := Lib.hid (h1 _ _ r1)
  have HR2 := Lib.hid (h2 _ _ r2)
  have HM : Hid (m0 ≤ 20000 ∧ m1 ≤ 200 ∧ m2 ≤ 200) := Lib.hid (by omega)
  have HAL : Hid (∃ qs N hl er, (N = qs.length ∧ N ≤ 20000) ∧ ∀ W, Below w.heap.size w W → ∀ (A : Option Addr) (m c : Nat) (lc : List UInt8), Rd W W.heap.size A m c lc → m ≤ 200 → Calls Try.prog 50 #[.slice X0 m0 cx0, .slice A m c] W (AllR qs N hl er W)) := Lib.hid ⟨_, _, _, _, ⟨rfl, by have h := @tell_few (l0.take m0); have h2 := HR0.out.len; have := HM.out; omega⟩, fun W bW A m c lc rc hm => (all_any X0 m0 cx0 (l0.take m0) A m c lc W (HR0.out.step bW) rc (by have := HM.out; omega) (by omega)).mono fun _ _ h => h.r⟩
  obtain ⟨qs, N, hl, er, ⟨hN, hN2⟩, HA⟩ := HAL.out
  have HALL := Lib.hid HA
  have HN := Lib.hid hN
  have HN2 := Lib.hid hN2
  clear HA HAL hN hN2 E0 E1 E2 h0 h1 h2 hc0 hc1 hc2 HR0
  go_enter Try.func10, Try.ntmps10
  go_wp2_with fail
  refine (wakes20 w).mono ?_
  rintro e w1 ⟨rfl, b⟩
  go_upto_region 3 with fail
  go_cut [0, 1, 2] (fun v0 v1 v2 wx => v0 = .slice X0 m0 cx0 ∧ v1 = .slice X1 m1 cx1 ∧ v2 = .slice X2 m2 cx2 ∧ Below w.heap.size w wx)
  case first =>
    go_region
    all_goals (first | go_meet | (go_wp2_with fail; go_meet))
    all_goals exact ⟨rfl, rfl, rfl, b.drew⟩
  case rest =>
    obtain ⟨rfl, rfl, rfl, b⟩ := hcut
    clear HX0 HX1 HX2 I0 I1 I2
    go_wp2_with fail
    refine (HALL.out _ b X1 m1 cx1 _ (HR1.out.step b) HM.out.2.1).mono ?_
    rintro e w2 ⟨OA1, oc1, L1, rfl, z1, t1, b1⟩
    replace b := below_step b b1
    clear b1
    go_wp2_with fail
    refine (HALL.out _ b X2 m2 cx2 _ (HR2.out.step b) HM.out.2.2).mono ?_
    rintro e w3 ⟨OA2, oc2, L2, rfl, z2, t2, b1⟩
    replace b := below_step b b1
    replace z1 := z1.step b1
    replace t1 := t1.below b1 (fun _ h => h.elim)
    clear b1
    go_wp2_with fail
    go_loopw [13, 62] (fun y i wr => ∃ j : Nat, j ≤ N ∧ i = .int .i64 (j : Nat) ∧ Below w3.heap.size w3 wr) (fun _ i _ => N - (intOf i).toNat)
    case atStart => exact ⟨0, Nat.zero_le _, rfl, Below.refl _ _⟩
    case round =>
      obtain ⟨j, hj, rfl, hb⟩ := hrel
      have z1 := z1.step hb
      have z2 := z2.step hb
      have t1 := t1.below hb (fun _ h => h.elim)
      have t2 := t2.below hb (fun _ h => h.elim)
      by_cases hlt : j < N
      · obtain ⟨ad1, q, K1, nk1, ck1, V1, nv1, cv1, hA1, hq1, hc1, k1, v1⟩ := told_at z1 t1 (j := j) (by rw [← HN.out]; exact hlt) HN.out
        obtain ⟨ad2, q2, K2, nk2, ck2, V2, nv2, cv2, hA2, hq2, hc2, k2, v2⟩ := told_at z2 t2 (j := j) (by rw [← HN.out]; exact hlt) HN.out
        obtain rfl : q = q2 := by rw [hq1] at hq2; injection hq2
        subst hA1 hA2
        have hlt' : ((j : Int) < (N : Int)) = True := eq_true (by omega)
        have HJP : IntKind.i64.wrap ((j : Int) + 1) = (j : Int) + 1 := IntWalk.i64_in _ (by have := HN2.out; omega)
        have HLT : Hid (j + 1 ≤ N) := Lib.hid (by omega)
        clear hlt z1 z2 t1 t2 hq1 hq2
        go_upto_region 11 with fail
        have hbd := hb.drew
        have k1d : Rd wr.drew wr.drew.heap.size K1 nk1 ck1 q.lk := k1
        have v1d : Rd wr.drew wr.drew.heap.size V1 nv1 cv1 q.lv := v1
        have k2d : Rd wr.drew wr.drew.heap.size K2 nk2 ck2 q.lk := k2
        have v2d : Rd wr.drew wr.drew.heap.size V2 nv2 cv2 q.lv := v2
        have hc1d : ∀ i v, (reqL q K1 nk1 ck1 V1 nv1 cv1)[i]? = some v → wr.drew.cell? ((ad1.add (j * 12)).add i) = some v := hc1
        have hc2d : ∀ i v, (reqL q K2 nk2 ck2 V2 nv2 cv2)[i]? = some v → wr.drew.cell? ((ad2.add (j * 12)).add i) = some v := hc2
        clear hc1 hc2 k1 v1 k2 v2
        have HC1 := Lib.hid hc1d
        have HC2 := Lib.hid hc2d
        clear hc1d hc2d
        refine wp_region_still_tail 8 (by kernel_rfl) (by kernel_rfl) ?_
        change wpStill _ _ wr.drew (fun a' => wpList _ _ _ _ a' wr.drew) _ _
        generalize wr.drew = W1 at hbd k1d v1d k2d v2d HC1 HC2 ⊢
        simp only [List.take_succ_cons, List.take_zero, List.drop_succ_cons, List.drop_zero]
        still_step
        still_step
        still_step
        refine still_loadR (by rfl) _ rfl (ad1.add (j * 12)) (by rfl) (reqL q K1 nk1 ck1 V1 nv1 cv1) rfl HC1.out ?_
        still_step
        still_step
        still_step
        refine still_loadR (by rfl) _ rfl (ad2.add (j * 12)) (by rfl) (reqL q K2 nk2 ck2 V2 nv2 cv2) rfl HC2.out ?_
        refine wpStill_nil ?_
        go_wp2_with fail
        refine (same_self q K1 V1 K2 V2 nk1 ck1 nv1 cv1 nk2 ck2 nv2 cv2 W1 k1d v1d k2d v2d).mono ?_
        rintro e w5 ⟨rfl, b5⟩
        replace hbd := below_step hbd b5
        clear b5 k1d v1d k2d v2d HC1 HC2
        go_wp2_with fail
        go_roundw
        case rel => exact ⟨j + 1, HLT.out, by first | rfl | go_num, hbd⟩
        case measure => have := HLT.out; simp [intOf]; omega
      · have hlt' : ((j : Int) < (N : Int)) = False := eq_false (by omega)
        go_wp2_with fail
        go_ret
        exact ⟨rfl, below_step b hb⟩
end
end Go.Proofs.Ytnghmgbmflcngaa

/- icehouselaw20.all: its state, without the program's text. Conditions: typed in each theorem. -/
import Derived.Test.YtnghmgbmflcngaaZpar
namespace Go.Proofs.Ytnghmgbmflcngaa
set_option linter.unusedVariables false
open Go.RowKit
theorem Oz.kp {w w' : World} {B z n c : Nat} {e : TypeId} {A : Option Addr} {xs : List Value} (h : Oz w B e z A n c xs) {G : Nat → Prop} (hk : Kp w w' G) (hG : ∀ k, obk A = some k → ¬ G k) : Oz w' B e z A n c xs := by
  refine ⟨h.1, ?_⟩
  rcases h.2 with h' | ⟨g, cap, cur, hv, hg, hh, r⟩
  · exact Or.inl h'
  · refine Or.inr ⟨g, cap, cur, hv, hg, (hk.block g (Array.getElem?_eq_some_iff.1 hh).1 (hG g ?_)).trans hh, r⟩
    injection hv with e1
    subst e1
    rfl
theorem Oz.own {w : World} {B z n c : Nat} {e : TypeId} {A : Option Addr} {xs : List Value} (h : Oz w B e z A n c xs) : ∀ k, obk A = some k → B ≤ k ∧ k < w.heap.size := fun k hk => h.at' k (by rw [obk_eq]; exact hk)
theorem Que.own {w : World} {B n c : Nat} {A : Option Addr} {l : List UInt8} (h : Que w B A n c l) : ∀ k, obk A = some k → B ≤ k ∧ k < w.heap.size := fun k hk => h.owner k (by rw [obk_eq]; exact hk)
def AllF (g : Nat) (A OA : Option Addr) (k : Nat) : Prop := k = g ∨ obk A = some k ∨ obk OA = some k
def AllJ (g : Nat) (w : World) (u : List UInt8) (qs : List RQ) (A : Option Addr) (cq : Nat) (OA : Option Addr) (on oc : Nat) (L : List (List Value)) (wr : World) : Prop :=
  PrsA wr g A u.length cq u false ∧ Oz wr (g + 1) 26 12 OA on oc L.flatten ∧ TRow wr (AllF g A OA) qs L ∧ (∀ k, obk A = some k → obk OA ≠ some k) ∧ on = qs.length ∧ Below w.heap.size w wr ∧ w.heap.size ≤ g
def AllT (g : Nat) (w : World) (u : List UInt8) (qs : List RQ) (A : Option Addr) (cq : Nat) (OA : Option Addr) (on oc : Nat) (L : List (List Value)) (q : RQ) (cs : List Value) (wr : World) : Prop := AllJ g w u qs A cq OA on oc L wr ∧ TCell wr (AllF g A OA) q cs
def AllE (w : World) (qs : List RQ) (OA : Option Addr) (on oc : Nat) (wr : World) : Prop := ∃ L : List (List Value), Rz wr wr.heap.size 12 OA on oc L.flatten ∧ TRow wr (fun _ => False) qs L ∧ on = qs.length ∧ Below w.heap.size w wr
section
variable {g cq on oc : Nat} {w wr wr' : World} {u : List UInt8} {qs : List RQ} {A OA : Option Addr} {L : List (List Value)} {q : RQ} {cs : List Value}
theorem allF_lt {n c : Nat} {br : Bool} {xs : List Value} {e : TypeId} (hp : PrsA w g A n c u br) (ho : Oz w (g + 1) e 12 OA on oc xs) : ∀ k, AllF g A OA k → k < w.heap.size := by
  intro k hk
  rcases hk with rfl | hk | hk
  · exact hp.lt
  · exact (hp.2.own k hk).2
  · exact (ho.own k hk).2
theorem AllJ.prs (h : AllJ g w u qs A cq OA on oc L wr) : PrsA wr g A u.length cq u false := h.1
theorem AllJ.len (h : AllJ g w u qs A cq OA on oc L wr) : on = qs.length := h.2.2.2.2.1
theorem AllJ.bel (h : AllJ g w u qs A cq OA on oc L wr) : Below w.heap.size w wr := h.2.2.2.2.2.1
theorem AllJ.ge (h : AllJ g w u qs A cq OA on oc L wr) : w.heap.size ≤ g := h.2.2.2.2.2.2
theorem AllJ.lt (h : AllJ g w u qs A cq OA on oc L wr) : g < wr.heap.size := h.1.lt
theorem AllJ.done (h : AllJ g w u qs A cq OA on oc L wr) : AllE w qs OA on oc wr := ⟨L, h.2.1.rz, h.2.2.1.weak (fun _ _ h => h.elim), h.len, h.bel⟩
theorem AllJ.below (h : AllJ g w u qs A cq OA on oc L wr) (b : Below wr.heap.size wr wr') : AllJ g w u qs A cq OA on oc L wr' := by
  obtain ⟨hp, ho, ht, hd, hl, hb, hg⟩ := h
  exact ⟨hp.step b, ho.below b, ht.below b (allF_lt hp ho), hd, hl, below_step hb b, hg⟩
theorem AllT.below (h : AllT g w u qs A cq OA on oc L q cs wr) (b : Below wr.heap.size wr wr') : AllT g w u qs A cq OA on oc L q cs wr' :=
  ⟨h.1.below b, h.2.kp (Kp.of_below b (fun _ => False)) (fun _ _ h => h.elim) (fun _ _ h => h)⟩
theorem AllJ.bad (h : AllJ g w u qs A cq OA on oc L wr) (hg : wr.grownBy wr' (some g)) : AllE w qs OA on oc wr' := by
  obtain ⟨hp, ho, ht, hd, hl, hb, hge⟩ := h
  have hk := Kp.of_grown hg
  refine ⟨L, (ho.kp hk (fun k h e => by have := (ho.own k h).1; omega)).rz, ht.kp hk (fun k _ e => .inl e) (fun _ _ h => h.elim), hl, hb.trans (below_grown hg hge hp.lt)⟩
theorem AllJ.told (h : AllJ g w u qs A cq OA on oc L wr) {N cx nk ck nv cv : Nat} {X K V : Option Addr} (hN : N ≤ u.length) (hp' : PrsA wr' g X (u.length - N) cx (u.drop N) false) (oK : Own wr' wr.heap.size K nk ck q.lk) (oV : Own wr' wr.heap.size V nv cv q.lv) (gg : wr.grownBy wr' (some g)) (hX : (Value.slice X 0 0).ownBlock = (Value.slice A 0 0).ownBlock) :
    AllT g w (u.drop N) qs X cx OA on oc L q (reqL q K nk ck V nv cv) wr' := by
  obtain ⟨hp, ho, ht, hd, hl, hb, hge⟩ := h
  rw [obk_eq, obk_eq] at hX
  have hk := Kp.of_grown gg
  have hlo := ho.own
  have hF : AllF g X OA = AllF g A OA := by funext k; unfold AllF; rw [hX]
  have hlt := allF_lt hp ho
  refine ⟨⟨by rw [List.length_drop]; exact hp', ho.kp hk (fun k h1 h2 => by have := (hlo k h1).1; omega), ?_, by rw [hX]; exact hd, hl, hb.trans (below_grown gg hge hp.lt), hge⟩, ?_⟩
  · rw [hF]; exact ht.kp hk (fun k _ e => .inl e) (fun _ _ h => h)
  · rw [hF]; exact ⟨K, nk, ck, V, nv, cv, rfl, oK.rdF hlt, oV.rdF hlt⟩
theorem AllT.snoc (h : AllT g w u qs A cq OA on oc L q cs wr) {OA' : Option Addr} {oc' : Nat} (ho' : Oz wr' (g + 1) 26 12 OA' (on + 1) oc' (L.flatten ++ cs)) (gg : wr.grownBy wr' (Value.slice OA on oc).ownBlock)
    (hA : (Value.slice OA' (on + 1) oc').ownBlock = (Value.slice OA on oc).ownBlock ∨ (Value.slice OA' (on + 1) oc').ownBlock = some wr.heap.size) : AllJ g w u (qs ++ [q]) A cq OA' (on + 1) oc' (L ++ [cs]) wr' := by
  obtain ⟨⟨hp, ho, ht, hd, hl, hb, hge⟩, hc⟩ := h
  rw [obk_eq] at gg hA
  rw [obk_eq] at hA
  have hk := Kp.of_row gg
  have hlo := ho.own
  have hF : ∀ k, k < wr.heap.size → AllF g A OA' k → AllF g A OA k := fun k hlt h => by
    rcases h with h | h | h
    · exact .inl h
    · exact .inr (.inl h)
    · rcases hA with e | e
      · rw [e] at h; exact .inr (.inr h)
      · rw [e] at h; injection h with h; omega
  refine ⟨⟨hk.blk hp.1 (fun h => by have := (hlo g h.symm).1; omega), hp.2.keptO gg (fun k h1 h2 => hd k (by rw [obk_eq] at h1; exact h1) h2)⟩, ?_, (ht.kp hk (fun k _ e => .inr (.inr e.symm)) hF).snoc (hc.kp hk (fun k _ e => .inr (.inr e.symm)) hF), fun k h1 h2 => ?_, ?_, ?_, hge⟩
  · rw [List.flatten_append, List.flatten_singleton]; exact ho'
  · rcases hA with e | e
    · rw [e] at h2; exact hd k h1 h2
    · rw [e] at h2; injection h2 with h2; have := (hp.2.own k h1).2; omega
  · rw [List.length_append, hl]; rfl
  · exact hb.trans (hk.below (fun k h => by have := (hlo k h.symm).1; omega) hb.size)
theorem AllE.below (h : AllE w qs OA on oc wr) (b : Below wr.heap.size wr wr') : AllE w qs OA on oc wr' := by
  obtain ⟨L, hr, ht, hl, hb⟩ := h
  exact ⟨L, hr.step b, ht.below b (fun _ h => h.elim), hl, below_step hb b⟩
end
end Go.Proofs.Ytnghmgbmflcngaa

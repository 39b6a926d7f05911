/- The frames of an answer gathered out of bytes, by definition (for ReplyReads, ReplyBack). Conditions: typed in each theorem. -/
import Derived.Test.YtnghmgbmflcngaaZfri
import Derived.Test.YtnghmgbmflcngaaZrep
namespace Go.Proofs.Ytnghmgbmflcngaa
set_option linter.unusedVariables false
open Go.RowKit

/-- Bytes stay where an answer's box turns: none of its cells holds a byte. -/
theorem rd_boxA {w w' : World} {B n c g : Nat} {A : Option Addr} {l : List UInt8} {cs : Array Value} {T : TypeId} (r : Rd w B A n c l) (kb : Blk w g cs T) (h0 : ∀ (j : Nat) (v : Value), cs[j]? = some v → ∀ x, v ≠ cb x) (hg : w.grownBy w' (some g)) (hB : B ≤ w.heap.size) : Rd w' B A n c l := by
  obtain ⟨a1, a2, a3, a4, a5, a6⟩ := r
  refine ⟨a1, a2, a3, a4, a5, fun ad j v hA hu => ?_⟩
  have hc := a6 ad j v hA hu
  have hj : 0 < n := by have := (List.getElem?_eq_some_iff.1 hu).1; omega
  have hlt := a5 ad hA hj
  by_cases e : (ad.add j).block = g
  · exfalso
    rw [cbs_get?] at hu
    obtain ⟨x, hx, rfl⟩ := Option.map_eq_some_iff.1 hu
    have hb : w.heap[(ad.add j).block]? = some (.cells cs T (0, 0)) := by rw [e]; exact kb
    unfold World.cell? at hc
    rw [hb] at hc
    simp only at hc
    split at hc
    · cases hc
    · exact h0 _ _ hc x rfl
  · rw [World.cell?_of_block (hg.block _ (by rw [block_add]; omega) (fun h => e (by injection h)))]
    exact hc
theorem ans_nob {st : Int} {af ac an : Int} {V S : Value} {cl : Bool} (hV : ∀ x, V ≠ cb x) (hS : ∀ x, S ≠ cb x) : ∀ (j : Nat) (v : Value), (#[.int .i64 st, V, .int .u32 af, .int .u64 ac, .int .u64 an, S, .bool cl] : Array Value)[j]? = some v → ∀ x, v ≠ cb x := by
  intro j v hv x
  match j, hv with
  | 0, hv => simp at hv; subst hv; unfold cb; intro h; cases h
  | 1, hv => simp at hv; subst hv; exact hV x
  | 2, hv => simp at hv; subst hv; unfold cb; intro h; cases h
  | 3, hv => simp at hv; subst hv; unfold cb; intro h; cases h
  | 4, hv => simp at hv; subst hv; unfold cb; intro h; cases h
  | 5, hv => simp at hv; subst hv; exact hS x
  | 6, hv => simp at hv; subst hv; unfold cb; intro h; cases h
  | k + 7, hv => simp at hv
theorem rd_ans {w w' : World} {B n c g : Nat} {A : Option Addr} {l : List UInt8} {T : TypeId} {st af ac an : Int} {VA SA : Option Addr} {nv cv ns sc : Nat} {cl : Bool} (r : Rd w B A n c l) (kb : Blk w g #[.int .i64 st, .slice VA nv cv, .int .u32 af, .int .u64 ac, .int .u64 an, .slice SA ns sc, .bool cl] T) (hg : w.grownBy w' (some g)) (hB : B ≤ w.heap.size) : Rd w' B A n c l :=
  rd_boxA r kb (ans_nob (fun x => by unfold cb; intro h; cases h) (fun x => by unfold cb; intro h; cases h)) hg hB
/-- What Get answers for an error. -/
def getEr (l : List UInt8) : Int := if needE l = 0 then (if l.length < needN l then 9 else 0) else needE l
/-- A frame's value bytes, its key, its extras. -/
def gX (l : List UInt8) : List UInt8 := (l.drop 24).take (fld l 4 1)
def gK (l : List UInt8) : List UInt8 := ((l.drop 24).drop (fld l 4 1)).take (fld l 2 2)
def gV (l : List UInt8) : List UInt8 := ((l.drop 24).take (fld l 8 4)).drop (fld l 4 1 + fld l 2 2)
/-- What the frames tell: cut off, none, or so many bytes, the stats, and where the last frame begins. -/
inductive GR where
  | short
  | bad
  | done (n : Nat) (SL : List (ByteArray × ByteArray)) (last : List UInt8)
def GR.push (acc : List (ByteArray × ByteArray)) (at_ : Nat) : GR → GR
  | .done n SL f => .done (at_ + n) (acc ++ SL) f
  | x => x
/-- Is it a stat's frame, behind which another one comes? -/
def isStatF (op : Int) (l : List UInt8) : Bool := decide (op = 16) && decide (fld l 6 2 = 0) && decide (0 < fld l 2 2)
def statP (l : List UInt8) : ByteArray × ByteArray := (⟨(gK l).toArray⟩, ⟨(gV l).toArray⟩)
def gather (op : Int) : Nat → List UInt8 → GR
  | 0, l => if getEr l = 9 then .short else .bad
  | k + 1, l => if getEr l = 9 then .short else if getEr l ≠ 0 then .bad else
      if isStatF op l = true then (gather op k (l.drop (24 + fld l 8 4))).push [statP l] (24 + fld l 8 4) else .done (24 + fld l 8 4) [] l
theorem push_push (g : GR) (a1 a2 : List (ByteArray × ByteArray)) (n1 n2 : Nat) : (g.push a2 n2).push a1 n1 = g.push (a1 ++ a2) (n1 + n2) := by
  cases g with
  | short => rfl
  | bad => rfl
  | done n SL f => simp [GR.push, Nat.add_assoc]
theorem push_nil (g : GR) : g.push [] 0 = g := by
  cases g with
  | short => rfl
  | bad => rfl
  | done n SL f => simp [GR.push]
/-- The state of the loop: round n, at bytes read, the stats so far. -/
def GthI (op : Int) (b : List UInt8) (n at_ : Nat) (SL : List (ByteArray × ByteArray)) : Prop := n ≤ 17 ∧ at_ ≤ b.length ∧ SL.length = n ∧ gather op 17 b = (gather op (17 - n) (b.drop at_)).push SL at_
theorem GthI.start (op : Int) (b : List UInt8) : GthI op b 0 0 [] := ⟨by decide, Nat.zero_le _, rfl, by rw [List.drop_zero, push_nil]⟩
theorem getEr_fits {l : List UInt8} (h : getEr l = 0) : needE l = 0 ∧ needN l ≤ l.length := by
  unfold getEr at h
  by_cases h1 : needE l = 0
  · rw [if_pos h1] at h
    by_cases h2 : l.length < needN l
    · rw [if_pos h2] at h; cases h
    · exact ⟨h1, by omega⟩
  · rw [if_neg h1] at h
    exact absurd h h1
section
variable {op : Int} {b : List UInt8} {n at_ : Nat} {SL : List (ByteArray × ByteArray)}
theorem GthI.short (h : GthI op b n at_ SL) (he : getEr (b.drop at_) = 9) : gather op 17 b = .short := by
  obtain ⟨h1, h2, h3, h4⟩ := h
  rw [h4]
  cases hk : 17 - n with
  | zero => rw [gather, if_pos he]; rfl
  | succ k => rw [gather, if_pos he]; rfl
theorem GthI.bad (h : GthI op b n at_ SL) (he : getEr (b.drop at_) ≠ 9) (hb : getEr (b.drop at_) ≠ 0 ∨ n = 17) : gather op 17 b = .bad := by
  obtain ⟨h1, h2, h3, h4⟩ := h
  rw [h4]
  cases hk : 17 - n with
  | zero => rw [gather, if_neg he]; rfl
  | succ k =>
    rcases hb with hb | hb
    · rw [gather, if_neg he, if_pos hb]; rfl
    · omega
theorem GthI.last (h : GthI op b n at_ SL) (he : getEr (b.drop at_) = 0) (hn : n ≠ 17) (hs : isStatF op (b.drop at_) = false) : gather op 17 b = .done (at_ + (24 + fld (b.drop at_) 8 4)) SL (b.drop at_) := by
  obtain ⟨h1, h2, h3, h4⟩ := h
  rw [h4]
  obtain ⟨k, hk⟩ : ∃ k, 17 - n = k + 1 := ⟨16 - n, by omega⟩
  rw [hk, gather, if_neg (by rw [he]; decide), if_neg (by rw [he]; decide), if_neg (by rw [hs]; decide)]
  simp [GR.push]
theorem GthI.next (h : GthI op b n at_ SL) (he : getEr (b.drop at_) = 0) (hn : n ≠ 17) (hs : isStatF op (b.drop at_) = true) (hN : needN (b.drop at_) = 24 + fld (b.drop at_) 8 4) : GthI op b (n + 1) (at_ + (24 + fld (b.drop at_) 8 4)) (SL ++ [statP (b.drop at_)]) := by
  obtain ⟨h1, h2, h3, h4⟩ := h
  obtain ⟨k, hk⟩ : ∃ k, 17 - n = k + 1 := ⟨16 - n, by omega⟩
  have hf := (getEr_fits he).2
  rw [hN, List.length_drop] at hf
  refine ⟨by omega, by omega, by rw [List.length_append, h3]; rfl, ?_⟩
  rw [h4, hk, gather, if_neg (by rw [he]; decide), if_neg (by rw [he]; decide), if_pos hs, push_push, List.drop_drop, show 17 - (n + 1) = k from by omega]
end
theorem needN_ok {l : List UInt8} (h : getEr l = 0) : needN l = 24 + fld l 8 4 := by
  unfold needN
  rw [if_pos (getEr_fits h).1]
theorem get_gno (A : Option Addr) (n c : Nat) (l : List UInt8) (w : World) (h : Rd w w.heap.size A n c l) (he : getEr l ≠ 0) : Calls Try.prog 51 #[.slice A n c] w (GetNo (getEr l) w) := by
  unfold getEr at he ⊢
  by_cases h1 : needE l = 0
  · rw [if_pos h1] at he ⊢
    by_cases h2 : l.length < needN l
    · rw [if_pos h2]
      exact get_short A n c l w h h1 (by rw [← h.len]; exact h2)
    · rw [if_neg h2] at he
      exact absurd rfl he
  · rw [if_neg h1]
    exact get_no A n c l w h h1
theorem rget_gno (A : Option Addr) (n c : Nat) (l : List UInt8) (w : World) (h : Rd w w.heap.size A n c l) (he : getEr l ≠ 0) : Calls Try.prog 106 #[.slice A n c] w (GetNo (getEr l) w) := by
  unfold getEr at he ⊢
  by_cases h1 : needE l = 0
  · rw [if_pos h1] at he ⊢
    by_cases h2 : l.length < needN l
    · rw [if_pos h2]
      exact rget_short A n c l w h h1 (by rw [← h.len]; exact h2)
    · rw [if_neg h2] at he
      exact absurd rfl he
  · rw [if_neg h1]
    exact rget_no A n c l w h h1
theorem get_gok (A : Option Addr) (n c : Nat) (l : List UInt8) (w : World) (h : Rd w w.heap.size A n c l) (he : getEr l = 0) : Calls Try.prog 51 #[.slice A n c] w (GetOk l w) :=
  get_ok A n c l w h (getEr_fits he).1 (by rw [← h.len]; exact (getEr_fits he).2)
theorem rget_gok (A : Option Addr) (n c : Nat) (l : List UInt8) (w : World) (h : Rd w w.heap.size A n c l) (he : getEr l = 0) : Calls Try.prog 106 #[.slice A n c] w (GetOk l w) :=
  rget_ok A n c l w h (getEr_fits he).1 (by rw [← h.len]; exact (getEr_fits he).2)
/-- A frame that is got, its words under names. -/
def GoP (mg op kl el ty st bl oq cas nv N : Nat) (u : List UInt8) (w : World) (e : Ending) (w' : World) : Prop := ∃ X cx K ck V cv, e = .returned (.tuple #[.agg #[.int .u8 (mg : Nat), .int .u8 (op : Nat), .int .u16 (kl : Nat), .int .u8 (el : Nat), .int .u8 (ty : Nat), .int .u16 (st : Nat), .int .u32 (bl : Nat), .int .u32 (oq : Nat), .int .u64 (cas : Nat), .slice X el cx, .slice K kl ck, .slice V nv cv], .int .i64 (N : Nat), .int .i64 0]) ∧
  Rd w' w'.heap.size X el cx (gX u) ∧ Rd w' w'.heap.size K kl ck (gK u) ∧ Rd w' w'.heap.size V nv cv (gV u) ∧ Below w.heap.size w w'
structure GoN (u : List UInt8) (kl el st bl cas nv N : Nat) : Prop where
  hkl : kl = fld u 2 2
  hel : el = fld u 4 1
  hst : st = fld u 6 2
  hcas : cas = fld u 16 8
  hN : N = 24 + fld u 8 4
  hle : N ≤ u.length
theorem get_go (u : List UInt8) (he : getEr u = 0) : ∃ (mg op kl el ty st bl oq cas nv N : Nat), GoN u kl el st bl cas nv N ∧ (∀ A n c w, Rd w w.heap.size A n c u → Calls Try.prog 51 #[.slice A n c] w (GoP mg op kl el ty st bl oq cas nv N u w)) ∧ (∀ A n c w, Rd w w.heap.size A n c u → Calls Try.prog 106 #[.slice A n c] w (GoP mg op kl el ty st bl oq cas nv N u w)) :=
  ⟨fld u 0 1, fld u 1 1, fld u 2 2, fld u 4 1, fld u 5 1, fld u 6 2, fld u 8 4, fld u 12 4, fld u 16 8, _, 24 + fld u 8 4, ⟨rfl, rfl, rfl, rfl, rfl, by rw [← needN_ok he]; exact (getEr_fits he).2⟩, fun A n c w r => get_gok A n c u w r he, fun A n c w r => rget_gok A n c u w r he⟩
end Go.Proofs.Ytnghmgbmflcngaa

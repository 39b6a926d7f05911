/- icehouselaw22.talk, all answered plainly. Conditions: typed in each theorem. -/
import Derived.Test.YtnghmgbmflcngaaTlj
import Derived.Test.YtnghmgbmflcngaaArq
import Derived.Deep.DeepCutAuto
namespace Go.Proofs.Ytnghmgbmflcngaa
set_option linter.unusedVariables false
open Go.RowKit
def msT (wr : World) (gc gp : Nat) : Nat := match wr.cell? ⟨gc, 3, none⟩ with
  | some (.bool true) => 0
  | _ => match wr.cell? ⟨gp, 0, none⟩ with
    | some (.slice _ n _) => n + 1
    | _ => 0
theorem CnA.mt {w : World} {B gc gp n c on oc : Nat} {A OA : Option Addr} {l lo : List UInt8} {wv : Value} {wq : Option RQ} (h : CnA w B gc gp A n c l OA on oc lo wv wq) : msT w gc gp = n + 1 := by
  unfold msT
  rw [(box4 h.box).2.2.2, (box2 h.prs.1).1]
theorem CnC.mt {w : World} {B gc on oc : Nat} {OA : Option Addr} {lo : List UInt8} (h : CnC w B gc OA on oc lo) (gp : Nat) : msT w gc gp = 0 := by
  unfold msT
  rw [(box4 h.box).2.2.2]
def TkOp (w : World) (Bb gc : Nat) (fed : List UInt8) (XA : Option Addr) (xn xc : Nat) (xo : List UInt8) (LA : Option Addr) (ln lc : Nat) (qs : List RQ) (A : Option Addr) (c : Nat) (l : List UInt8) (OA : Option Addr) (on oc : Nat) (lo : List UInt8) (L : List (List Value)) (wr : World) : Prop :=
  CnA wr Bb gc Bb A l.length c l OA on oc lo (.pointer none) none ∧ TkO fed qs (xo ++ lo) l ∧ TkR w (FP gc Bb A OA) XA xn xc xo LA ln lc L qs wr ∧ (24 * qs.length + l.length ≤ fed.length ∧ fed.length ≤ 20000) ∧ xn + on ≤ 400 * qs.length ∧ Below w.heap.size w wr
def TkCl (w : World) (Bb gc : Nat) (fed : List UInt8) (XA : Option Addr) (xn xc : Nat) (xo : List UInt8) (LA : Option Addr) (ln lc : Nat) (qs : List RQ) (OA : Option Addr) (on oc : Nat) (lo : List UInt8) (L : List (List Value)) (wr : World) : Prop :=
  CnC wr Bb gc OA on oc lo ∧ TkC fed qs (xo ++ lo) ∧ TkR w (fun k => k = gc ∨ obk OA = some k) XA xn xc xo LA ln lc L qs wr ∧ qs.length ≤ 1000 ∧ xn + on ≤ 500000 ∧ Below w.heap.size w wr
section
variable {w wr w' : World} {Bb gc : Nat} {fed xo l lo : List UInt8} {XA LA A OA : Option Addr} {xn xc ln lc c on oc : Nat} {qs : List RQ} {L : List (List Value)}
theorem TkOp.below (h : TkOp w Bb gc fed XA xn xc xo LA ln lc qs A c l OA on oc lo L wr) (b : Below wr.heap.size wr w') : TkOp w Bb gc fed XA xn xc xo LA ln lc qs A c l OA on oc lo L w' := ⟨h.1.step b, h.2.1, h.2.2.1.below b, h.2.2.2.1, h.2.2.2.2.1, below_step h.2.2.2.2.2 b⟩
theorem TkCl.below (h : TkCl w Bb gc fed XA xn xc xo LA ln lc qs OA on oc lo L wr) (b : Below wr.heap.size wr w') : TkCl w Bb gc fed XA xn xc xo LA ln lc qs OA on oc lo L w' := ⟨h.1.step b, h.2.1, h.2.2.1.below b, h.2.2.2.1, h.2.2.2.2.1, below_step h.2.2.2.2.2 b⟩
end
def TkTop (w : World) (Bb gc : Nat) (fed : List UInt8) (XA : Option Addr) (xn xc : Nat) (xo : List UInt8) (LA : Option Addr) (ln lc : Nat) (qs : List RQ) (L : List (List Value)) (wr : World) : Prop :=
  (∃ A c l, TkOp w Bb gc fed XA xn xc xo LA ln lc qs A c l none 0 0 [] L wr ∧ nxt l = some none) ∨ TkCl w Bb gc fed XA xn xc xo LA ln lc qs none 0 0 [] L wr
def TkMid (w : World) (Bb gc : Nat) (fed : List UInt8) (XA : Option Addr) (xn xc : Nat) (xo : List UInt8) (LA : Option Addr) (ln lc : Nat) (qs : List RQ) (L : List (List Value)) (wr : World) : Prop :=
  (∃ A c l OA on oc lo, TkOp w Bb gc fed XA xn xc xo LA ln lc qs A c l OA on oc lo L wr) ∨ ∃ OA on oc lo, TkCl w Bb gc fed XA xn xc xo LA ln lc qs OA on oc lo L wr
def TalkQ (l : List UInt8) (w : World) (e : Ending) (w' : World) : Prop :=
  ∃ (XA : Option Addr) (xn xc : Nat) (LA : Option Addr) (ln lc : Nat) (L : List (List Value)), e = .returned (.tuple #[.slice XA xn xc, .slice LA ln lc, .bool (talkS l).2.2]) ∧ Rd w' w'.heap.size XA xn xc (talkS l).1 ∧ Rz w' w'.heap.size 12 LA ln lc L.flatten ∧ TRow w' (fun _ => False) (talkS l).2.1 L ∧ ln = (talkS l).2.1.length ∧ Below w.heap.size w w'
theorem TkC.more {fed : List UInt8} {L : List RQ} {O : List UInt8} (h : TkC fed L O) (x : List UInt8) : TkC (fed ++ x) L O := fun y => by rw [List.append_assoc]; exact h (x ++ y)
def TkYes (w : World) (Bb gc : Nat) (fed : List UInt8) (XA : Option Addr) (xn xc : Nat) (xo : List UInt8) (LA : Option Addr) (ln lc : Nat) (qs : List RQ) (A : Option Addr) (c : Nat) (l : List UInt8) (OA : Option Addr) (on oc : Nat) (lo : List UInt8) (L : List (List Value)) (q : RQ) (N : Nat) (wv : Value) (cs : List Value) (wr : World) : Prop :=
  CnA wr Bb gc Bb A (l.length - N) c (l.drop N) OA on oc lo wv (some q) ∧ TkO fed qs (xo ++ lo) l ∧ nxt l = some (some (q, N)) ∧ TkR w (FP gc Bb A OA) XA xn xc xo LA ln lc L qs wr ∧ TCell wr (TkF (FP gc Bb A OA) XA LA) q cs ∧ (24 * qs.length + l.length ≤ fed.length ∧ fed.length ≤ 20000) ∧ xn + on ≤ 400 * qs.length ∧ Below w.heap.size w wr
def TkA (w : World) (Bb gc : Nat) (fed : List UInt8) (XA : Option Addr) (xn xc : Nat) (xo : List UInt8) (LA : Option Addr) (ln lc : Nat) (qs : List RQ) (L : List (List Value)) (q : RQ) (cs : List Value) (mx : Nat) (wr : World) : Prop :=
  (∃ A c l OA on oc lo, CnA wr Bb gc Bb A l.length c l OA on oc lo (.pointer none) none ∧ TkO fed (qs ++ [q]) (xo ++ lo) l ∧ TkR w (FP gc Bb A OA) XA xn xc xo LA ln lc L qs wr ∧ TCell wr (TkF (FP gc Bb A OA) XA LA) q cs ∧ (24 * (qs.length + 1) + l.length ≤ fed.length ∧ fed.length ≤ 20000) ∧ xn + on ≤ 400 * (qs.length + 1) ∧ l.length < mx ∧ Below w.heap.size w wr) ∨
  ∃ OA on oc lo, CnC wr Bb gc OA on oc lo ∧ TkC fed (qs ++ [q]) (xo ++ lo) ∧ TkR w (fun k => k = gc ∨ obk OA = some k) XA xn xc xo LA ln lc L qs wr ∧ TCell wr (TkF (fun k => k = gc ∨ obk OA = some k) XA LA) q cs ∧ qs.length + 1 ≤ 1000 ∧ xn + on ≤ 500000 ∧ Below w.heap.size w wr
section
variable {w wr w' : World} {Bb gc : Nat} {fed xo l lo : List UInt8} {XA LA A OA : Option Addr} {xn xc ln lc c on oc : Nat} {qs : List RQ} {L : List (List Value)} {q : RQ} {N : Nat} {wv : Value} {cs : List Value}
theorem tcell_below {F : Nat → Prop} (h : TCell wr F q cs) (b : Below wr.heap.size wr w') : TCell w' F q cs := h.kp (Kp.of_below b (fun _ => False)) (fun _ _ e => e.elim) (fun _ _ e => e)
theorem TkYes.below (h : TkYes w Bb gc fed XA xn xc xo LA ln lc qs A c l OA on oc lo L q N wv cs wr) (b : Below wr.heap.size wr w') : TkYes w Bb gc fed XA xn xc xo LA ln lc qs A c l OA on oc lo L q N wv cs w' :=
  ⟨h.1.step b, h.2.1, h.2.2.1, h.2.2.2.1.below b, tcell_below h.2.2.2.2.1 b, h.2.2.2.2.2.1, h.2.2.2.2.2.2.1, below_step h.2.2.2.2.2.2.2 b⟩
theorem TkA.below {mx : Nat} (h : TkA w Bb gc fed XA xn xc xo LA ln lc qs L q cs mx wr) (b : Below wr.heap.size wr w') : TkA w Bb gc fed XA xn xc xo LA ln lc qs L q cs mx w' := by
  rcases h with ⟨A, c, l, OA, on, oc, lo, h1, h2, h3, h4, h5, h6, h7, h8⟩ | ⟨OA, on, oc, lo, h1, h2, h3, h4, h5, h6, h8⟩
  · exact Or.inl ⟨A, c, l, OA, on, oc, lo, h1.step b, h2, h3.below b, tcell_below h4 b, h5, h6, h7, below_step h8 b⟩
  · exact Or.inr ⟨OA, on, oc, lo, h1.step b, h2, h3.below b, tcell_below h4 b, h5, h6, below_step h8 b⟩
theorem TkA.app {mx : Nat} (h : TkA w Bb gc fed XA xn xc xo LA ln lc qs L q cs mx wr) {LA' : Option Addr} {lc' : Nat} (o : Oz w' w.heap.size 26 12 LA' (ln + 1) lc' (L.flatten ++ cs)) (gg : wr.grownBy w' (obk LA)) (hA : obk LA' = obk LA ∨ obk LA' = some wr.heap.size) :
    TkMid w Bb gc fed XA xn xc xo LA' (ln + 1) lc' (qs ++ [q]) (L ++ [cs]) w' ∧ msT w' gc Bb ≤ mx := by
  have hl : (qs ++ [q]).length = qs.length + 1 := by rw [List.length_append]; rfl
  rcases h with ⟨A, c, l, OA, on, oc, lo, h1, h2, h3, h4, h5, h6, h7, h8⟩ | ⟨OA, on, oc, lo, h1, h2, h3, h4, h5, h6, h8⟩
  · obtain ⟨r, hk⟩ := h3.snoc h4 (fun k e => (h1.fp k e).2) o gg hA
    have hc := h1.row hk (fun k e f => (h3.fx k e).2 f.symm)
    refine ⟨Or.inl ⟨A, c, l, OA, on, oc, lo, hc, h2, r, by rw [hl]; exact h5, by rw [hl]; exact h6, h8.trans (hk.below (fun k e => (h3.row.ownt k e.symm).1) h8.size)⟩, ?_⟩
    rw [hc.mt]; omega
  · have hFl : ∀ k, (k = gc ∨ obk OA = some k) → k < wr.heap.size := fun k e => by
      rcases e with e | e
      · rw [e]; exact h1.box.lt
      · exact (h1.out.ownt k e).2
    obtain ⟨r, hk⟩ := h3.snoc h4 hFl o gg hA
    have hc := h1.row hk (fun f => (h3.fx gc (Or.inl rfl)).2 f.symm) (fun k e f => (h3.fx k (Or.inr e)).2 f.symm)
    refine ⟨Or.inr ⟨OA, on, oc, lo, hc, h2, r, by rw [hl]; exact h5, h6, h8.trans (hk.below (fun k e => (h3.row.ownt k e.symm).1) h8.size)⟩, ?_⟩
    rw [hc.mt]; exact Nat.zero_le _
theorem TkA.parts {mx : Nat} (h : TkA w Bb gc fed XA xn xc xo LA ln lc qs L q cs mx wr) : Oz wr w.heap.size 26 12 LA ln lc L.flatten ∧ (∀ u ∈ cs, u.oneCell' = true) ∧ ln + 1 ≤ 200000000000 ∧ w.heap.size ≤ wr.heap.size := by
  rcases h with ⟨A, c, l, OA, on, oc, lo, h1, h2, h3, h4, h5, h6, h7, h8⟩ | ⟨OA, on, oc, lo, h1, h2, h3, h4, h5, h6, h8⟩
  · exact ⟨h3.row, TRow.ones h4, by have := h3.len; omega, h8.size⟩
  · exact ⟨h3.row, TRow.ones h4, by have := h3.len; omega, h8.size⟩
theorem TkOp.said (h : TkOp w Bb gc fed XA xn xc xo LA ln lc qs A c l OA on oc lo L wr) (hx : nxt l = some none) {w1 : World} (hc : CnA w1 Bb gc Bb A l.length c l none 0 0 [] (.pointer none) none) (r : TkR w (FP gc Bb A none) XA xn xc xo LA ln lc L qs w1) (b : Below w.heap.size w w1) {XA' : Option Addr} {xc' : Nat} (o : Own w' w.heap.size XA' (xn + on) xc' (xo ++ lo)) (gg : w1.grownBy w' (obk XA)) (hA : obk XA' = obk XA ∨ obk XA' = some w1.heap.size) :
    TkTop w Bb gc fed XA' (xn + on) xc' (xo ++ lo) LA ln lc qs L w' := by
  obtain ⟨h1, h2, h3, h4, h5, h6⟩ := h
  obtain ⟨r', hk⟩ := r.say (fun k e => (hc.fp k e).2) o gg hA
  refine Or.inl ⟨A, c, l, ⟨hc.row hk (fun k e f => (r.fx k e).1 f.symm), by rw [List.append_nil]; exact h2, r', h4, by omega, b.trans (hk.below (fun k e => (r.out.ownt k e.symm).1) b.size)⟩, hx⟩
theorem TkCl.said (h : TkCl w Bb gc fed XA xn xc xo LA ln lc qs OA on oc lo L wr) {w1 : World} (hc : CnC w1 Bb gc none 0 0 []) (r : TkR w (fun k => k = gc ∨ obk (none : Option Addr) = some k) XA xn xc xo LA ln lc L qs w1) (b : Below w.heap.size w w1) {XA' : Option Addr} {xc' : Nat} (o : Own w' w.heap.size XA' (xn + on) xc' (xo ++ lo)) (gg : w1.grownBy w' (obk XA)) (hA : obk XA' = obk XA ∨ obk XA' = some w1.heap.size) :
    TkTop w Bb gc fed XA' (xn + on) xc' (xo ++ lo) LA ln lc qs L w' := by
  obtain ⟨h1, h2, h3, h4, h5, h6⟩ := h
  obtain ⟨r', hk⟩ := r.say (fun k e => by rcases e with e | e; exact e ▸ hc.box.lt; cases e) o gg hA
  exact Or.inr ⟨hc.row hk (fun f => (r.fx gc (Or.inl rfl)).1 f.symm) (fun k e => by cases e), by rw [List.append_nil]; exact h2, r', h4, by omega, b.trans (hk.below (fun k e => (r.out.ownt k e.symm).1) b.size)⟩
end
end Go.Proofs.Ytnghmgbmflcngaa

/- icehouselaw22.talk, all answered plainly. Conditions: typed in each theorem. -/
import Derived.Test.YtnghmgbmflcngaaTlj
import Derived.Test.YtnghmgbmflcngaaArq
import Derived.Deep.DeepCutAuto
namespace Go.Proofs.Ytnghmgbmflcngaa
set_option linter.unusedVariables false
open Go.RowKit

/-- How much is left to tell. -/
def msT (wr : World) (gc gp : Nat) : Nat := match wr.cell? ⟨gc, 3, none⟩ with
  | some (.bool true) => 0
  | _ => match wr.cell? ⟨gp, 0, none⟩ with
    | some (.slice _ n _) => n + 1
    | _ => 0
theorem CnA.mt {w : World} {B gc gp n c on oc : Nat} {A OA : Option Addr} {l lo : List UInt8} {wv : Value} {wq : Option RQ} (h : CnA w B gc gp A n c l OA on oc lo wv wq) : msT w gc gp = n + 1 := by
  unfold msT
  rw [(box4 h.box).2.2.2, (box2 h.prs.1).1]
theorem CnC.mt {w : World} {B gc on oc : Nat} {OA : Option Addr} {lo : List UInt8} (h : CnC w B gc OA on oc lo) (gp : Nat) : msT w gc gp = 0 := by
  unfold msT
  rw [(box4 h.box).2.2.2]
theorem fp_eq {gc gp : Nat} {A A' OA : Option Addr} (h : obk A' = obk A) : FP gc gp A' OA = FP gc gp A OA := by
  funext k
  unfold FP
  rw [h]
theorem fp_new {gc gp m k : Nat} {A OA OA' : Option Addr} (hO : obk OA' = obk OA ∨ ∃ j, obk OA' = some j ∧ m ≤ j) (hk : k < m) (h : FP gc gp A OA' k) : FP gc gp A OA k := by
  rcases h with e | e | e | e
  · exact Or.inl e
  · exact Or.inr (Or.inl e)
  · exact Or.inr (Or.inr (Or.inl e))
  · rcases hO with e2 | ⟨j, e2, e3⟩
    · exact Or.inr (Or.inr (Or.inr (by rw [← e2]; exact e)))
    · rw [e2] at e; injection e with e; omega
/-- An open talk. -/
def TkOp (w : World) (Bb gc : Nat) (fed : List UInt8) (XA : Option Addr) (xn xc : Nat) (xo : List UInt8) (LA : Option Addr) (ln lc : Nat) (qs : List RQ) (A : Option Addr) (c : Nat) (l : List UInt8) (OA : Option Addr) (on oc : Nat) (lo : List UInt8) (L : List (List Value)) (wr : World) : Prop :=
  CnA wr Bb gc Bb A l.length c l OA on oc lo (.pointer none) none ∧ TkO fed qs (xo ++ lo) l ∧ TkR w (FP gc Bb A OA) XA xn xc xo LA ln lc L qs wr ∧ (24 * qs.length + l.length ≤ fed.length ∧ fed.length ≤ 20000) ∧ xn + on ≤ 400 * qs.length ∧ Below w.heap.size w wr
/-- A closed talk. -/
def TkCl (w : World) (Bb gc : Nat) (fed : List UInt8) (XA : Option Addr) (xn xc : Nat) (xo : List UInt8) (LA : Option Addr) (ln lc : Nat) (qs : List RQ) (OA : Option Addr) (on oc : Nat) (lo : List UInt8) (L : List (List Value)) (wr : World) : Prop :=
  CnC wr Bb gc OA on oc lo ∧ TkC fed qs (xo ++ lo) ∧ TkR w (fun k => k = gc ∨ obk OA = some k) XA xn xc xo LA ln lc L qs wr ∧ qs.length ≤ 1000 ∧ xn + on ≤ 500000 ∧ Below w.heap.size w wr
section
variable {w wr w' : World} {Bb gc : Nat} {fed xo l lo : List UInt8} {XA LA A OA : Option Addr} {xn xc ln lc c on oc : Nat} {qs : List RQ} {L : List (List Value)}
theorem TkOp.below (h : TkOp w Bb gc fed XA xn xc xo LA ln lc qs A c l OA on oc lo L wr) (b : Below wr.heap.size wr w') : TkOp w Bb gc fed XA xn xc xo LA ln lc qs A c l OA on oc lo L w' := ⟨h.1.step b, h.2.1, h.2.2.1.below b, h.2.2.2.1, h.2.2.2.2.1, below_step h.2.2.2.2.2 b⟩
theorem TkCl.below (h : TkCl w Bb gc fed XA xn xc xo LA ln lc qs OA on oc lo L wr) (b : Below wr.heap.size wr w') : TkCl w Bb gc fed XA xn xc xo LA ln lc qs OA on oc lo L w' := ⟨h.1.step b, h.2.1, h.2.2.1.below b, h.2.2.2.1, h.2.2.2.2.1, below_step h.2.2.2.2.2 b⟩
/-- Bytes that are no request. -/
theorem TkOp.bad_ (h : TkOp w Bb gc fed XA xn xc xo LA ln lc qs A c l OA on oc lo L wr) (hB : w.heap.size ≤ Bb) (hx : nxt l = none) {OA' : Option Addr} {oc' : Nat} (hc : CnC w' Bb gc OA' (on + malB.length) oc' (lo ++ malB)) (hk : Kp wr w' (FP gc Bb A OA)) (hO' : obk OA' = obk OA ∨ ∃ k, obk OA' = some k ∧ wr.heap.size ≤ k) :
    TkCl w Bb gc fed XA xn xc xo LA ln lc qs OA' (on + malB.length) oc' (lo ++ malB) L w' := by
  obtain ⟨h1, h2, h3, h4, h5, h6⟩ := h
  have hO : ∀ k, obk OA' = some k → obk OA = some k ∨ wr.heap.size ≤ k := fun k e => by
    rcases hO' with e2 | ⟨j, e2, e3⟩
    · exact Or.inl (by rw [← e2]; exact e)
    · rw [e2] at e; injection e with e; exact Or.inr (by omega)
  refine ⟨hc, by rw [← List.append_assoc]; exact h2.bad hx, h3.kp hk (fun k hl e => ?_), by omega, ?_, h6.trans (hk.below (fun k e => Nat.le_trans hB (h1.fp k e).1) h6.size)⟩
  · rcases e with e | e
    · exact Or.inl e
    · rcases hO k e with e | e
      · exact Or.inr (Or.inr (Or.inr e))
      · omega
  · have : malB.length ≤ 1000 := by decide +kernel
    omega
end
/-- At the head of a round. -/
def TkTop (w : World) (Bb gc : Nat) (fed : List UInt8) (XA : Option Addr) (xn xc : Nat) (xo : List UInt8) (LA : Option Addr) (ln lc : Nat) (qs : List RQ) (L : List (List Value)) (wr : World) : Prop :=
  (∃ A c l, TkOp w Bb gc fed XA xn xc xo LA ln lc qs A c l none 0 0 [] L wr ∧ nxt l = some none) ∨ TkCl w Bb gc fed XA xn xc xo LA ln lc qs none 0 0 [] L wr
/-- Within a round, bytes fed. -/
def TkMid (w : World) (Bb gc : Nat) (fed : List UInt8) (XA : Option Addr) (xn xc : Nat) (xo : List UInt8) (LA : Option Addr) (ln lc : Nat) (qs : List RQ) (L : List (List Value)) (wr : World) : Prop :=
  (∃ A c l OA on oc lo, TkOp w Bb gc fed XA xn xc xo LA ln lc qs A c l OA on oc lo L wr) ∨ ∃ OA on oc lo, TkCl w Bb gc fed XA xn xc xo LA ln lc qs OA on oc lo L wr
/-- The whole talk. -/
def TalkQ (l : List UInt8) (w : World) (e : Ending) (w' : World) : Prop :=
  ∃ (XA : Option Addr) (xn xc : Nat) (LA : Option Addr) (ln lc : Nat) (L : List (List Value)), e = .returned (.tuple #[.slice XA xn xc, .slice LA ln lc, .bool (talkS l).2.2]) ∧ Rd w' w'.heap.size XA xn xc (talkS l).1 ∧ Rz w' w'.heap.size 12 LA ln lc L.flatten ∧ TRow w' (fun _ => False) (talkS l).2.1 L ∧ ln = (talkS l).2.1.length ∧ Below w.heap.size w w'
theorem TkOp.feed_ {w wr w' : World} {Bb gc : Nat} {fed xo l : List UInt8} {XA LA A : Option Addr} {xn xc ln lc c : Nat} {qs : List RQ} {L : List (List Value)} (h : TkOp w Bb gc fed XA xn xc xo LA ln lc qs A c l none 0 0 [] L wr) (hB : w.heap.size ≤ Bb) (hx : nxt l = some none) {x : List UInt8} {m : Nat} (hm : x.length = m) (hl : fed.length + m ≤ 20000) {A' : Option Addr} {c' : Nat}
    (hc : CnA w' Bb gc Bb A' (l.length + m) c' (l ++ x) none 0 0 [] (.pointer none) none) (hk : Kp wr w' (FP gc Bb A none)) (hA : obk A' = obk A ∨ obk A' = some wr.heap.size) : TkOp w Bb gc (fed ++ x) XA xn xc xo LA ln lc qs A' c' (l ++ x) none 0 0 [] L w' := by
  obtain ⟨h1, h2, h3, h4, h5, h6⟩ := h
  refine ⟨by rw [List.length_append, hm]; exact hc, h2.feed hx x, h3.kp hk (fun k hl e => ?_), ⟨by rw [List.length_append, List.length_append, hm]; omega, by rw [List.length_append, hm]; exact hl⟩, h5, h6.trans (hk.below (fun k e => Nat.le_trans hB (h1.fp k e).1) h6.size)⟩
  rcases e with e | e | e | e
  · exact Or.inl e
  · exact Or.inr (Or.inl e)
  · rcases hA with e2 | e2
    · exact Or.inr (Or.inr (Or.inl (by rw [← e2]; exact e)))
    · rw [e2] at e; injection e with e; omega
  · cases e
theorem TkC.more {fed : List UInt8} {L : List RQ} {O : List UInt8} (h : TkC fed L O) (x : List UInt8) : TkC (fed ++ x) L O := fun y => by rw [List.append_assoc]; exact h (x ++ y)
theorem TkCl.feed_ {w wr : World} {Bb gc : Nat} {fed xo lo : List UInt8} {XA LA OA : Option Addr} {xn xc ln lc on oc : Nat} {qs : List RQ} {L : List (List Value)} (h : TkCl w Bb gc fed XA xn xc xo LA ln lc qs OA on oc lo L wr) (x : List UInt8) : TkCl w Bb gc (fed ++ x) XA xn xc xo LA ln lc qs OA on oc lo L wr := ⟨h.1, h.2.1.more x, h.2.2⟩
/-- The inner loop's end. -/
def TkEnd (w : World) (Bb gc : Nat) (fed : List UInt8) (XA : Option Addr) (xn xc : Nat) (xo : List UInt8) (LA : Option Addr) (ln lc : Nat) (qs : List RQ) (L : List (List Value)) (wr : World) : Prop :=
  (∃ A c l OA on oc lo, TkOp w Bb gc fed XA xn xc xo LA ln lc qs A c l OA on oc lo L wr ∧ nxt l = some none) ∨ ∃ OA on oc lo, TkCl w Bb gc fed XA xn xc xo LA ln lc qs OA on oc lo L wr
/-- A request was told, and waits. -/
def TkYes (w : World) (Bb gc : Nat) (fed : List UInt8) (XA : Option Addr) (xn xc : Nat) (xo : List UInt8) (LA : Option Addr) (ln lc : Nat) (qs : List RQ) (A : Option Addr) (c : Nat) (l : List UInt8) (OA : Option Addr) (on oc : Nat) (lo : List UInt8) (L : List (List Value)) (q : RQ) (N : Nat) (wv : Value) (cs : List Value) (wr : World) : Prop :=
  CnA wr Bb gc Bb A (l.length - N) c (l.drop N) OA on oc lo wv (some q) ∧ TkO fed qs (xo ++ lo) l ∧ nxt l = some (some (q, N)) ∧ TkR w (FP gc Bb A OA) XA xn xc xo LA ln lc L qs wr ∧ TCell wr (TkF (FP gc Bb A OA) XA LA) q cs ∧ (24 * qs.length + l.length ≤ fed.length ∧ fed.length ≤ 20000) ∧ xn + on ≤ 400 * qs.length ∧ Below w.heap.size w wr
/-- It was answered. -/
def TkA (w : World) (Bb gc : Nat) (fed : List UInt8) (XA : Option Addr) (xn xc : Nat) (xo : List UInt8) (LA : Option Addr) (ln lc : Nat) (qs : List RQ) (L : List (List Value)) (q : RQ) (cs : List Value) (mx : Nat) (wr : World) : Prop :=
  (∃ A c l OA on oc lo, CnA wr Bb gc Bb A l.length c l OA on oc lo (.pointer none) none ∧ TkO fed (qs ++ [q]) (xo ++ lo) l ∧ TkR w (FP gc Bb A OA) XA xn xc xo LA ln lc L qs wr ∧ TCell wr (TkF (FP gc Bb A OA) XA LA) q cs ∧ (24 * (qs.length + 1) + l.length ≤ fed.length ∧ fed.length ≤ 20000) ∧ xn + on ≤ 400 * (qs.length + 1) ∧ l.length < mx ∧ Below w.heap.size w wr) ∨
  ∃ OA on oc lo, CnC wr Bb gc OA on oc lo ∧ TkC fed (qs ++ [q]) (xo ++ lo) ∧ TkR w (fun k => k = gc ∨ obk OA = some k) XA xn xc xo LA ln lc L qs wr ∧ TCell wr (TkF (fun k => k = gc ∨ obk OA = some k) XA LA) q cs ∧ qs.length + 1 ≤ 1000 ∧ xn + on ≤ 500000 ∧ Below w.heap.size w wr
section
variable {w wr w' : World} {Bb gc : Nat} {fed xo l lo : List UInt8} {XA LA A OA : Option Addr} {xn xc ln lc c on oc : Nat} {qs : List RQ} {L : List (List Value)} {q : RQ} {N : Nat} {wv : Value} {cs : List Value}
theorem tcell_below {F : Nat → Prop} (h : TCell wr F q cs) (b : Below wr.heap.size wr w') : TCell w' F q cs := h.kp (Kp.of_below b (fun _ => False)) (fun _ _ e => e.elim) (fun _ _ e => e)
theorem TkYes.below (h : TkYes w Bb gc fed XA xn xc xo LA ln lc qs A c l OA on oc lo L q N wv cs wr) (b : Below wr.heap.size wr w') : TkYes w Bb gc fed XA xn xc xo LA ln lc qs A c l OA on oc lo L q N wv cs w' :=
  ⟨h.1.step b, h.2.1, h.2.2.1, h.2.2.2.1.below b, tcell_below h.2.2.2.2.1 b, h.2.2.2.2.2.1, h.2.2.2.2.2.2.1, below_step h.2.2.2.2.2.2.2 b⟩
theorem TkA.below {mx : Nat} (h : TkA w Bb gc fed XA xn xc xo LA ln lc qs L q cs mx wr) (b : Below wr.heap.size wr w') : TkA w Bb gc fed XA xn xc xo LA ln lc qs L q cs mx w' := by
  rcases h with ⟨A, c, l, OA, on, oc, lo, h1, h2, h3, h4, h5, h6, h7, h8⟩ | ⟨OA, on, oc, lo, h1, h2, h3, h4, h5, h6, h8⟩
  · exact Or.inl ⟨A, c, l, OA, on, oc, lo, h1.step b, h2, h3.below b, tcell_below h4 b, h5, h6, h7, below_step h8 b⟩
  · exact Or.inr ⟨OA, on, oc, lo, h1.step b, h2, h3.below b, tcell_below h4 b, h5, h6, below_step h8 b⟩
/-- A request is told. -/
theorem TkOp.yes_ (h : TkOp w Bb gc fed XA xn xc xo LA ln lc qs A c l OA on oc lo L wr) (hB : w.heap.size ≤ Bb) (hx : nxt l = some (some (q, N))) {K V A' : Option Addr} {nk ck nv cv c' : Nat} (oK : Own w' wr.heap.size K nk ck q.lk) (oV : Own w' wr.heap.size V nv cv q.lv) (hc : CnA w' Bb gc Bb A' (l.length - N) c' (l.drop N) OA on oc lo wv (some q)) (hk : Kp wr w' (FP gc Bb A OA)) (hA : obk A' = obk A) :
    TkYes w Bb gc fed XA xn xc xo LA ln lc qs A' c' l OA on oc lo L q N wv (reqL q K nk ck V nv cv) w' := by
  obtain ⟨h1, h2, h3, h4, h5, h6⟩ := h
  have hF : ∀ k, TkF (FP gc Bb A' OA) XA LA k → k < wr.heap.size := by
    intro k e
    rw [TkF, fp_eq hA] at e
    rcases e with e | e | e
    · exact (h1.fp k e).2
    · exact (h3.out.ownt k e).2
    · exact (h3.row.ownt k e).2
  exact ⟨hc, h2, hx, h3.kp hk (fun k _ e => by rw [fp_eq hA] at e; exact e), ⟨K, nk, ck, V, nv, cv, rfl, oK.rdF hF, oV.rdF hF⟩, h4, h5, h6.trans (hk.below (fun k e => Nat.le_trans hB (h1.fp k e).1) h6.size)⟩
/-- It is answered, the connection stays. -/
theorem TkYes.ok_ (h : TkYes w Bb gc fed XA xn xc xo LA ln lc qs A c l OA on oc lo L q N wv cs wr) (hB : w.heap.size ≤ Bb) (hq : plC q = false) {OA' : Option Addr} {oc' : Nat} (hc : CnA w' Bb gc Bb A (l.length - N) c (l.drop N) OA' (on + (plR q qs.length).length) oc' (lo ++ plR q qs.length) (.pointer none) none) (hk : Kp wr w' (FP gc Bb A OA)) (hO : obk OA' = obk OA ∨ ∃ k, obk OA' = some k ∧ wr.heap.size ≤ k) :
    TkA w Bb gc fed XA xn xc xo LA ln lc qs L q cs l.length w' := by
  obtain ⟨h1, h2, hx, h3, h4, h5, h6, h7⟩ := h
  have hst := nxt_step hx
  have hR := (plg_of (nxt_pr hx) qs.length).2
  have hd : (l.drop N).length = l.length - N := List.length_drop
  refine Or.inl ⟨A, c, l.drop N, OA', _, oc', _, by rw [hd]; exact hc, by rw [← List.append_assoc]; exact h2.next hx hq, h3.kp hk (fun k hl e => fp_new hO hl e), h4.kp hk (fun k _ e => Or.inl e) (fun k hl e => ?_), ⟨by rw [hd]; omega, h5.2⟩, by omega, by omega, h7.trans (hk.below (fun k e => Nat.le_trans hB (h1.fp k e).1) h7.size)⟩
  rcases e with e | e
  · exact Or.inl (fp_new hO hl e)
  · exact Or.inr e
/-- It is answered, the connection closes. -/
theorem TkYes.quit_ (h : TkYes w Bb gc fed XA xn xc xo LA ln lc qs A c l OA on oc lo L q N wv cs wr) (hB : w.heap.size ≤ Bb) (hq : plC q = true) (mx : Nat) {OA' : Option Addr} {oc' : Nat} (hc : CnC w' Bb gc OA' (on + (plR q qs.length).length) oc' (lo ++ plR q qs.length)) (hk : Kp wr w' (FP gc Bb A OA)) (hO : obk OA' = obk OA ∨ ∃ k, obk OA' = some k ∧ wr.heap.size ≤ k) :
    TkA w Bb gc fed XA xn xc xo LA ln lc qs L q cs mx w' := by
  obtain ⟨h1, h2, hx, h3, h4, h5, h6, h7⟩ := h
  have hst := nxt_step hx
  have hR := (plg_of (nxt_pr hx) qs.length).2
  have hF : ∀ k, k < wr.heap.size → (k = gc ∨ obk OA' = some k) → FP gc Bb A OA k := fun k hl e => by
    rcases e with e | e
    · exact Or.inl e
    · exact fp_new (A := A) (gp := Bb) (gc := gc) hO hl (Or.inr (Or.inr (Or.inr e)))
  refine Or.inr ⟨OA', _, oc', _, hc, by rw [← List.append_assoc]; exact h2.quit hx hq, h3.kp hk hF, h4.kp hk (fun k _ e => Or.inl e) (fun k hl e => ?_), by omega, by omega, h7.trans (hk.below (fun k e => Nat.le_trans hB (h1.fp k e).1) h7.size)⟩
  rcases e with e | e
  · exact Or.inl (hF k hl e)
  · exact Or.inr e
/-- It is put behind the others. -/
theorem TkA.app {mx : Nat} (h : TkA w Bb gc fed XA xn xc xo LA ln lc qs L q cs mx wr) {LA' : Option Addr} {lc' : Nat} (o : Oz w' w.heap.size 26 12 LA' (ln + 1) lc' (L.flatten ++ cs)) (gg : wr.grownBy w' (obk LA)) (hA : obk LA' = obk LA ∨ obk LA' = some wr.heap.size) :
    TkMid w Bb gc fed XA xn xc xo LA' (ln + 1) lc' (qs ++ [q]) (L ++ [cs]) w' ∧ msT w' gc Bb ≤ mx := by
  have hl : (qs ++ [q]).length = qs.length + 1 := by rw [List.length_append]; rfl
  rcases h with ⟨A, c, l, OA, on, oc, lo, h1, h2, h3, h4, h5, h6, h7, h8⟩ | ⟨OA, on, oc, lo, h1, h2, h3, h4, h5, h6, h8⟩
  · obtain ⟨r, hk⟩ := h3.snoc h4 (fun k e => (h1.fp k e).2) o gg hA
    have hc := h1.row hk (fun k e f => (h3.fx k e).2 f.symm)
    refine ⟨Or.inl ⟨A, c, l, OA, on, oc, lo, hc, h2, r, by rw [hl]; exact h5, by rw [hl]; exact h6, h8.trans (hk.below (fun k e => (h3.row.ownt k e.symm).1) h8.size)⟩, ?_⟩
    rw [hc.mt]; omega
  · have hFl : ∀ k, (k = gc ∨ obk OA = some k) → k < wr.heap.size := fun k e => by
      rcases e with e | e
      · rw [e]; exact h1.box.lt
      · exact (h1.out.ownt k e).2
    obtain ⟨r, hk⟩ := h3.snoc h4 hFl o gg hA
    have hc := h1.row hk (fun f => (h3.fx gc (Or.inl rfl)).2 f.symm) (fun k e f => (h3.fx k (Or.inr e)).2 f.symm)
    refine ⟨Or.inr ⟨OA, on, oc, lo, hc, h2, r, by rw [hl]; exact h5, h6, h8.trans (hk.below (fun k e => (h3.row.ownt k e.symm).1) h8.size)⟩, ?_⟩
    rw [hc.mt]; exact Nat.zero_le _
theorem TkA.parts {mx : Nat} (h : TkA w Bb gc fed XA xn xc xo LA ln lc qs L q cs mx wr) : Oz wr w.heap.size 26 12 LA ln lc L.flatten ∧ (∀ u ∈ cs, u.oneCell' = true) ∧ ln + 1 ≤ 200000000000 ∧ w.heap.size ≤ wr.heap.size := by
  rcases h with ⟨A, c, l, OA, on, oc, lo, h1, h2, h3, h4, h5, h6, h7, h8⟩ | ⟨OA, on, oc, lo, h1, h2, h3, h4, h5, h6, h8⟩
  · exact ⟨h3.row, TRow.ones h4, by have := h3.len; omega, h8.size⟩
  · exact ⟨h3.row, TRow.ones h4, by have := h3.len; omega, h8.size⟩
/-- What is to go out is taken. -/
theorem TkOp.out_ (h : TkOp w Bb gc fed XA xn xc xo LA ln lc qs A c l OA on oc lo L wr) (hB : w.heap.size ≤ Bb) (hc : CnA w' Bb gc Bb A l.length c l none 0 0 [] (.pointer none) none) (g : wr.grownBy w' (some gc)) : TkR w (FP gc Bb A none) XA xn xc xo LA ln lc L qs w' ∧ Below w.heap.size w w' := by
  obtain ⟨h1, h2, h3, h4, h5, h6⟩ := h
  have hk := (Kp.of_grown g).weak (F' := FP gc Bb A OA) (fun k e => Or.inl e)
  refine ⟨h3.kp hk (fun k hl e => ?_), h6.trans (hk.below (fun k e => Nat.le_trans hB (h1.fp k e).1) h6.size)⟩
  rcases e with e | e | e | e
  · exact Or.inl e
  · exact Or.inr (Or.inl e)
  · exact Or.inr (Or.inr (Or.inl e))
  · cases e
theorem TkOp.said (h : TkOp w Bb gc fed XA xn xc xo LA ln lc qs A c l OA on oc lo L wr) (hx : nxt l = some none) {w1 : World} (hc : CnA w1 Bb gc Bb A l.length c l none 0 0 [] (.pointer none) none) (r : TkR w (FP gc Bb A none) XA xn xc xo LA ln lc L qs w1) (b : Below w.heap.size w w1) {XA' : Option Addr} {xc' : Nat} (o : Own w' w.heap.size XA' (xn + on) xc' (xo ++ lo)) (gg : w1.grownBy w' (obk XA)) (hA : obk XA' = obk XA ∨ obk XA' = some w1.heap.size) :
    TkTop w Bb gc fed XA' (xn + on) xc' (xo ++ lo) LA ln lc qs L w' := by
  obtain ⟨h1, h2, h3, h4, h5, h6⟩ := h
  obtain ⟨r', hk⟩ := r.say (fun k e => (hc.fp k e).2) o gg hA
  refine Or.inl ⟨A, c, l, ⟨hc.row hk (fun k e f => (r.fx k e).1 f.symm), by rw [List.append_nil]; exact h2, r', h4, by omega, b.trans (hk.below (fun k e => (r.out.ownt k e.symm).1) b.size)⟩, hx⟩
theorem TkCl.out_ (h : TkCl w Bb gc fed XA xn xc xo LA ln lc qs OA on oc lo L wr) (hB : w.heap.size ≤ Bb) (g : wr.grownBy w' (some gc)) : TkR w (fun k => k = gc ∨ obk (none : Option Addr) = some k) XA xn xc xo LA ln lc L qs w' ∧ Below w.heap.size w w' := by
  obtain ⟨h1, h2, h3, h4, h5, h6⟩ := h
  have hk := (Kp.of_grown g).weak (F' := fun k => k = gc ∨ obk OA = some k) (fun k e => Or.inl e)
  refine ⟨h3.kp hk (fun k hl e => ?_), h6.trans ((Kp.of_grown g).below (fun k e => by rw [e]; exact Nat.le_trans hB h1.bc) h6.size)⟩
  rcases e with e | e
  · exact Or.inl e
  · cases e
theorem TkCl.said (h : TkCl w Bb gc fed XA xn xc xo LA ln lc qs OA on oc lo L wr) {w1 : World} (hc : CnC w1 Bb gc none 0 0 []) (r : TkR w (fun k => k = gc ∨ obk (none : Option Addr) = some k) XA xn xc xo LA ln lc L qs w1) (b : Below w.heap.size w w1) {XA' : Option Addr} {xc' : Nat} (o : Own w' w.heap.size XA' (xn + on) xc' (xo ++ lo)) (gg : w1.grownBy w' (obk XA)) (hA : obk XA' = obk XA ∨ obk XA' = some w1.heap.size) :
    TkTop w Bb gc fed XA' (xn + on) xc' (xo ++ lo) LA ln lc qs L w' := by
  obtain ⟨h1, h2, h3, h4, h5, h6⟩ := h
  obtain ⟨r', hk⟩ := r.say (fun k e => by rcases e with e | e; exact e ▸ hc.box.lt; cases e) o gg hA
  exact Or.inr ⟨hc.row hk (fun f => (r.fx gc (Or.inl rfl)).1 f.symm) (fun k e => by cases e), by rw [List.append_nil]; exact h2, r', h4, by omega, b.trans (hk.below (fun k e => (r.out.ownt k e.symm).1) b.size)⟩
/-- All is fed: what the talk answers. -/
theorem TkTop.done_ {b : Bool} (h : TkTop w Bb gc fed XA xn xc xo LA ln lc qs L wr) (hb : ∃ v0 v1 v2, Blk wr gc #[v0, v1, v2, .bool b] 160) : TalkQ fed w (.returned (.tuple #[.slice XA xn xc, .slice LA ln lc, .bool b])) wr := by
  obtain ⟨v0, v1, v2, hb⟩ := hb
  rcases h with ⟨A, c, l, ⟨h1, h2, h3, h4, h5, h6⟩, hx⟩ | ⟨h1, h2, h3, h4, h5, h6⟩
  · have e := (box4 hb).2.2.2
    rw [(box4 h1.box).2.2.2] at e
    injection e with e; injection e with e
    have ht := h2.done hx
    rw [List.append_nil] at ht
    exact ⟨XA, xn, xc, LA, ln, lc, L, by rw [ht, ← e], by rw [ht]; exact h3.out.rd, h3.row.rz, by rw [ht]; exact h3.told.weak (fun _ _ f => f.elim), by rw [ht]; exact h3.len, h6⟩
  · have e := (box4 hb).2.2.2
    rw [(box4 h1.box).2.2.2] at e
    injection e with e; injection e with e
    have ht := h2 []
    rw [List.append_nil, List.append_nil] at ht
    exact ⟨XA, xn, xc, LA, ln, lc, L, by rw [ht, ← e], by rw [ht]; exact h3.out.rd, h3.row.rz, by rw [ht]; exact h3.told.weak (fun _ _ f => f.elim), by rw [ht]; exact h3.len, h6⟩
end
end Go.Proofs.Ytnghmgbmflcngaa

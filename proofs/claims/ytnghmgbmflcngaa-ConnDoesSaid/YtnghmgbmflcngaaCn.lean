/- A connection: its state, New, Feed, Out, Closed, and the methods of one that is not there. Conditions: typed in each theorem. -/
import Derived.Test.YtnghmgbmflcngaaCcop
import Derived.Test.YtnghmgbmflcngaaZrep
namespace Go.Proofs.Ytnghmgbmflcngaa
set_option linter.unusedVariables false
open Go.RowKit
theorem Own.kp {w w' : World} {B n c : Nat} {A : Option Addr} {l : List UInt8} (h : Own w B A n c l) {G : Nat → Prop} (hk : Kp w w' G) (hG : ∀ k, obk A = some k → ¬ G k) : Own w' B A n c l := by
  refine ⟨h.1, ?_⟩
  rcases h.2 with h' | ⟨g', cap, cur, hv, hb', hh, r⟩
  · exact Or.inl h'
  · have e : obk A = some g' := by
      have := congrArg Value.ownBlock hv
      rw [obk_eq] at this
      exact this
    exact Or.inr ⟨g', cap, cur, hv, hb', (hk.block g' (Array.getElem?_eq_some_iff.1 hh).1 (hG g' e)).trans hh, r⟩
def FP (gc gp : Nat) (A OA : Option Addr) : Nat → Prop := fun k => k = gc ∨ k = gp ∨ obk A = some k ∨ obk OA = some k
def WaitQ (w : World) (F : Nat → Prop) (wv : Value) : Option RQ → Prop
  | none => wv = .pointer none
  | some q => ∃ gw K nk ck V nv cv, wv = .pointer (some ⟨gw, 0, none⟩) ∧ Blk w gw (reqL q K nk ck V nv cv).toArray 26 ∧ ¬ F gw ∧ RdF w F K nk ck q.lk ∧ RdF w F V nv cv q.lv
theorem WaitQ.kp {w w' : World} {F F' : Nat → Prop} {wv : Value} {wq : Option RQ} (h : WaitQ w F wv wq) {G : Nat → Prop} (hk : Kp w w' G) (hG : ∀ k, k < w.heap.size → G k → F k) (hF : ∀ k, k < w.heap.size → F' k → F k) : WaitQ w' F' wv wq := by
  cases wq with
  | none => exact h
  | some q =>
    obtain ⟨gw, K, nk, ck, V, nv, cv, h1, h2, h3, h4, h5⟩ := h
    exact ⟨gw, K, nk, ck, V, nv, cv, h1, (hk.block gw h2.lt (fun hg => h3 (hG gw h2.lt hg))).trans h2, fun hf => h3 (hF gw h2.lt hf), h4.kp hk hG hF, h5.kp hk hG hF⟩
structure CnA (w : World) (B gc gp : Nat) (A : Option Addr) (n c : Nat) (l : List UInt8) (OA : Option Addr) (on oc : Nat) (lo : List UInt8) (wv : Value) (wq : Option RQ) : Prop where
  box : Blk w gc #[.pointer (some ⟨gp, 0, none⟩), wv, .slice OA on oc, .bool false] 160
  prs : PrsA w gp A n c l false
  out : Own w B OA on oc lo
  wait : WaitQ w (FP gc gp A OA) wv wq
  bc : B ≤ gc
  bp : B ≤ gp
  cp : gc ≠ gp
  ac : obk A ≠ some gc
  oc_ : obk OA ≠ some gc
  op_ : obk OA ≠ some gp
  oa : ∀ k, obk A = some k → obk OA ≠ some k
section
variable {w w' : World} {B gc gp n c on oc : Nat} {A OA : Option Addr} {l lo : List UInt8} {wv : Value} {wq : Option RQ}
theorem CnA.step (h : CnA w B gc gp A n c l OA on oc lo wv wq) (b : Below w.heap.size w w') : CnA w' B gc gp A n c l OA on oc lo wv wq :=
  ⟨h.box.step b, h.prs.step b, h.out.step b, h.wait.kp (Kp.of_below b (fun _ => False)) (fun _ _ h => h.elim) (fun _ _ h => h), h.bc, h.bp, h.cp, h.ac, h.oc_, h.op_, h.oa⟩
theorem CnA.pa (h : CnA w B gc gp A n c l OA on oc lo wv wq) {k : Nat} (hk : obk A = some k) : gp + 1 ≤ k ∧ k < w.heap.size := h.prs.2.owner k (by rw [obk_eq]; exact hk)
theorem CnA.oo (h : CnA w B gc gp A n c l OA on oc lo wv wq) {k : Nat} (hk : obk OA = some k) : B ≤ k ∧ k < w.heap.size := World.ownsRow.lt h.out k (by rw [obk_eq]; exact hk)
theorem CnA.fp (h : CnA w B gc gp A n c l OA on oc lo wv wq) : ∀ k, FP gc gp A OA k → B ≤ k ∧ k < w.heap.size := by
  intro k hk
  rcases hk with rfl | rfl | hk | hk
  · exact ⟨h.bc, h.box.lt⟩
  · exact ⟨h.bp, h.prs.lt⟩
  · have := h.pa hk; have := h.bp; omega
  · exact h.oo hk
end
set_option maxRecDepth 100000 in
set_option maxHeartbeats 1000000 in
theorem cnew_any (w : World) : Calls Try.prog 69 #[] w fun e w' => ∃ gc, e = .returned (.pointer (some ⟨gc, 0, none⟩)) ∧ CnA w' w.heap.size gc w.heap.size none 0 0 [] none 0 0 [] (.pointer none) none ∧ Below w.heap.size w w' := by
  go_enter Try.func69, Try.ntmps69
  go_wp2_with fail
  refine (new_any _).mono ?_
  rintro e w1 ⟨rfl, hp, b⟩
  have k1 := Blk.new w1 #[.pointer (some ⟨w.heap.size, 0, none⟩), .pointer none, .slice none 0 0, .bool false] 160
  have hp1 := hp.step (below_a1' (Below.refl w1.heap.size w1) (.cells #[.pointer (some ⟨w.heap.size, 0, none⟩), .pointer none, .slice none 0 0, .bool false] 160))
  have hlt := hp.lt
  have HQ : Hid (∃ gc, Ending.returned (.pointer (some ⟨w1.heap.size, 0, none⟩)) = .returned (.pointer (some ⟨gc, 0, none⟩)) ∧ CnA (w1.alloc (.cells #[.pointer (some ⟨w.heap.size, 0, none⟩), .pointer none, .slice none 0 0, .bool false] 160)) w.heap.size gc w.heap.size none 0 0 [] none 0 0 [] (.pointer none) none ∧ Below w.heap.size w (w1.alloc (.cells #[.pointer (some ⟨w.heap.size, 0, none⟩), .pointer none, .slice none 0 0, .bool false] 160))) :=
    Lib.hid ⟨_, rfl, ⟨k1, hp1, Own.nil _ _, rfl, by omega, Nat.le_refl _, by omega, (fun h => by cases h), (fun h => by cases h), (fun h => by cases h), (fun k h => by cases h)⟩, below_a1' b _⟩
  clear k1 hp1 hp hlt b
  go_wp2_with fail
  go_ret
  exact HQ.out
set_option maxRecDepth 100000 in
set_option maxHeartbeats 1000000 in
theorem cclosed_any (gc : Nat) (v0 v1 v2 : Value) (b : Bool) (w : World) (h : Blk w gc #[v0, v1, v2, .bool b] 160) : Calls Try.prog 68 #[.pointer (some ⟨gc, 0, none⟩)] w fun e w' => e = .returned (.bool b) ∧ w = w' := by
  obtain ⟨p0, p1, p2, p3⟩ := box4 h
  go_enter Try.func68, Try.ntmps68
  go_wp2_with fail
  go_ret
  exact ⟨rfl, rfl⟩
def FeedCQ (B gc gp m : Nat) (A : Option Addr) (n : Nat) (l l2 : List UInt8) (OA : Option Addr) (on oc : Nat) (lo : List UInt8) (wv : Value) (wq : Option RQ) (w : World) (e : Ending) (w' : World) : Prop :=
  ∃ A' c', e = .returned (.int .i64 0) ∧ CnA w' B gc gp A' (n + m) c' (l ++ l2) OA on oc lo wv wq ∧ Kp w w' (FP gc gp A OA) ∧ (obk A' = obk A ∨ obk A' = some w.heap.size)
set_option maxRecDepth 100000 in
set_option maxHeartbeats 1000000 in
theorem cfeed_ok (B gc gp n c on oc : Nat) (A OA : Option Addr) (l lo : List UInt8) (wv : Value) (wq : Option RQ) (A2 : Option Addr) (m c2 : Nat) (l2 : List UInt8) (w : World) (h : CnA w B gc gp A n c l OA on oc lo wv wq) (r : Rd w w.heap.size A2 m c2 l2) (hm : n + m ≤ 65536) :
    Calls Try.prog 65 #[.pointer (some ⟨gc, 0, none⟩), .slice A2 m c2] w (FeedCQ B gc gp m A n l l2 OA on oc lo wv wq w) := by
  obtain ⟨p0, p1, p2, p3⟩ := box4 h.box
  have HF := Lib.hid (feed_ok gp n c A l A2 m c2 l2 w h.prs r hm)
  have HC := Lib.hid h
  clear h r hm
  go_enter Try.func65, Try.ntmps65
  go_wp2_with fail
  refine HF.out.mono ?_
  rintro e w1 ⟨A', c', rfl, hp, tk, ho⟩
  have h := HC.out
  rw [obk_eq] at ho tk
  rw [obk_eq] at ho
  have hkp := Kp.of_two tk
  have hlc := h.box.lt
  have hA' : ∀ k, obk A' = some k → obk A = some k ∨ k = w.heap.size := fun k hk => by
    rcases ho with e | e
    · exact Or.inl (e.symm.trans hk)
    · rw [e] at hk; exact Or.inr (Option.some.inj hk).symm
  have nb : ∀ k, FP gc gp A OA k → k ≠ gp → obk A ≠ some k → ¬ (k = gp ∨ some k = obk A) := fun k _ h1 h2 h3 => h3.elim h1 (fun e => h2 e.symm)
  have HQ : Hid (FeedCQ B gc gp m A n l l2 OA on oc lo wv wq w (.returned (.int .i64 0)) w1) := Lib.hid
    ⟨A', c', rfl, ⟨hkp.blk h.box (fun h3 => h3.elim h.cp (fun e => h.ac e.symm)), hp, h.out.kp hkp (fun k hk h3 => h3.elim (fun e => h.op_ (by rw [← e]; exact hk)) (fun e => h.oa k e.symm hk)),
      h.wait.kp hkp (fun k _ h3 => h3.elim (fun e => Or.inr (Or.inl e)) (fun e => Or.inr (Or.inr (Or.inl e.symm)))) (fun k hk h3 => by
        rcases h3 with e | e | e | e
        · exact Or.inl e
        · exact Or.inr (Or.inl e)
        · rcases hA' k e with e | e
          · exact Or.inr (Or.inr (Or.inl e))
          · omega
        · exact Or.inr (Or.inr (Or.inr e))), h.bc, h.bp, h.cp, (fun e => by rcases hA' gc e with e | e; exact h.ac e; omega), h.oc_, h.op_, (fun k hk e => by
        rcases hA' k hk with e2 | e2
        · exact h.oa k e2 e
        · have := (h.oo e).2; omega)⟩, hkp.weak (fun k h3 => h3.elim (fun e => Or.inr (Or.inl e)) (fun e => Or.inr (Or.inr (Or.inl e.symm)))), ho⟩
  clear h hp tk ho hkp hlc hA' nb HC
  go_wp2_with fail
  go_ret
  exact HQ.out
def OutCQ (B gc gp : Nat) (A : Option Addr) (n c : Nat) (l : List UInt8) (OA : Option Addr) (on oc : Nat) (lo : List UInt8) (wv : Value) (wq : Option RQ) (w : World) (e : Ending) (w' : World) : Prop :=
  e = .returned (.slice OA on oc) ∧ Own w' B OA on oc lo ∧ CnA w' B gc gp A n c l none 0 0 [] wv wq ∧ w.grownBy w' (some gc)
set_option maxRecDepth 100000 in
set_option maxHeartbeats 1000000 in
theorem cout_any (B gc gp n c on oc : Nat) (A OA : Option Addr) (l lo : List UInt8) (wv : Value) (wq : Option RQ) (w : World) (h : CnA w B gc gp A n c l OA on oc lo wv wq) :
    Calls Try.prog 67 #[.pointer (some ⟨gc, 0, none⟩)] w (OutCQ B gc gp A n c l OA on oc lo wv wq w) := by
  obtain ⟨p0, p1, p2, p3⟩ := box4 h.box
  have y2 := h.box.frozen 2
  have HC := Lib.hid h
  clear h
  go_enter Try.func67, Try.ntmps67
  go_wp2_with fail
  go_ret
  have h := HC.out
  have gg := rdr_grown_set w gc 2 (.slice none 0 0)
  have hkp := Kp.of_grown gg
  exact ⟨rfl, h.out.kp hkp (fun k hk e => h.oc_ (by rw [← e]; exact hk)), ⟨h.box.set_ 2 _, ⟨hkp.blk h.prs.1 (fun e => h.cp e.symm), h.prs.2.keptO gg (fun k hk e => by rw [obk_eq] at hk; injection e with e; exact h.ac (by rw [e]; exact hk))⟩, Own.nil _ _,
    h.wait.kp hkp (fun k _ e => Or.inl e) (fun k _ h3 => by
      rcases h3 with e | e | e | e
      · exact Or.inl e
      · exact Or.inr (Or.inl e)
      · exact Or.inr (Or.inr (Or.inl e))
      · cases e), h.bc, h.bp, h.cp, h.ac, (fun e => by cases e), (fun e => by cases e), (fun k _ e => by cases e)⟩, gg⟩
end Go.Proofs.Ytnghmgbmflcngaa

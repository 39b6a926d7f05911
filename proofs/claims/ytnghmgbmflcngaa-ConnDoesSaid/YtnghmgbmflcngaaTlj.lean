/- The state of a talk: an open connection, what went out, the requests told. Conditions: typed in each theorem. -/
import Derived.Test.YtnghmgbmflcngaaTlk
import Derived.Test.YtnghmgbmflcngaaCnd
namespace Go.Proofs.Ytnghmgbmflcngaa
set_option linter.unusedVariables false
open Go.RowKit
theorem Oz.kpt {w w' : World} {B z n c : Nat} {e : TypeId} {A : Option Addr} {xs : List Value} (h : Oz w B e z A n c xs) {G : Nat → Prop} (hk : Kp w w' G) (hG : ∀ k, obk A = some k → ¬ G k) : Oz w' B e z A n c xs := by
  refine ⟨h.1, ?_⟩
  rcases h.2 with h' | ⟨g, cap, cur, hv, hg, hh, r⟩
  · exact Or.inl h'
  · refine Or.inr ⟨g, cap, cur, hv, hg, (hk.block g (Array.getElem?_eq_some_iff.1 hh).1 (hG g ?_)).trans hh, r⟩
    injection hv with e1
    subst e1
    rfl
theorem Oz.ownt {w : World} {B z n c : Nat} {e : TypeId} {A : Option Addr} {xs : List Value} (h : Oz w B e z A n c xs) : ∀ k, obk A = some k → B ≤ k ∧ k < w.heap.size := fun k hk => h.at' k (by rw [obk_eq]; exact hk)
theorem Own.ownt {w : World} {B n c : Nat} {A : Option Addr} {l : List UInt8} (h : Own w B A n c l) : ∀ k, obk A = some k → B ≤ k ∧ k < w.heap.size := fun k hk => World.ownsRow.lt h k (by rw [obk_eq]; exact hk)
def TkF (F : Nat → Prop) (XA LA : Option Addr) : Nat → Prop := fun k => F k ∨ obk XA = some k ∨ obk LA = some k
structure TkR (w : World) (F : Nat → Prop) (XA : Option Addr) (xn xc : Nat) (xo : List UInt8) (LA : Option Addr) (ln lc : Nat) (L : List (List Value)) (qs : List RQ) (wr : World) : Prop where
  out : Own wr w.heap.size XA xn xc xo
  row : Oz wr w.heap.size 26 12 LA ln lc L.flatten
  told : TRow wr (TkF F XA LA) qs L
  fx : ∀ k, F k → obk XA ≠ some k ∧ obk LA ≠ some k
  xl : ∀ k, obk XA = some k → obk LA ≠ some k
  len : ln = qs.length
section
variable {w wr w' : World} {F F' : Nat → Prop} {XA LA : Option Addr} {xn xc ln lc : Nat} {xo : List UInt8} {L : List (List Value)} {qs : List RQ}
theorem TkR.kp (h : TkR w F XA xn xc xo LA ln lc L qs wr) (hk : Kp wr w' F) (hF : ∀ k, k < wr.heap.size → F' k → F k) : TkR w F' XA xn xc xo LA ln lc L qs w' := by
  refine ⟨h.out.kp hk (fun k e f => (h.fx k f).1 e), h.row.kpt hk (fun k e f => (h.fx k f).2 e), h.told.kp hk (fun k _ f => Or.inl f) (fun k hl e => ?_), fun k f => ⟨fun e => ?_, fun e => ?_⟩, h.xl, h.len⟩
  · rcases e with e | e
    · exact Or.inl (hF k hl e)
    · exact Or.inr e
  · exact (h.fx k (hF k (h.out.ownt k e).2 f)).1 e
  · exact (h.fx k (hF k (h.row.ownt k e).2 f)).2 e
theorem TkR.below (h : TkR w F XA xn xc xo LA ln lc L qs wr) (b : Below wr.heap.size wr w') : TkR w F XA xn xc xo LA ln lc L qs w' :=
  ⟨h.out.step b, h.row.step b, h.told.kp (Kp.of_below b (fun _ => False)) (fun _ _ e => e.elim) (fun _ _ e => e), h.fx, h.xl, h.len⟩
theorem TkR.snoc (h : TkR w F XA xn xc xo LA ln lc L qs wr) {q : RQ} {cs : List Value} (hc : TCell wr (TkF F XA LA) q cs) (hFl : ∀ k, F k → k < wr.heap.size) {LA' : Option Addr} {lc' : Nat} (o : Oz w' w.heap.size 26 12 LA' (ln + 1) lc' (L.flatten ++ cs)) (gg : wr.grownBy w' (obk LA)) (hA : obk LA' = obk LA ∨ obk LA' = some wr.heap.size) :
    TkR w F XA xn xc xo LA' (ln + 1) lc' (L ++ [cs]) (qs ++ [q]) w' ∧ Kp wr w' (fun k => some k = obk LA) := by
  have hk := Kp.of_row gg
  have hL : ∀ k, k < wr.heap.size → obk LA' = some k → obk LA = some k := fun k hl e => by
    rcases hA with e2 | e2
    · rw [← e2]; exact e
    · rw [e2] at e; injection e with e; omega
  have hG : ∀ k, k < wr.heap.size → TkF F XA LA' k → TkF F XA LA k := fun k hl e => by
    rcases e with e | e | e
    · exact Or.inl e
    · exact Or.inr (Or.inl e)
    · exact Or.inr (Or.inr (hL k hl e))
  refine ⟨⟨h.out.kp hk (fun k e f => h.xl k e f.symm), by rw [List.flatten_append, List.flatten_singleton]; exact o, (h.told.kp hk (fun k _ e => Or.inr (Or.inr e.symm)) hG).snoc (hc.kp hk (fun k _ e => Or.inr (Or.inr e.symm)) hG), fun k f => ⟨(h.fx k f).1, fun e => (h.fx k f).2 (hL k (hFl k f) e)⟩, fun k e1 e2 => h.xl k e1 (hL k (h.out.ownt k e1).2 e2), by rw [List.length_append, h.len]; rfl⟩, hk⟩
theorem TkR.say (h : TkR w F XA xn xc xo LA ln lc L qs wr) (hFl : ∀ k, F k → k < wr.heap.size) {XA' : Option Addr} {xn' xc' : Nat} {xo' : List UInt8} (o : Own w' w.heap.size XA' xn' xc' xo') (gg : wr.grownBy w' (obk XA)) (hA : obk XA' = obk XA ∨ obk XA' = some wr.heap.size) :
    TkR w F XA' xn' xc' xo' LA ln lc L qs w' ∧ Kp wr w' (fun k => some k = obk XA) := by
  have hk := Kp.of_row gg
  have hX : ∀ k, k < wr.heap.size → obk XA' = some k → obk XA = some k := fun k hl e => by
    rcases hA with e2 | e2
    · rw [← e2]; exact e
    · rw [e2] at e; injection e with e; omega
  refine ⟨⟨o, h.row.kpt hk (fun k e f => h.xl k f.symm e), h.told.kp hk (fun k _ e => Or.inr (Or.inl e.symm)) (fun k hl e => ?_), fun k f => ⟨fun e => (h.fx k f).1 (hX k (hFl k f) e), (h.fx k f).2⟩, fun k e1 e2 => ?_, h.len⟩, hk⟩
  · rcases e with e | e | e
    · exact Or.inl e
    · exact Or.inr (Or.inl (hX k hl e))
    · exact Or.inr (Or.inr e)
  · exact h.xl k (hX k (h.row.ownt k e2).2 e1) e2
end
theorem CnA.row {w w' : World} {B gc gp n c on oc : Nat} {A OA : Option Addr} {l lo : List UInt8} (h : CnA w B gc gp A n c l OA on oc lo (.pointer none) none) {G : Nat → Prop} (hk : Kp w w' G) (hr : ∀ k, FP gc gp A OA k → ¬ G k) : CnA w' B gc gp A n c l OA on oc lo (.pointer none) none :=
  ⟨hk.blk h.box (hr _ (Or.inl rfl)), ⟨hk.blk h.prs.1 (hr _ (Or.inr (Or.inl rfl))), h.prs.2.kpx hk (fun k e => hr k (Or.inr (Or.inr (Or.inl e))))⟩, h.out.kp hk (fun k e => hr k (Or.inr (Or.inr (Or.inr e)))), rfl, h.bc, h.bp, h.cp, h.ac, h.oc_, h.op_, h.oa⟩
theorem CnC.row {w w' : World} {B gc on oc : Nat} {OA : Option Addr} {lo : List UInt8} (h : CnC w B gc OA on oc lo) {G : Nat → Prop} (hk : Kp w w' G) (h1 : ¬ G gc) (h2 : ∀ k, obk OA = some k → ¬ G k) : CnC w' B gc OA on oc lo := ⟨hk.blk h.box h1, h.out.kp hk h2, h.bc, h.oc_⟩
end Go.Proofs.Ytnghmgbmflcngaa

/- What a connection says to bytes, all answered plainly: by definition. Conditions: typed in each theorem. -/
import Derived.Test.YtnghmgbmflcngaaPlg
namespace Go.Proofs.Ytnghmgbmflcngaa
set_option linter.unusedVariables false
open Go.RowKit
def plR (q : RQ) (n : Nat) : List UInt8 := (ofR q.op q.qt q.fu q.oq (plS q n) 0 0 0 0 0 q.lk [] []).1
def saysP : List RQ → Nat → List UInt8 × List RQ × Bool
  | [], _ => ([], [], false)
  | q :: qs, k => if plC q = true then (plR q k, [q], true) else (plR q k ++ (saysP qs (k + 1)).1, q :: (saysP qs (k + 1)).2.1, (saysP qs (k + 1)).2.2)
theorem saysP_app : ∀ (qs xs : List RQ) (k : Nat), (saysP qs k).2.2 = false → saysP (qs ++ xs) k = ((saysP qs k).1 ++ (saysP xs (k + qs.length)).1, (saysP qs k).2.1 ++ (saysP xs (k + qs.length)).2.1, (saysP xs (k + qs.length)).2.2)
  | [], xs, k, _ => by simp [saysP]
  | q :: qs, xs, k, h => by
    rw [List.cons_append, saysP, saysP]
    by_cases hq : plC q = true
    · rw [saysP, if_pos hq] at h
      cases h
    · rw [saysP, if_neg hq] at h
      rw [if_neg hq, if_neg hq, saysP_app qs xs (k + 1) h]
      simp only [List.length_cons, List.append_assoc, List.cons_append, show k + 1 + qs.length = k + (qs.length + 1) from by omega]
def talkS (b : List UInt8) : List UInt8 × List RQ × Bool :=
  if (saysP (tell b).1 0).2.2 = true then ((saysP (tell b).1 0).1, (saysP (tell b).1 0).2.1, true)
  else if (tell b).2.2 = true then ((saysP (tell b).1 0).1 ++ malB, (saysP (tell b).1 0).2.1, true)
  else ((saysP (tell b).1 0).1, (saysP (tell b).1 0).2.1, false)
structure TkO (fed : List UInt8) (L : List RQ) (O l : List UInt8) : Prop where
  tells : tell fed = (L ++ (tell l).1, (tell l).2)
  says : saysP L 0 = (O, L, false)
def TkC (fed : List UInt8) (L : List RQ) (O : List UInt8) : Prop := ∀ x, talkS (fed ++ x) = (O, L, true)
theorem TkO.done {fed : List UInt8} {L : List RQ} {O l : List UInt8} (h : TkO fed L O l) (hw : nxt l = some none) : talkS fed = (O, L, false) := by
  have hf : tell fed = (L, l, false) := by rw [h.tells, tell_no hw]; simp
  unfold talkS
  rw [hf, h.says]
  simp
theorem TkO.bad {fed : List UInt8} {L : List RQ} {O l : List UInt8} (h : TkO fed L O l) (hw : nxt l = none) : TkC fed L (O ++ malB) := by
  intro x
  have hf : tell fed = (L, [], true) := by rw [h.tells, tell_bad hw]; simp
  have hb : (tell fed).2.2 = true := by rw [hf]
  unfold talkS
  rw [tell_app_bad hb x, hf, h.says]
  simp
theorem TkO.next {fed : List UInt8} {L : List RQ} {O l : List UInt8} (h : TkO fed L O l) {q : RQ} {N : Nat} (hx : nxt l = some (some (q, N))) (hq : plC q = false) : TkO fed (L ++ [q]) (O ++ plR q L.length) (l.drop N) := by
  refine ⟨by rw [h.tells, tell_yes hx]; simp, ?_⟩
  rw [saysP_app L [q] 0 (by rw [h.says]), h.says]
  simp [saysP, hq]
theorem TkO.quit {fed : List UInt8} {L : List RQ} {O l : List UInt8} (h : TkO fed L O l) {q : RQ} {N : Nat} (hx : nxt l = some (some (q, N))) (hq : plC q = true) : TkC fed (L ++ [q]) (O ++ plR q L.length) := by
  intro x
  have hp : ∃ ys z, tell (fed ++ x) = (L ++ q :: ys, z) := by
    cases hb : (tell fed).2.2 with
    | true => exact ⟨_, _, by rw [tell_app_bad hb x, h.tells, tell_yes hx]⟩
    | false =>
      refine ⟨(tell (l.drop N)).1 ++ (tell ((tell fed).2.1 ++ x)).1, (tell ((tell fed).2.1 ++ x)).2, ?_⟩
      rw [tell_app hb x]
      have e : (tell fed).1 = L ++ q :: (tell (l.drop N)).1 := by rw [h.tells, tell_yes hx]
      rw [e, List.append_assoc, List.cons_append]
  obtain ⟨ys, z, hp⟩ := hp
  have hs : saysP (L ++ q :: ys) 0 = (O ++ plR q L.length, L ++ [q], true) := by
    rw [saysP_app L (q :: ys) 0 (by rw [h.says]), h.says]
    simp [saysP, hq]
  unfold talkS
  rw [hp, hs, if_pos rfl]
end Go.Proofs.Ytnghmgbmflcngaa

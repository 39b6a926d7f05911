/- What a connection says to bytes, all answered plainly: by definition. Conditions: typed in each theorem. -/
import Derived.Test.YtnghmgbmflcngaaPlg
namespace Go.Proofs.Ytnghmgbmflcngaa
set_option linter.unusedVariables false
open Go.RowKit

theorem plS_in {q : RQ} (h : PrQ q) (n : Nat) : plS q n = 0 ∨ plS q n = 129 ∨ plS q n = 4 ∨ plS q n = 3 ∨ plS q n = 132 := by
  unfold plS
  split
  · rcases h.bd with e | e | e | e <;> rw [e] <;> simp
  · split
    · simp
    · split <;> simp
theorem plg_wrong (op st : Int) (h : st = 0 ∨ st = 129 ∨ st = 4 ∨ st = 3 ∨ st = 132) : wrongA st op 0 0 0 0 0 [] = false := by
  have hb : badSt st = false := by
    rcases h with e | e | e | e | e <;> rw [e] <;> decide +kernel
  unfold wrongA
  rw [hb]
  simp
/-- The bytes that answer request number n plainly. -/
def plR (q : RQ) (n : Nat) : List UInt8 := (ofR q.op q.qt q.fu q.oq (plS q n) 0 0 0 0 0 q.lk [] []).1
theorem plg_of {q : RQ} (h : PrQ q) (n : Nat) : ofR q.op q.qt q.fu q.oq (plS q n) 0 0 0 0 0 q.lk [] [] = (plR q n, 0) ∧ (plR q n).length ≤ 400 := by
  have hw := plg_wrong q.op (plS q n) (plS_in h n)
  unfold plR
  generalize plS q n = st at hw ⊢
  unfold ofR
  rw [if_neg (show ¬ (wrongA st q.op 0 0 0 0 0 [] = true) by rw [hw]; decide)]
  by_cases hs : silB q.op q.qt st = true
  · rw [if_pos hs]
    exact ⟨rfl, by simp⟩
  rw [if_neg hs]
  have tl : ∀ s : ByteArray, s.data.toList.length = s.size := fun s => by rw [Array.length_toList]; rfl
  have hk := h.lk
  have one : ∃ p : SP, allP q.op q.fu st 0 0 0 q.lk [] [] = [p] ∧ p.lx.length ≤ 8 ∧ p.lk.length ≤ 250 ∧ p.lv.length ≤ 20 := by
    unfold allP
    split
    · refine ⟨_, rfl, by simp, by simp, ?_⟩
      simp only [tl]
      exact text_len _
    · split
      · refine ⟨_, rfl, by simp [length_highB], ?_, by simp⟩
        show (if q.fu = true then q.lk else []).length ≤ 250
        split
        · exact hk
        · simp
      · split
        · exact ⟨_, rfl, by simp, by simp, by simp [length_highB]⟩
        · split
          · exact ⟨_, rfl, by simp, by simp, by simp⟩
          · split
            · exact ⟨_, rfl, by simp, by simp, by simp⟩
            · exact ⟨_, rfl, by simp, by simp, by simp⟩
  obtain ⟨p, hp, h1, h2, h3⟩ := one
  rw [hp]
  have hf : ∀ x ∈ [p], x.fits := fun x hx => by
    rw [List.mem_singleton] at hx
    subst hx
    unfold SP.fits tooLong
    omega
  rw [if_pos hf]
  refine ⟨rfl, ?_⟩
  show (spB _ _ [p]).length ≤ 400
  rw [spB_cons, List.length_append, sp_len]
  show _ + (spB _ _ []).length ≤ 400
  simp only [spB, List.map_nil, List.flatten_nil, List.length_nil]
  omega
/-- Requests answered in order, the first of them number k, up to the first that quits: the bytes, the requests, whether one quit. -/
def saysP : List RQ → Nat → List UInt8 × List RQ × Bool
  | [], _ => ([], [], false)
  | q :: qs, k => if plC q = true then (plR q k, [q], true) else (plR q k ++ (saysP qs (k + 1)).1, q :: (saysP qs (k + 1)).2.1, (saysP qs (k + 1)).2.2)
theorem saysP_app : ∀ (qs xs : List RQ) (k : Nat), (saysP qs k).2.2 = false → saysP (qs ++ xs) k = ((saysP qs k).1 ++ (saysP xs (k + qs.length)).1, (saysP qs k).2.1 ++ (saysP xs (k + qs.length)).2.1, (saysP xs (k + qs.length)).2.2)
  | [], xs, k, _ => by simp [saysP]
  | q :: qs, xs, k, h => by
    rw [List.cons_append, saysP, saysP]
    by_cases hq : plC q = true
    · rw [saysP, if_pos hq] at h
      cases h
    · rw [saysP, if_neg hq] at h
      rw [if_neg hq, if_neg hq, saysP_app qs xs (k + 1) h]
      simp only [List.length_cons, List.append_assoc, List.cons_append, show k + 1 + qs.length = k + (qs.length + 1) from by omega]
theorem saysP_all : ∀ (qs : List RQ) (k : Nat), (saysP qs k).2.2 = false → (saysP qs k).2.1 = qs
  | [], _, _ => rfl
  | q :: qs, k, h => by
    rw [saysP] at h ⊢
    by_cases hq : plC q = true
    · rw [if_pos hq] at h
      cases h
    · rw [if_neg hq] at h ⊢
      rw [show (saysP qs (k + 1)).2.1 = qs from saysP_all qs (k + 1) h]
/-- What is said to bytes: what goes out, the requests that were told, whether the connection is closed. -/
def talkS (b : List UInt8) : List UInt8 × List RQ × Bool :=
  if (saysP (tell b).1 0).2.2 = true then ((saysP (tell b).1 0).1, (saysP (tell b).1 0).2.1, true)
  else if (tell b).2.2 = true then ((saysP (tell b).1 0).1 ++ malB, (saysP (tell b).1 0).2.1, true)
  else ((saysP (tell b).1 0).1, (saysP (tell b).1 0).2.1, false)
/-- Bytes were fed, the requests L of them told and answered by O, l is held yet. -/
structure TkO (fed : List UInt8) (L : List RQ) (O l : List UInt8) : Prop where
  tells : tell fed = (L ++ (tell l).1, (tell l).2)
  says : saysP L 0 = (O, L, false)
/-- All is said, whatever comes. -/
def TkC (fed : List UInt8) (L : List RQ) (O : List UInt8) : Prop := ∀ x, talkS (fed ++ x) = (O, L, true)
theorem tell_nil : tell [] = ([], [], false) := tell_no nxt_nil
theorem TkO.start : TkO [] [] [] [] := ⟨by rw [tell_nil]; rfl, rfl⟩
theorem TkO.tell_ {fed : List UInt8} {L : List RQ} {O l : List UInt8} (h : TkO fed L O l) : (tell fed).2.2 = (tell l).2.2 := by rw [h.tells]
/-- More is fed. -/
theorem TkO.feed {fed : List UInt8} {L : List RQ} {O l : List UInt8} (h : TkO fed L O l) (hw : nxt l = some none) (x : List UInt8) : TkO (fed ++ x) L O (l ++ x) := by
  have hl := tell_no hw
  have hf : tell fed = (L, l, false) := by rw [h.tells, hl]; simp
  have hb : (tell fed).2.2 = false := by rw [hf]
  refine ⟨?_, h.says⟩
  rw [tell_app hb x, hf]
/-- The end, nothing more to tell. -/
theorem TkO.done {fed : List UInt8} {L : List RQ} {O l : List UInt8} (h : TkO fed L O l) (hw : nxt l = some none) : talkS fed = (O, L, false) := by
  have hf : tell fed = (L, l, false) := by rw [h.tells, tell_no hw]; simp
  unfold talkS
  rw [hf, h.says]
  simp
theorem TkO.bad {fed : List UInt8} {L : List RQ} {O l : List UInt8} (h : TkO fed L O l) (hw : nxt l = none) : TkC fed L (O ++ malB) := by
  intro x
  have hf : tell fed = (L, [], true) := by rw [h.tells, tell_bad hw]; simp
  have hb : (tell fed).2.2 = true := by rw [hf]
  unfold talkS
  rw [tell_app_bad hb x, hf, h.says]
  simp
theorem TkO.next {fed : List UInt8} {L : List RQ} {O l : List UInt8} (h : TkO fed L O l) {q : RQ} {N : Nat} (hx : nxt l = some (some (q, N))) (hq : plC q = false) : TkO fed (L ++ [q]) (O ++ plR q L.length) (l.drop N) := by
  refine ⟨by rw [h.tells, tell_yes hx]; simp, ?_⟩
  rw [saysP_app L [q] 0 (by rw [h.says]), h.says]
  simp [saysP, hq]
theorem TkO.quit {fed : List UInt8} {L : List RQ} {O l : List UInt8} (h : TkO fed L O l) {q : RQ} {N : Nat} (hx : nxt l = some (some (q, N))) (hq : plC q = true) : TkC fed (L ++ [q]) (O ++ plR q L.length) := by
  intro x
  have hp : ∃ ys z, tell (fed ++ x) = (L ++ q :: ys, z) := by
    cases hb : (tell fed).2.2 with
    | true => exact ⟨_, _, by rw [tell_app_bad hb x, h.tells, tell_yes hx]⟩
    | false =>
      refine ⟨(tell (l.drop N)).1 ++ (tell ((tell fed).2.1 ++ x)).1, (tell ((tell fed).2.1 ++ x)).2, ?_⟩
      rw [tell_app hb x]
      have e : (tell fed).1 = L ++ q :: (tell (l.drop N)).1 := by rw [h.tells, tell_yes hx]
      rw [e, List.append_assoc, List.cons_append]
  obtain ⟨ys, z, hp⟩ := hp
  have hs : saysP (L ++ q :: ys) 0 = (O ++ plR q L.length, L ++ [q], true) := by
    rw [saysP_app L (q :: ys) 0 (by rw [h.says]), h.says]
    simp [saysP, hq]
  unfold talkS
  rw [hp, hs, if_pos rfl]
end Go.Proofs.Ytnghmgbmflcngaa

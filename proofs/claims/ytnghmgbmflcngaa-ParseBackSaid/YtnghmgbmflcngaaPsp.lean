/- What a parser tells of bytes: Next by one function, and all that is told. Conditions: typed in each theorem. -/
import Derived.Test.YtnghmgbmflcngaaPun
namespace Go.Proofs.Ytnghmgbmflcngaa
set_option linter.unusedVariables false
open Go.RowKit

/-- What Next does: none, it breaks; some none, it waits; else a request, and how many bytes it takes. -/
def nxt (l : List UInt8) : Option (Option (RQ × Nat)) :=
  if needE l = 9 then some none
  else if needE l ≠ 0 ∨ rightB (fld l 0 1) (fld l 5 1) = false then none
  else if l.length < needN l then some none
  else some (some (reqO (fld l 1 1) (fld l 12 4) (fld l 16 8) (fxB l) (fkB l) (fvB l), needN l))
theorem nxt_no {l : List UInt8} (h : nxt l = some none) : needE l = 9 ∨ (needE l = 0 ∧ rightB (fld l 0 1) (fld l 5 1) = true ∧ l.length < needN l) := by
  unfold nxt at h
  split at h
  · exact .inl (by assumption)
  · split at h
    · cases h
    · rename_i h1 h2
      rw [not_or] at h2
      split at h
      · rename_i h3
        exact .inr ⟨by simpa using h2.1, by simpa using h2.2, h3⟩
      · cases h
theorem nxt_bad {l : List UInt8} (h : nxt l = none) : needE l = 290 ∨ needE l = 3 ∨ (needE l = 0 ∧ rightB (fld l 0 1) (fld l 5 1) = false) := by
  unfold nxt at h
  split at h
  · cases h
  · split at h
    · rename_i h1 h2
      rcases needE_cases l with h' | h' | h' | h'
      · exact absurd h' h1
      · exact .inl h'
      · exact .inr (.inl h')
      · rcases h2 with h2 | h2
        · exact absurd h' h2
        · exact .inr (.inr ⟨h', h2⟩)
    · split at h <;> cases h
theorem nxt_yes {l : List UInt8} {q : RQ} {N : Nat} (h : nxt l = some (some (q, N))) : needE l = 0 ∧ rightB (fld l 0 1) (fld l 5 1) = true ∧ needN l ≤ l.length ∧ q = reqO (fld l 1 1) (fld l 12 4) (fld l 16 8) (fxB l) (fkB l) (fvB l) ∧ N = needN l := by
  unfold nxt at h
  split at h
  · cases h
  · split at h
    · cases h
    · rename_i h1 h2
      rw [not_or] at h2
      split at h
      · cases h
      · rename_i h3
        injection h with h
        injection h with h
        injection h with h4 h5
        exact ⟨by simpa using h2.1, by simpa using h2.2, by omega, h4.symm, h5.symm⟩
theorem nxt_yes' {l : List UInt8} (h1 : needE l = 0) (h2 : rightB (fld l 0 1) (fld l 5 1) = true) (h3 : needN l ≤ l.length) : nxt l = some (some (reqO (fld l 1 1) (fld l 12 4) (fld l 16 8) (fxB l) (fkB l) (fvB l), needN l)) := by
  unfold nxt
  rw [if_neg (by rw [h1]; decide), if_neg (by rw [h1, h2]; simp), if_neg (by omega)]
theorem nxt_bad' {l : List UInt8} (h : needE l = 290 ∨ needE l = 3 ∨ (needE l = 0 ∧ rightB (fld l 0 1) (fld l 5 1) = false)) : nxt l = none := by
  unfold nxt
  rcases h with h | h | ⟨h, h'⟩
  · rw [if_neg (by rw [h]; decide), if_pos (.inl (by rw [h]; decide))]
  · rw [if_neg (by rw [h]; decide), if_pos (.inl (by rw [h]; decide))]
  · rw [if_neg (by rw [h]; decide), if_pos (.inr h')]
theorem need_00 {l : List UInt8} (h : needE l = 0) : 24 ≤ l.length ∧ mayB (fld l 0 1) (fld l 2 2) (fld l 4 1) (fld l 8 4) = true ∧ fld l 8 4 ≤ 2048 := by
  unfold needE at h
  split at h
  · cases h
  · rename_i h1
    split at h
    · rename_i h2
      split at h
      · cases h
      · exact ⟨by omega, h2, by omega⟩
    · cases h
theorem need_24 {l : List UInt8} (h : needE l ≠ 9) : 24 ≤ l.length := by
  rcases needE_cases l with h' | h' | h' | h'
  · exact absurd h' h
  · exact (need_290 h').1
  · exact (need_3 h').1
  · exact (need_00 h').1
theorem app_take (l x : List UInt8) : (l ++ x).take l.length = l := List.take_left
theorem fld_app {l : List UInt8} (x : List UInt8) {o k : Nat} (h : o + k ≤ l.length) : fld (l ++ x) o k = fld l o k := by
  have := fld_take (l := l ++ x) h
  rw [app_take] at this
  exact this.symm
theorem needE_app {l : List UInt8} (x : List UInt8) (h : 24 ≤ l.length) : needE (l ++ x) = needE l := by
  have := needE_take (l := l ++ x) (N := l.length) h (by rw [List.length_append]; omega)
  rw [app_take] at this
  exact this.symm
theorem mayB_sum {mg kl el bl : Nat} (h : mayB mg kl el bl = true) : kl + el ≤ bl := by
  unfold mayB at h
  exact of_decide_eq_true (Bool.and_eq_true_iff.1 h).2
theorem nxt_app {l : List UInt8} {q : RQ} {N : Nat} (h : nxt l = some (some (q, N))) (x : List UInt8) : nxt (l ++ x) = some (some (q, N)) := by
  obtain ⟨h1, h2, h3, rfl, rfl⟩ := nxt_yes h
  obtain ⟨h4, h5, h6⟩ := need_00 h1
  have e1 : needE (l ++ x) = 0 := by rw [needE_app x h4, h1]
  have eN : needN l = 24 + fld l 8 4 := needN_of h1
  have eN' : needN (l ++ x) = needN l := by rw [needN_of e1, eN, fld_app x (by omega)]
  have hs := mayB_sum h5
  have t1 := lists_take (l := l) (N := needN l) eN hs
  have t2 := lists_take (l := l ++ x) (N := needN l) (by rw [eN, fld_app x (by omega)]) (by rw [fld_app x (by omega), fld_app x (by omega), fld_app x (by omega)]; exact hs)
  have et : (l ++ x).take (needN l) = l.take (needN l) := List.take_append_of_le_length h3
  rw [et] at t2
  rw [nxt_yes' e1 (by rw [fld_app x (by omega), fld_app x (by omega)]; exact h2) (by rw [eN', List.length_append]; omega)]
  rw [eN', fld_app x (by omega), fld_app x (by omega), fld_app x (by omega), ← t2.1, ← t2.2.1, ← t2.2.2, t1.1, t1.2.1, t1.2.2]
theorem nxt_app_bad {l : List UInt8} (h : nxt l = none) (x : List UInt8) : nxt (l ++ x) = none := by
  have h' := nxt_bad h
  have h4 : 24 ≤ l.length := need_24 (by
    rcases h' with h | h | h
    · rw [h]; decide
    · rw [h]; decide
    · rw [h.1]; decide)
  refine nxt_bad' ?_
  rw [needE_app x h4, fld_app x (by omega), fld_app x (by omega)]
  exact h'
theorem nxt_step {l : List UInt8} {q : RQ} {N : Nat} (h : nxt l = some (some (q, N))) : 24 ≤ N ∧ N ≤ l.length := by
  obtain ⟨h1, h2, h3, rfl, rfl⟩ := nxt_yes h
  have := needN_of h1
  omega
/-- All that is told: the requests, what is left, and whether it broke. -/
def tellF : Nat → List UInt8 → List RQ × List UInt8 × Bool
  | 0, l => ([], l, false)
  | k + 1, l => match nxt l with
    | none => ([], [], true)
    | some none => ([], l, false)
    | some (some p) => (p.1 :: (tellF k (l.drop p.2)).1, (tellF k (l.drop p.2)).2)
def tell (l : List UInt8) : List RQ × List UInt8 × Bool := tellF l.length l
theorem nxt_nil : nxt [] = some none := by
  unfold nxt
  rw [if_pos (by rfl)]
theorem tellF_len : ∀ (k : Nat) (l : List UInt8), l.length ≤ k → tellF k l = tell l
  | k, l, h => by
    unfold tell
    generalize hn : l.length = n at h
    induction n using Nat.strongRecOn generalizing k l with
    | ind n ih =>
      match k, n, h with
      | 0, 0, _ => rfl
      | k + 1, 0, _ =>
        have e : l = [] := List.eq_nil_of_length_eq_zero hn
        subst e
        unfold tellF
        rw [nxt_nil]
      | k + 1, m + 1, h =>
        unfold tellF
        cases hx : nxt l with
        | none => rfl
        | some o =>
          cases o with
          | none => rfl
          | some p =>
            obtain ⟨q, N⟩ := p
            have hs := nxt_step hx
            have hd : (l.drop N).length = l.length - N := List.length_drop
            simp only
            rw [ih (l.length - N) (by omega) k (l.drop N) hd (by omega), ih (l.length - N) (by omega) m (l.drop N) hd (by omega)]
theorem tell_no {l : List UInt8} (h : nxt l = some none) : tell l = ([], l, false) := by
  rw [← tellF_len (l.length + 1) l (by omega)]
  unfold tellF
  rw [h]
theorem tell_bad {l : List UInt8} (h : nxt l = none) : tell l = ([], [], true) := by
  rw [← tellF_len (l.length + 1) l (by omega)]
  unfold tellF
  rw [h]
theorem tell_yes {l : List UInt8} {q : RQ} {N : Nat} (h : nxt l = some (some (q, N))) : tell l = (q :: (tell (l.drop N)).1, (tell (l.drop N)).2) := by
  rw [← tellF_len (l.length + 1) l (by omega)]
  unfold tellF
  rw [h]
  simp only
  rw [tellF_len l.length (l.drop N) (by rw [List.length_drop]; omega)]
theorem tell_app {l : List UInt8} (h : (tell l).2.2 = false) (x : List UInt8) : tell (l ++ x) = ((tell l).1 ++ (tell ((tell l).2.1 ++ x)).1, (tell ((tell l).2.1 ++ x)).2) := by
  generalize hn : l.length = n
  induction n using Nat.strongRecOn generalizing l with
  | ind n ih =>
    cases hx : nxt l with
    | none => rw [tell_bad hx] at h; cases h
    | some o =>
      cases o with
      | none => rw [tell_no hx]; rfl
      | some p =>
        obtain ⟨q, N⟩ := p
        have hs := nxt_step hx
        rw [tell_yes hx] at h ⊢
        rw [tell_yes (nxt_app hx x), List.drop_append_of_le_length hs.2]
        have hi := ih (l.length - N) (by omega) (l := l.drop N) h List.length_drop
        rw [hi]
        rfl
theorem tell_app_bad {l : List UInt8} (h : (tell l).2.2 = true) (x : List UInt8) : tell (l ++ x) = tell l := by
  generalize hn : l.length = n
  induction n using Nat.strongRecOn generalizing l with
  | ind n ih =>
    cases hx : nxt l with
    | none => rw [tell_bad hx, tell_bad (nxt_app_bad hx x)]
    | some o =>
      cases o with
      | none => rw [tell_no hx] at h; cases h
      | some p =>
        obtain ⟨q, N⟩ := p
        have hs := nxt_step hx
        rw [tell_yes hx] at h ⊢
        rw [tell_yes (nxt_app hx x), List.drop_append_of_le_length hs.2]
        have hi := ih (l.length - N) (by omega) (l := l.drop N) h List.length_drop
        rw [hi]
theorem tell_broke {l : List UInt8} (h : (tell l).2.2 = true) : (tell l).2.1 = [] := by
  generalize hn : l.length = n
  induction n using Nat.strongRecOn generalizing l with
  | ind n ih =>
    cases hx : nxt l with
    | none => rw [tell_bad hx]
    | some o =>
      cases o with
      | none => rw [tell_no hx] at h; cases h
      | some p =>
        obtain ⟨q, N⟩ := p
        have hs := nxt_step hx
        rw [tell_yes hx] at h ⊢
        exact ih (l.length - N) (by omega) (l := l.drop N) h List.length_drop
/-- Next, by what it does. -/
def NextYes (g N n : Nat) (A : Option Addr) (l : List UInt8) (q : RQ) (w : World) (e : Ending) (w' : World) : Prop := NextOk g N n A l q.op q.qt q.fu q.bd q.oq q.lk q.lv q.fl q.ex q.cs q.dl q.ni w e w'
theorem next_wait' (g n c : Nat) (A : Option Addr) (l : List UInt8) (w : World) (h : PrsA w g A n c l false) (hx : nxt l = some none) : Calls Try.prog 49 #[.pointer (some ⟨g, 0, none⟩)] w (NextNo 0 w) := by
  rcases nxt_no hx with h1 | ⟨h1, h2, h3⟩
  · exact next_short g n c A l w h h1
  · exact next_wait g n c A l w h h1 h2 (by rw [← h.2.len]; exact h3)
theorem next_bad' (g n c : Nat) (A : Option Addr) (l : List UInt8) (w : World) (h : PrsA w g A n c l false) (hx : nxt l = none) : Calls Try.prog 49 #[.pointer (some ⟨g, 0, none⟩)] w (NextBad g w) := by
  rcases nxt_bad hx with h1 | h1 | ⟨h1, h2⟩
  · exact next_bad_m g n c A l w h h1
  · exact next_bad_l g n c A l w h h1
  · exact next_bad_r g n c A l w h h1 h2
theorem next_yes' (g n c : Nat) (A : Option Addr) (l : List UInt8) (w : World) (h : PrsA w g A n c l false) (q : RQ) (N : Nat) (hx : nxt l = some (some (q, N))) : Calls Try.prog 49 #[.pointer (some ⟨g, 0, none⟩)] w (NextYes g N n A l q w) := by
  obtain ⟨h1, h2, h3, rfl, rfl⟩ := nxt_yes hx
  refine next_ok g n c A l w h h1 h2 (by rw [← h.2.len]; exact h3) _ _ _ _ _ _ _ _ _ _ _ _ (fun W X K V cx ck cv rX rK rV => ?_)
  exact preq_any _ (fld l 1 1) _ _ _ _ _ _ _ X K V _ cx _ ck _ cv _ _ _ W rX rK rV (fld_lt l 1 1)
end Go.Proofs.Ytnghmgbmflcngaa

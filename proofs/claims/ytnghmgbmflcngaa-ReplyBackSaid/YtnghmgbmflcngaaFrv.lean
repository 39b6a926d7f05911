/- What was made is got. Conditions: typed in each theorem. -/
import Derived.Test.YtnghmgbmflcngaaZfri
namespace Go.Proofs.Ytnghmgbmflcngaa
set_option linter.unusedVariables false
open Go.RowKit

theorem fld_skip (x j : Nat) (r : List UInt8) (o k : Nat) : fld (highB x j ++ r) (j + o) k = fld r o k := by
  unfold fld
  rw [List.drop_append, length_highB, List.drop_of_length_le (by rw [length_highB]; omega), List.nil_append, Nat.add_sub_cancel_left]
theorem fld_here (x k : Nat) (r : List UInt8) : fld (highB x k ++ r) 0 k = x % 256 ^ k := by
  unfold fld
  rw [List.drop_zero, List.take_append, length_highB, Nat.sub_self, List.take_zero, List.append_nil, List.take_of_length_le (by rw [length_highB]; omega), numB_highB]
theorem hdB_h (mg op kl el ty st bl oq cas : Nat) : hdB mg op kl el ty st bl oq cas = highB mg 1 ++ highB op 1 ++ highB kl 2 ++ highB el 1 ++ highB ty 1 ++ highB st 2 ++ highB bl 4 ++ highB oq 4 ++ highB cas 8 := by
  have o : ∀ x, highB x 1 = [UInt8.ofNat x] := fun _ => rfl
  unfold hdB
  simp only [o, List.append_assoc, List.cons_append, List.nil_append]
theorem f_mg (mg op kl el ty st bl oq cas : Nat) (hf : HdF mg op kl el ty st bl oq cas) (r : List UInt8) : fld (hdB mg op kl el ty st bl oq cas ++ r) 0 1 = mg := by
  obtain ⟨f0, f1, f2, f3, f4, f5, f6, f7, f8⟩ := hf
  have h : fld (hdB mg op kl el ty st bl oq cas ++ r) 0 1 = mg % 256 ^ 1 := by
    rw [hdB_h]
    simp only [List.append_assoc]
    exact fld_here mg 1 _
  rw [h]
  exact Nat.mod_eq_of_lt (by simpa using f0)
theorem f_op (mg op kl el ty st bl oq cas : Nat) (hf : HdF mg op kl el ty st bl oq cas) (r : List UInt8) : fld (hdB mg op kl el ty st bl oq cas ++ r) 1 1 = op := by
  obtain ⟨f0, f1, f2, f3, f4, f5, f6, f7, f8⟩ := hf
  have h : fld (hdB mg op kl el ty st bl oq cas ++ r) 1 1 = op % 256 ^ 1 := by
    rw [hdB_h]
    simp only [List.append_assoc]
    exact (fld_skip mg 1 _ 0 1).trans (fld_here op 1 _)
  rw [h]
  exact Nat.mod_eq_of_lt (by simpa using f1)
theorem f_kl (mg op kl el ty st bl oq cas : Nat) (hf : HdF mg op kl el ty st bl oq cas) (r : List UInt8) : fld (hdB mg op kl el ty st bl oq cas ++ r) 2 2 = kl := by
  obtain ⟨f0, f1, f2, f3, f4, f5, f6, f7, f8⟩ := hf
  have h : fld (hdB mg op kl el ty st bl oq cas ++ r) 2 2 = kl % 256 ^ 2 := by
    rw [hdB_h]
    simp only [List.append_assoc]
    exact (fld_skip mg 1 _ 1 2).trans ((fld_skip op 1 _ 0 2).trans (fld_here kl 2 _))
  rw [h]
  exact Nat.mod_eq_of_lt (by simpa using f2)
theorem f_el (mg op kl el ty st bl oq cas : Nat) (hf : HdF mg op kl el ty st bl oq cas) (r : List UInt8) : fld (hdB mg op kl el ty st bl oq cas ++ r) 4 1 = el := by
  obtain ⟨f0, f1, f2, f3, f4, f5, f6, f7, f8⟩ := hf
  have h : fld (hdB mg op kl el ty st bl oq cas ++ r) 4 1 = el % 256 ^ 1 := by
    rw [hdB_h]
    simp only [List.append_assoc]
    exact (fld_skip mg 1 _ 3 1).trans ((fld_skip op 1 _ 2 1).trans ((fld_skip kl 2 _ 0 1).trans (fld_here el 1 _)))
  rw [h]
  exact Nat.mod_eq_of_lt (by simpa using f3)
theorem f_ty (mg op kl el ty st bl oq cas : Nat) (hf : HdF mg op kl el ty st bl oq cas) (r : List UInt8) : fld (hdB mg op kl el ty st bl oq cas ++ r) 5 1 = ty := by
  obtain ⟨f0, f1, f2, f3, f4, f5, f6, f7, f8⟩ := hf
  have h : fld (hdB mg op kl el ty st bl oq cas ++ r) 5 1 = ty % 256 ^ 1 := by
    rw [hdB_h]
    simp only [List.append_assoc]
    exact (fld_skip mg 1 _ 4 1).trans ((fld_skip op 1 _ 3 1).trans ((fld_skip kl 2 _ 1 1).trans ((fld_skip el 1 _ 0 1).trans (fld_here ty 1 _))))
  rw [h]
  exact Nat.mod_eq_of_lt (by simpa using f4)
theorem f_st (mg op kl el ty st bl oq cas : Nat) (hf : HdF mg op kl el ty st bl oq cas) (r : List UInt8) : fld (hdB mg op kl el ty st bl oq cas ++ r) 6 2 = st := by
  obtain ⟨f0, f1, f2, f3, f4, f5, f6, f7, f8⟩ := hf
  have h : fld (hdB mg op kl el ty st bl oq cas ++ r) 6 2 = st % 256 ^ 2 := by
    rw [hdB_h]
    simp only [List.append_assoc]
    exact (fld_skip mg 1 _ 5 2).trans ((fld_skip op 1 _ 4 2).trans ((fld_skip kl 2 _ 2 2).trans ((fld_skip el 1 _ 1 2).trans ((fld_skip ty 1 _ 0 2).trans (fld_here st 2 _)))))
  rw [h]
  exact Nat.mod_eq_of_lt (by simpa using f5)
theorem f_bl (mg op kl el ty st bl oq cas : Nat) (hf : HdF mg op kl el ty st bl oq cas) (r : List UInt8) : fld (hdB mg op kl el ty st bl oq cas ++ r) 8 4 = bl := by
  obtain ⟨f0, f1, f2, f3, f4, f5, f6, f7, f8⟩ := hf
  have h : fld (hdB mg op kl el ty st bl oq cas ++ r) 8 4 = bl % 256 ^ 4 := by
    rw [hdB_h]
    simp only [List.append_assoc]
    exact (fld_skip mg 1 _ 7 4).trans ((fld_skip op 1 _ 6 4).trans ((fld_skip kl 2 _ 4 4).trans ((fld_skip el 1 _ 3 4).trans ((fld_skip ty 1 _ 2 4).trans ((fld_skip st 2 _ 0 4).trans (fld_here bl 4 _))))))
  rw [h]
  exact Nat.mod_eq_of_lt (by simpa using f6)
theorem f_oq (mg op kl el ty st bl oq cas : Nat) (hf : HdF mg op kl el ty st bl oq cas) (r : List UInt8) : fld (hdB mg op kl el ty st bl oq cas ++ r) 12 4 = oq := by
  obtain ⟨f0, f1, f2, f3, f4, f5, f6, f7, f8⟩ := hf
  have h : fld (hdB mg op kl el ty st bl oq cas ++ r) 12 4 = oq % 256 ^ 4 := by
    rw [hdB_h]
    simp only [List.append_assoc]
    exact (fld_skip mg 1 _ 11 4).trans ((fld_skip op 1 _ 10 4).trans ((fld_skip kl 2 _ 8 4).trans ((fld_skip el 1 _ 7 4).trans ((fld_skip ty 1 _ 6 4).trans ((fld_skip st 2 _ 4 4).trans ((fld_skip bl 4 _ 0 4).trans (fld_here oq 4 _)))))))
  rw [h]
  exact Nat.mod_eq_of_lt (by simpa using f7)
theorem f_cas (mg op kl el ty st bl oq cas : Nat) (hf : HdF mg op kl el ty st bl oq cas) (r : List UInt8) : fld (hdB mg op kl el ty st bl oq cas ++ r) 16 8 = cas := by
  obtain ⟨f0, f1, f2, f3, f4, f5, f6, f7, f8⟩ := hf
  have h : fld (hdB mg op kl el ty st bl oq cas ++ r) 16 8 = cas % 256 ^ 8 := by
    rw [hdB_h]
    simp only [List.append_assoc]
    exact (fld_skip mg 1 _ 15 8).trans ((fld_skip op 1 _ 14 8).trans ((fld_skip kl 2 _ 12 8).trans ((fld_skip el 1 _ 11 8).trans ((fld_skip ty 1 _ 10 8).trans ((fld_skip st 2 _ 8 8).trans ((fld_skip bl 4 _ 4 8).trans ((fld_skip oq 4 _ 0 8).trans (fld_here cas 8 _))))))))
  rw [h]
  exact Nat.mod_eq_of_lt (by simpa using f8)

theorem drop_hd (mg op kl el ty st bl oq cas : Nat) (r : List UInt8) : (hdB mg op kl el ty st bl oq cas ++ r).drop 24 = r := by
  rw [List.drop_append, hdB_length, List.drop_of_length_le (by rw [hdB_length]; omega), Nat.sub_self, List.drop_zero, List.nil_append]
theorem fore {a b : List UInt8} {n : Nat} (h : a.length = n) : (a ++ b).take n = a := by
  rw [List.take_append, List.take_of_length_le (by omega), h, Nat.sub_self, List.take_zero, List.append_nil]
theorem past {a b : List UInt8} {n : Nat} (h : a.length = n) : (a ++ b).drop n = b := by
  rw [List.drop_append, List.drop_of_length_le (by omega), h, Nat.sub_self, List.drop_zero, List.nil_append]
def GetM (mg op kl el ty st bl oq cas nx nk nv : Nat) (lx lk lv : List UInt8) (N : Nat) (w : World) (e : Ending) (w' : World) : Prop := ∃ X cx K ck V cv, e = .returned (.tuple #[frV mg op kl el ty st bl oq cas (.slice X nx cx) (.slice K nk ck) (.slice V nv cv), .int .i64 (N : Int), .int .i64 0]) ∧
  Rd w' w'.heap.size X nx cx lx ∧ Rd w' w'.heap.size K nk ck lk ∧ Rd w' w'.heap.size V nv cv lv ∧ Below w.heap.size w w'
theorem needE_made (mg op kl el ty st bl oq cas : Nat) (hf : HdF mg op kl el ty st bl oq cas) (hm : mayB mg kl el bl = true) (hb : ¬ 2048 < bl) (r : List UInt8) : needE (hdB mg op kl el ty st bl oq cas ++ r) = 0 := by
  have hl : 24 ≤ (hdB mg op kl el ty st bl oq cas ++ r).length := by rw [List.length_append, hdB_length]; omega
  unfold needE
  rw [if_neg (by omega), f_mg _ _ _ _ _ _ _ _ _ hf, f_kl _ _ _ _ _ _ _ _ _ hf, f_el _ _ _ _ _ _ _ _ _ hf, f_bl _ _ _ _ _ _ _ _ _ hf, if_pos hm, if_neg hb]
theorem get_made (mg op kl el ty st bl oq cas : Nat) (hf : HdF mg op kl el ty st bl oq cas) (hm : mayB mg kl el bl = true) (hb : ¬ 2048 < bl) (lx lk lv lt : List UInt8) (nv N : Nat) (hx : lx.length = el) (hk : lk.length = kl) (hv : lv.length = nv) (hs : el + kl + nv = bl) (hN : N = 24 + bl)
    (A : Option Addr) (n c : Nat) (w : World) (r : Rd w w.heap.size A n c (hdB mg op kl el ty st bl oq cas ++ lx ++ lk ++ lv ++ lt)) :
    Calls Try.prog 51 #[.slice A n c] w (GetM mg op kl el ty st bl oq cas el kl nv lx lk lv N w) := by
  have ea : hdB mg op kl el ty st bl oq cas ++ lx ++ lk ++ lv ++ lt = hdB mg op kl el ty st bl oq cas ++ (lx ++ (lk ++ (lv ++ lt))) := by simp only [List.append_assoc]
  rw [ea] at r
  have hl := r.len
  rw [List.length_append, hdB_length, List.length_append, List.length_append, List.length_append] at hl
  have he := needE_made mg op kl el ty st bl oq cas hf hm hb (lx ++ (lk ++ (lv ++ lt)))
  have e2 : needN (hdB mg op kl el ty st bl oq cas ++ (lx ++ (lk ++ (lv ++ lt)))) = 24 + bl := by unfold needN; rw [if_pos he, f_bl _ _ _ _ _ _ _ _ _ hf]
  refine (get_ok A n c _ w r he (by rw [e2]; omega)).mono ?_
  intro e w' h
  unfold GetOk at h
  rw [f_mg _ _ _ _ _ _ _ _ _ hf, f_op _ _ _ _ _ _ _ _ _ hf, f_kl _ _ _ _ _ _ _ _ _ hf, f_el _ _ _ _ _ _ _ _ _ hf, f_ty _ _ _ _ _ _ _ _ _ hf, f_st _ _ _ _ _ _ _ _ _ hf, f_bl _ _ _ _ _ _ _ _ _ hf, f_oq _ _ _ _ _ _ _ _ _ hf, f_cas _ _ _ _ _ _ _ _ _ hf, drop_hd, fore hx, past hx, fore hk, show bl - (el + kl) = nv from by omega, ← hN] at h
  have eb : ((lx ++ (lk ++ (lv ++ lt))).take bl).drop (el + kl) = lv := by
    have e3 : lx ++ (lk ++ (lv ++ lt)) = (lx ++ lk ++ lv) ++ lt := by simp only [List.append_assoc]
    rw [e3, fore (by rw [List.length_append, List.length_append]; omega), past (by rw [List.length_append]; omega)]
  rw [eb] at h
  exact h
theorem get_cut (mg op kl el ty st bl oq cas : Nat) (hf : HdF mg op kl el ty st bl oq cas) (hm : mayB mg kl el bl = true) (hb : ¬ 2048 < bl) (lr : List UInt8) (N : Nat) (hr : lr.length = bl) (hN : N = 24 + bl)
    (A : Option Addr) (c : Nat) (w : World) (r : Rd w w.heap.size A (N - 1) c ((hdB mg op kl el ty st bl oq cas ++ lr).take (N - 1))) :
    Calls Try.prog 51 #[.slice A (N - 1) c] w (GetNo 9 w) := by
  have hl := r.len
  by_cases h0 : bl = 0
  · have e1 : needE ((hdB mg op kl el ty st bl oq cas ++ lr).take (N - 1)) = 9 := by unfold needE; rw [if_pos (by omega)]
    have := get_no A (N - 1) c _ w r (by rw [e1]; decide)
    rw [e1] at this
    exact this
  · have e1 : (hdB mg op kl el ty st bl oq cas ++ lr).take (N - 1) = hdB mg op kl el ty st bl oq cas ++ lr.take (N - 25) := by
      rw [List.take_append, hdB_length, List.take_of_length_le (by rw [hdB_length]; omega), show N - 1 - 24 = N - 25 from by omega]
    rw [e1] at r
    have he := needE_made mg op kl el ty st bl oq cas hf hm hb (lr.take (N - 25))
    exact get_short A (N - 1) c _ w r he (by unfold needN; rw [if_pos he, f_bl _ _ _ _ _ _ _ _ _ hf]; omega)
end Go.Proofs.Ytnghmgbmflcngaa

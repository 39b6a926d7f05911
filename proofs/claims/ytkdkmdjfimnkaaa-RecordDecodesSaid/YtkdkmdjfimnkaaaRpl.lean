/- The plain law of a record's bytes; Decode and Need of what was encoded. Conditions: typed in each theorem. -/
import Derived.Test.YtkdkmdjfimnkaaaOpr
namespace Go.Proofs.Ytkdkmdjfimnkaaa
set_option linter.unusedVariables false
open Go.RowKit

theorem eqB_rfl (l : List UInt8) : eqB l l = true := decide_eq_true rfl
theorem fld_skip (x j : Nat) (r : List UInt8) (o k : Nat) : fld (highB x j ++ r) (j + o) k = fld r o k := by
  unfold fld
  rw [List.drop_append, length_highB, List.drop_of_length_le (by rw [length_highB]; omega), List.nil_append, Nat.add_sub_cancel_left]
theorem fld_here (x k : Nat) (r : List UInt8) : fld (highB x k ++ r) 0 k = x % 256 ^ k := by
  unfold fld
  rw [List.drop_zero, List.take_append, length_highB, Nat.sub_self, List.take_zero, List.append_nil, List.take_of_length_le (by rw [length_highB]; omega), numB_highB]
def RcF (kd fl ex sq nk nv : Nat) : Prop := kd < 256 ∧ fl < 4294967296 ∧ ex < 4294967296 ∧ sq < 18446744073709551616 ∧ nk < 65536 ∧ nv < 65536
/-- A record's head in bytes. -/
def recH (kd fl ex sq nk nv : Nat) : List UInt8 := highB kd 1 ++ highB fl 4 ++ highB ex 4 ++ highB sq 8 ++ highB nk 2 ++ highB nv 2
theorem recH_length (kd fl ex sq nk nv : Nat) : (recH kd fl ex sq nk nv).length = 21 := by simp [recH, length_highB]
theorem recB_H (kd fl ex sq : Nat) (lk lv : List UInt8) : recB kd fl ex sq lk lv = recH kd fl ex sq lk.length lv.length ++ (lk ++ lv) := by
  have o : ∀ x, highB x 1 = [UInt8.ofNat x] := fun _ => rfl
  unfold recB recH
  simp only [o, List.append_assoc]
theorem r_kd {kd fl ex sq nk nv : Nat} (hf : RcF kd fl ex sq nk nv) (r : List UInt8) : fld (recH kd fl ex sq nk nv ++ r) 0 1 = kd := by
  obtain ⟨f0, f1, f2, f3, f4, f5⟩ := hf
  have h : fld (recH kd fl ex sq nk nv ++ r) 0 1 = kd % 256 ^ 1 := by
    unfold recH
    simp only [List.append_assoc]
    exact fld_here kd 1 _
  rw [h]
  exact Nat.mod_eq_of_lt (by simpa using f0)
theorem r_fl {kd fl ex sq nk nv : Nat} (hf : RcF kd fl ex sq nk nv) (r : List UInt8) : fld (recH kd fl ex sq nk nv ++ r) 1 4 = fl := by
  obtain ⟨f0, f1, f2, f3, f4, f5⟩ := hf
  have h : fld (recH kd fl ex sq nk nv ++ r) 1 4 = fl % 256 ^ 4 := by
    unfold recH
    simp only [List.append_assoc]
    exact (fld_skip kd 1 _ 0 4).trans (fld_here fl 4 _)
  rw [h]
  exact Nat.mod_eq_of_lt (by simpa using f1)
theorem r_ex {kd fl ex sq nk nv : Nat} (hf : RcF kd fl ex sq nk nv) (r : List UInt8) : fld (recH kd fl ex sq nk nv ++ r) 5 4 = ex := by
  obtain ⟨f0, f1, f2, f3, f4, f5⟩ := hf
  have h : fld (recH kd fl ex sq nk nv ++ r) 5 4 = ex % 256 ^ 4 := by
    unfold recH
    simp only [List.append_assoc]
    exact (fld_skip kd 1 _ 4 4).trans ((fld_skip fl 4 _ 0 4).trans (fld_here ex 4 _))
  rw [h]
  exact Nat.mod_eq_of_lt (by simpa using f2)
theorem r_sq {kd fl ex sq nk nv : Nat} (hf : RcF kd fl ex sq nk nv) (r : List UInt8) : fld (recH kd fl ex sq nk nv ++ r) 9 8 = sq := by
  obtain ⟨f0, f1, f2, f3, f4, f5⟩ := hf
  have h : fld (recH kd fl ex sq nk nv ++ r) 9 8 = sq % 256 ^ 8 := by
    unfold recH
    simp only [List.append_assoc]
    exact (fld_skip kd 1 _ 8 8).trans ((fld_skip fl 4 _ 4 8).trans ((fld_skip ex 4 _ 0 8).trans (fld_here sq 8 _)))
  rw [h]
  exact Nat.mod_eq_of_lt (by simpa using f3)
theorem r_nk {kd fl ex sq nk nv : Nat} (hf : RcF kd fl ex sq nk nv) (r : List UInt8) : fld (recH kd fl ex sq nk nv ++ r) 17 2 = nk := by
  obtain ⟨f0, f1, f2, f3, f4, f5⟩ := hf
  have h : fld (recH kd fl ex sq nk nv ++ r) 17 2 = nk % 256 ^ 2 := by
    unfold recH
    simp only [List.append_assoc]
    exact (fld_skip kd 1 _ 16 2).trans ((fld_skip fl 4 _ 12 2).trans ((fld_skip ex 4 _ 8 2).trans ((fld_skip sq 8 _ 0 2).trans (fld_here nk 2 _))))
  rw [h]
  exact Nat.mod_eq_of_lt (by simpa using f4)
theorem r_nv {kd fl ex sq nk nv : Nat} (hf : RcF kd fl ex sq nk nv) (r : List UInt8) : fld (recH kd fl ex sq nk nv ++ r) 19 2 = nv := by
  obtain ⟨f0, f1, f2, f3, f4, f5⟩ := hf
  have h : fld (recH kd fl ex sq nk nv ++ r) 19 2 = nv % 256 ^ 2 := by
    unfold recH
    simp only [List.append_assoc]
    exact (fld_skip kd 1 _ 18 2).trans ((fld_skip fl 4 _ 14 2).trans ((fld_skip ex 4 _ 10 2).trans ((fld_skip sq 8 _ 2 2).trans ((fld_skip nk 2 _ 0 2).trans (fld_here nv 2 _)))))
  rw [h]
  exact Nat.mod_eq_of_lt (by simpa using f5)
theorem drop_H (kd fl ex sq nk nv : Nat) (r : List UInt8) : (recH kd fl ex sq nk nv ++ r).drop 21 = r := by
  rw [List.drop_append, recH_length, List.drop_of_length_le (by rw [recH_length]; omega), Nat.sub_self, List.drop_zero, List.nil_append]
theorem fore {a b : List UInt8} {n : Nat} (h : a.length = n) : (a ++ b).take n = a := by
  rw [List.take_append, List.take_of_length_le (by omega), h, Nat.sub_self, List.take_zero, List.append_nil]
theorem past {a b : List UInt8} {n : Nat} (h : a.length = n) : (a ++ b).drop n = b := by
  rw [List.drop_append, List.drop_of_length_le (by omega), h, Nat.sub_self, List.drop_zero, List.nil_append]
theorem headE_H {kd fl ex sq nk nv : Nat} (hf : RcF kd fl ex sq nk nv) (hr : rightR (kd : Int) fl ex sq nk nv = true) (r : List UInt8) : headE (recH kd fl ex sq nk nv ++ r) = 0 := by
  have hl : ¬ (recH kd fl ex sq nk nv ++ r).length < 21 := by rw [List.length_append, recH_length]; omega
  unfold headE
  rw [if_neg hl, r_kd hf, r_fl hf, r_ex hf, r_sq hf, r_nk hf, r_nv hf, if_pos hr]
/-- What Decode tells of a record that was encoded. -/
def DecM (kd fl ex sq nk nv : Nat) (lk lv : List UInt8) (w : World) (e : Ending) (w' : World) : Prop := ∃ K ck V cv, e = .returned (.tuple #[recV (kd : Nat) fl ex sq (.slice K nk ck) (.slice V nv cv), .int .i64 (21 + (nk : Nat) + (nv : Nat)), .int .i64 0]) ∧
  Own w' w.heap.size K nk ck lk ∧ Own w' w.heap.size V nv cv lv ∧ Below w.heap.size w w'
theorem dec_made {kd fl ex sq nk nv : Nat} (hf : RcF kd fl ex sq nk nv) (hr : rightR (kd : Int) fl ex sq nk nv = true) (lk lv lt : List UInt8) (hk : lk.length = nk) (hv : lv.length = nv) (A : Option Addr) (n c : Nat) (w : World)
    (r : Rd w w.heap.size A n c (recB kd fl ex sq lk lv ++ lt)) (hn : n ≤ 281474976710656) : Calls Try.prog 15 #[.slice A n c] w (DecM kd fl ex sq nk nv lk lv w) := by
  rw [recB_H, hk, hv, List.append_assoc, List.append_assoc] at r
  have hl := r.len
  rw [List.length_append, recH_length, List.length_append, List.length_append] at hl
  have he := headE_H hf hr (lk ++ (lv ++ lt))
  refine (dec_ok A n c _ w r hn he (by rw [r_nk hf, r_nv hf]; omega)).mono ?_
  intro e w' h
  unfold DecOk at h
  rw [r_kd hf, r_fl hf, r_ex hf, r_sq hf, r_nk hf, r_nv hf, drop_H, fore hk, past hk, fore hv] at h
  exact h
theorem cut_H (kd fl ex sq nk nv : Nat) (lr : List UInt8) (n : Nat) (h : 21 ≤ n) : (recH kd fl ex sq nk nv ++ lr).take n = recH kd fl ex sq nk nv ++ lr.take (n - 21) := by
  rw [List.take_append, recH_length, List.take_of_length_le (by rw [recH_length]; omega)]
theorem dec_cut {kd fl ex sq nk nv : Nat} (hf : RcF kd fl ex sq nk nv) (hr : rightR (kd : Int) fl ex sq nk nv = true) (lk lv : List UInt8) (hk : lk.length = nk) (hv : lv.length = nv) (A : Option Addr) (n c : Nat) (w : World) (hn : n < 21 + nk + nv) (hn2 : n ≤ 281474976710656)
    (r : Rd w w.heap.size A n c ((recB kd fl ex sq lk lv).take n)) : Calls Try.prog 15 #[.slice A n c] w (DecNo 9 w) := by
  have hl := r.len
  rw [recB_H, hk, hv] at r
  by_cases h21 : n < 21
  · have e1 : headE ((recH kd fl ex sq nk nv ++ (lk ++ lv)).take n) = 9 := by unfold headE; rw [if_pos (by rw [r.len]; exact h21)]
    have := dec_no A n c _ w r hn2 (by rw [e1]; decide)
    rwa [e1] at this
  · rw [cut_H _ _ _ _ _ _ _ _ (by omega)] at r
    exact dec_short A n c _ w r hn2 (headE_H hf hr _) (by rw [r_nk hf, r_nv hf]; omega)
theorem need_cut {kd fl ex sq nk nv : Nat} (hf : RcF kd fl ex sq nk nv) (hr : rightR (kd : Int) fl ex sq nk nv = true) (lk lv : List UInt8) (hk : lk.length = nk) (hv : lv.length = nv) (A : Option Addr) (n c : Nat) (w : World) (hn2 : n ≤ 281474976710656)
    (r : Rd w w.heap.size A n c ((recB kd fl ex sq lk lv).take n)) :
    (n < 21 → Calls Try.prog 23 #[.slice A n c] w (NeedQ 0 9 w)) ∧ (21 ≤ n → Calls Try.prog 23 #[.slice A n c] w (NeedQ (21 + (nk : Nat) + (nv : Nat)) 0 w)) := by
  rw [recB_H, hk, hv] at r
  constructor
  · intro h21
    have e1 : headE ((recH kd fl ex sq nk nv ++ (lk ++ lv)).take n) = 9 := by unfold headE; rw [if_pos (by rw [r.len]; exact h21)]
    have := need06_no A n c _ w r hn2 (by rw [e1]; decide)
    rwa [e1] at this
  · intro h21
    rw [cut_H _ _ _ _ _ _ _ _ h21] at r
    have := need06_ok A n c _ w r hn2 (headE_H hf hr _)
    rwa [r_nk hf, r_nv hf] at this
theorem right_kd {kind : Int} {fl ex sq k v : Nat} (h : rightR kind fl ex sq k v = true) : ∃ kd : Nat, kind = (kd : Int) ∧ kd < 256 ∧ k ≤ 250 ∧ v ≤ 512 := by
  unfold rightR at h
  have := of_decide_eq_true h
  rcases this.2.2.2.2 with h1 | h1
  · exact ⟨1, h1, by omega, this.2.2.1, this.2.2.2.1⟩
  · exact ⟨2, h1.1, by omega, this.2.2.1, this.2.2.2.1⟩
/-- The fore part of what was made with a byte behind. -/
theorem own_fore {w : World} {B g m c : Nat} {l : List UInt8} (h : Own w B (some ⟨g, 0, none⟩) (m + 1) c (l ++ [7])) : Rd w w.heap.size (some ⟨g, 0, none⟩) m c l := by
  have h1 := rd_pre h.rd (Nat.le_succ m)
  have hl := h.len
  rw [List.length_append, List.length_singleton] at hl
  rwa [List.take_append_of_le_length (by omega), List.take_of_length_le (by omega)] at h1
end Go.Proofs.Ytkdkmdjfimnkaaa

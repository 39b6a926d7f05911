/- Numbers out of bytes at a place, and the reader's answers there. Conditions: typed in each theorem. -/
import Derived.Test.YtnghmgbmflcngaaOctr
namespace Go.Proofs.Ytnghmgbmflcngaa
set_option linter.unusedVariables false
open Go.RowKit

/-- A number of k bytes from o on. -/
def fld (l : List UInt8) (o k : Nat) : Nat := numB ((l.drop o).take k)
theorem fld_lt (l : List UInt8) (o k : Nat) : fld l o k < 256 ^ k := by
  unfold fld
  refine Nat.lt_of_lt_of_le (numB_lt _ _ rfl) (Nat.pow_le_pow_right (by decide) ?_)
  rw [List.length_take]; exact Nat.min_le_left _ _
theorem takeR_in {l : List UInt8} {at_ k : Nat} (h : at_ + k ≤ l.length) : takeR l at_ 0 (k : Int) = ((l.drop at_).take k, at_ + k, 0) := by
  unfold takeR
  rw [if_neg (by decide), if_neg (by omega), if_neg (by omega)]
  simp
theorem num_in {l : List UInt8} {at_ k m : Nat} (hk : k ≤ 8) (hm : 256 ^ k ≤ m) : numQ ((l.drop at_).take k) % m = fld l at_ k := by
  rw [numQ_small (by rw [List.length_take]; omega)]
  exact Nat.mod_eq_of_lt (Nat.lt_of_lt_of_le (fld_lt l at_ k) hm)
theorem fld_take {l : List UInt8} {o k n : Nat} (h : o + k ≤ n) : fld (l.take n) o k = fld l o k := by
  unfold fld
  rw [List.drop_take, List.take_take, Nat.min_eq_left (by omega)]
theorem rd_pre {w : World} {B n c m : Nat} {A : Option Addr} {l : List UInt8} (h : Rd w B A n c l) (hm : m ≤ n) : Rd w B A m c (l.take m) := by
  obtain ⟨h1, h2, h3, h4, h5, h6⟩ := h
  refine ⟨?_, by omega, h3, h4, fun ad hA hm0 => h5 ad hA (by omega), fun ad i u hA hu => ?_⟩
  · rw [length_cbs] at *; rw [List.length_take]; omega
  · unfold cbs at hu h6
    rw [List.map_take, List.getElem?_take] at hu
    split at hu
    · exact h6 ad i u hA hu
    · cases hu
theorem u8_at (l : List UInt8) (at_ v : Nat) (hv : v = fld l at_ 1) (g B : Nat) (w : World) (h : Rdr w B g l at_ 0) (hl : at_ + 1 ≤ l.length) :
    Calls Try.prog 123 #[.pointer (some ⟨g, 0, none⟩)] w fun e w' => e = .returned (.int .u8 (v : Int)) ∧ Rdr w' B g l (at_ + 1) 0 ∧ w.grownBy w' (some g) := by
  refine (u8_rd l at_ 0 g B w h).mono ?_
  rintro e w' ⟨rfl, h2, g2⟩
  have e1 : takeR l at_ 0 1 = ((l.drop at_).take 1, at_ + 1, 0) := takeR_in (k := 1) hl
  have e2 : numQ ((l.drop at_).take 1) % 256 = v := by rw [hv]; exact num_in (by omega) (by decide)
  rw [e1] at h2
  refine ⟨?_, h2, g2⟩
  rw [e1, e2]
theorem u16_at (l : List UInt8) (at_ v : Nat) (hv : v = fld l at_ 2) (g B : Nat) (w : World) (h : Rdr w B g l at_ 0) (hl : at_ + 2 ≤ l.length) :
    Calls Try.prog 124 #[.pointer (some ⟨g, 0, none⟩)] w fun e w' => e = .returned (.int .u16 (v : Int)) ∧ Rdr w' B g l (at_ + 2) 0 ∧ w.grownBy w' (some g) := by
  refine (u16_rd l at_ 0 g B w h).mono ?_
  rintro e w' ⟨rfl, h2, g2⟩
  have e1 : takeR l at_ 0 2 = ((l.drop at_).take 2, at_ + 2, 0) := takeR_in (k := 2) hl
  have e2 : numQ ((l.drop at_).take 2) % 65536 = v := by rw [hv]; exact num_in (by omega) (by decide)
  rw [e1] at h2
  refine ⟨?_, h2, g2⟩
  rw [e1, e2]
theorem u32_at (l : List UInt8) (at_ v : Nat) (hv : v = fld l at_ 4) (g B : Nat) (w : World) (h : Rdr w B g l at_ 0) (hl : at_ + 4 ≤ l.length) :
    Calls Try.prog 121 #[.pointer (some ⟨g, 0, none⟩)] w fun e w' => e = .returned (.int .u32 (v : Int)) ∧ Rdr w' B g l (at_ + 4) 0 ∧ w.grownBy w' (some g) := by
  refine (u32_rd l at_ 0 g B w h).mono ?_
  rintro e w' ⟨rfl, h2, g2⟩
  have e1 : takeR l at_ 0 4 = ((l.drop at_).take 4, at_ + 4, 0) := takeR_in (k := 4) hl
  have e2 : numQ ((l.drop at_).take 4) % 4294967296 = v := by rw [hv]; exact num_in (by omega) (by decide)
  rw [e1] at h2
  refine ⟨?_, h2, g2⟩
  rw [e1, e2]
theorem u64_at (l : List UInt8) (at_ v : Nat) (hv : v = fld l at_ 8) (g B : Nat) (w : World) (h : Rdr w B g l at_ 0) (hl : at_ + 8 ≤ l.length) :
    Calls Try.prog 122 #[.pointer (some ⟨g, 0, none⟩)] w fun e w' => e = .returned (.int .u64 (v : Int)) ∧ Rdr w' B g l (at_ + 8) 0 ∧ w.grownBy w' (some g) := by
  refine (u64_rd l at_ 0 g B w h).mono ?_
  rintro e w' ⟨rfl, h2, g2⟩
  have e1 : takeR l at_ 0 8 = ((l.drop at_).take 8, at_ + 8, 0) := takeR_in (k := 8) hl
  have e2 : numQ ((l.drop at_).take 8) % 18446744073709551616 = v := by rw [hv]; exact num_in (by omega) (by decide)
  rw [e1] at h2
  refine ⟨?_, h2, g2⟩
  rw [e1, e2]
end Go.Proofs.Ytnghmgbmflcngaa

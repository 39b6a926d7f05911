/- A string made of bytes. Conditions: typed in each theorem. -/
import Derived.Test.YtnghmgbmflcngaaZbas
import Derived.Laws.IdiomStrings
import Derived.Lib.Strings
namespace Go.Proofs.Ytnghmgbmflcngaa
set_option linter.unusedVariables false
open Go.RowKit
theorem run_str {w : World} {B : Nat} {A : Option Addr} {n c : Nat} {l : List UInt8} (h : Rd w B A n c l) (hn : 0 < n) :
    (convert 23 9 (.slice A n c)).run Try.prog w = .ok (.string ⟨l.toArray⟩) w := by
  obtain ⟨ad, x, rfl, -, -, -⟩ := h.at_ hn
  have hl := h.len
  subst hl
  refine run_convert_bytes_back w 23 9 5 ad c l Try.underlying23 Try.underlying5 Try.underlying9 fun j hj => ?_
  have := h.2.2.2.2.2 ad j (cb l[j]) rfl (by rw [cbs_get?, List.getElem?_eq_getElem hj]; rfl)
  exact this
set_option maxRecDepth 100000 in
theorem run_strA {w : World} {B : Nat} {A : Option Addr} {n c : Nat} {l : List UInt8} (h : Rd w B A n c l) :
    (convert 23 9 (.slice A n c)).run Try.prog w = .ok (.string ⟨l.toArray⟩) w := by
  by_cases hn : 0 < n
  · exact run_str h hn
  · obtain rfl : n = 0 := by omega
    have hl : l = [] := List.eq_nil_of_length_eq_zero h.len
    subst hl
    cases A with
    | none =>
      obtain rfl : c = 0 := h.2.2.2.1 rfl
      rfl
    | some ad => exact run_convert_bytes_back w 23 9 5 ad c [] Try.underlying23 Try.underlying5 Try.underlying9 fun j hj => by simp at hj
end Go.Proofs.Ytnghmgbmflcngaa

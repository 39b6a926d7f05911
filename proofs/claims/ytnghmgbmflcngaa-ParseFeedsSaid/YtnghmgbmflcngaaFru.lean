/- Both Gets by one contract. Conditions: typed in each theorem. -/
import Derived.Test.YtnghmgbmflcngaaFrt
namespace Go.Proofs.Ytnghmgbmflcngaa
set_option linter.unusedVariables false
open Go.RowKit

/-- What a Get tells: a frame, how many bytes, an error. -/
def GetP (mg op kl el ty st bl oq cas nx nk nv : Nat) (lx lk lv : List UInt8) (N : Nat) (err : Int) (w : World) (e : Ending) (w' : World) : Prop := ∃ X cx K ck V cv, e = .returned (.tuple #[frV mg op kl el ty st bl oq cas (.slice X nx cx) (.slice K nk ck) (.slice V nv cv), .int .i64 (N : Int), .int .i64 err]) ∧
  Rd w' w'.heap.size X nx cx lx ∧ Rd w' w'.heap.size K nk ck lk ∧ Rd w' w'.heap.size V nv cv lv ∧ Below w.heap.size w w'
theorem getP_no {err : Int} {w : World} {e : Ending} {w' : World} (h : GetNo err w e w') : GetP 0 0 0 0 0 0 0 0 0 0 0 0 [] [] [] 0 err w e w' := by
  obtain ⟨rfl, b⟩ := h
  exact ⟨none, 0, none, 0, none, 0, rfl, Rd.nil _ _, Rd.nil _ _, Rd.nil _ _, b⟩
theorem getP_ok {l : List UInt8} {w : World} {e : Ending} {w' : World} (h : GetOk l w e w') : GetP (fld l 0 1) (fld l 1 1) (fld l 2 2) (fld l 4 1) (fld l 5 1) (fld l 6 2) (fld l 8 4) (fld l 12 4) (fld l 16 8) (fld l 4 1) (fld l 2 2) (fld l 8 4 - (fld l 4 1 + fld l 2 2)) ((l.drop 24).take (fld l 4 1)) (((l.drop 24).drop (fld l 4 1)).take (fld l 2 2)) (((l.drop 24).take (fld l 8 4)).drop (fld l 4 1 + fld l 2 2)) (24 + fld l 8 4) 0 w e w' := h
theorem gets_any (l : List UInt8) : ∃ (mg op kl el ty st bl oq cas nx nk nv : Nat) (lx lk lv : List UInt8) (N : Nat) (err : Int),
    (∀ A n c w, Rd w w.heap.size A n c l → Calls Try.prog 51 #[.slice A n c] w (GetP mg op kl el ty st bl oq cas nx nk nv lx lk lv N err w)) ∧
    (∀ A n c w, Rd w w.heap.size A n c l → Calls Try.prog 106 #[.slice A n c] w (GetP mg op kl el ty st bl oq cas nx nk nv lx lk lv N err w)) := by
  by_cases he : needE l = 0
  · by_cases hs : l.length < needN l
    · refine ⟨0, 0, 0, 0, 0, 0, 0, 0, 0, 0, 0, 0, [], [], [], 0, 9, fun A n c w r => ?_, fun A n c w r => ?_⟩
      · exact (get_short A n c l w r he (by rw [← r.len]; exact hs)).mono fun e w' h => getP_no h
      · exact (rget_short A n c l w r he (by rw [← r.len]; exact hs)).mono fun e w' h => getP_no h
    · exact ⟨_, _, _, _, _, _, _, _, _, _, _, _, _, _, _, _, _, fun A n c w r => (get_ok A n c l w r he (by rw [← r.len]; omega)).mono fun e w' h => getP_ok h, fun A n c w r => (rget_ok A n c l w r he (by rw [← r.len]; omega)).mono fun e w' h => getP_ok h⟩
  · refine ⟨0, 0, 0, 0, 0, 0, 0, 0, 0, 0, 0, 0, [], [], [], 0, needE l, fun A n c w r => ?_, fun A n c w r => ?_⟩
    · exact (get_no A n c l w r he).mono fun e w' h => getP_no h
    · exact (rget_no A n c l w r he).mono fun e w' h => getP_no h
end Go.Proofs.Ytnghmgbmflcngaa

/- How many bytes a frame has: frame.Need, icehouseref19.Need. Conditions: typed in each theorem. -/
import Derived.Test.YtnghmgbmflcngaaFri
namespace Go.Proofs.Ytnghmgbmflcngaa
set_option linter.unusedVariables false
open Go.RowKit

/-- The error and the number that Need tells. -/
def needE (l : List UInt8) : Int := if l.length < 24 then 9 else if mayB (fld l 0 1) (fld l 2 2) (fld l 4 1) (fld l 8 4) = true then (if 2048 < fld l 8 4 then 3 else 0) else 290
def needN (l : List UInt8) : Nat := if needE l = 0 then 24 + fld l 8 4 else 0
def NeedQ (k : Int) (err : Int) (w : World) (e : Ending) (w' : World) : Prop := e = .returned (.tuple #[.int .i64 k, .int .i64 err]) ∧ Below w.heap.size w w'
set_option maxRecDepth 100000 in
theorem need_short (A : Option Addr) (n c : Nat) (w : World) (hn : n < 24) : Calls Try.prog 96 #[.slice A n c] w (NeedQ 0 9 w) := by
  go_enter Try.func96, Try.ntmps96
  go_wp2_with fail
  refine (gh_short A n c hn _).mono ?_
  rintro e w1 ⟨rfl, b1⟩
  unfold zeroHd
  go_wp2_with fail
  go_ret2
  exact ⟨rfl, below_a1' b1 _⟩
set_option maxRecDepth 100000 in
theorem need_bad (A : Option Addr) (n c : Nat) (l : List UInt8) (w : World) (h : Rd w w.heap.size A n c l) (hn : 24 ≤ n) (hm : mayB (fld l 0 1) (fld l 2 2) (fld l 4 1) (fld l 8 4) = false) : Calls Try.prog 96 #[.slice A n c] w (NeedQ 0 290 w) := by
  have HG := Lib.hid (gh_bad A n c l w h hn hm)
  clear hm
  go_enter Try.func96, Try.ntmps96
  go_wp2_with fail
  refine HG.out.mono ?_
  rintro e w1 ⟨rfl, b1⟩
  unfold zeroHd
  go_wp2_with fail
  go_ret2
  exact ⟨rfl, below_a1' b1 _⟩
set_option maxRecDepth 100000 in
set_option maxHeartbeats 1000000 in
theorem need_long (A : Option Addr) (n c : Nat) (l : List UInt8) (w : World) (h : Rd w w.heap.size A n c l) (hn : 24 ≤ n) (hm : mayB (fld l 0 1) (fld l 2 2) (fld l 4 1) (fld l 8 4) = true) (hb : 2048 < fld l 8 4) : Calls Try.prog 96 #[.slice A n c] w (NeedQ 0 3 w) := by
  have hG := gh_ok A n c l w h hn hm
  generalize fld l 8 4 = a6 at hG hb
  have HG := Lib.hid hG
  clear hm hG
  go_enter Try.func96, Try.ntmps96
  go_wp2_with fail
  refine HG.out.mono ?_
  rintro e w1 ⟨rfl, b1⟩
  unfold hdV
  go_wp2_with fail
  go_ret2
  exact ⟨rfl, below_a1' b1 _⟩
set_option maxRecDepth 100000 in
set_option maxHeartbeats 1000000 in
theorem need_ok (A : Option Addr) (n c : Nat) (l : List UInt8) (w : World) (h : Rd w w.heap.size A n c l) (hn : 24 ≤ n) (hm : mayB (fld l 0 1) (fld l 2 2) (fld l 4 1) (fld l 8 4) = true) (hb : ¬ 2048 < fld l 8 4) : Calls Try.prog 96 #[.slice A n c] w (NeedQ (24 + (fld l 8 4 : Nat)) 0 w) := by
  have hG := gh_ok A n c l w h hn hm
  generalize fld l 8 4 = a6 at hG hb ⊢
  have HG := Lib.hid hG
  clear hm hG
  go_enter Try.func96, Try.ntmps96
  go_wp2_with fail
  refine HG.out.mono ?_
  rintro e w1 ⟨rfl, b1⟩
  unfold hdV
  go_wp2_with fail
  go_ret2
  exact ⟨rfl, below_a1' b1 _⟩
set_option maxRecDepth 100000 in
theorem rneed_short (A : Option Addr) (n c : Nat) (w : World) (hn : n < 24) : Calls Try.prog 127 #[.slice A n c] w (NeedQ 0 9 w) := by
  go_enter Try.func127, Try.ntmps127
  go_wp2_with fail
  go_ret2
  exact ⟨rfl, Below.refl _ _⟩
theorem need_any (A : Option Addr) (n c : Nat) (l : List UInt8) (w : World) (h : Rd w w.heap.size A n c l) : Calls Try.prog 96 #[.slice A n c] w (NeedQ (needN l : Nat) (needE l) w) := by
  have hl := h.len
  by_cases hn : n < 24
  · have e1 : needE l = 9 := by unfold needE; rw [if_pos (by omega)]
    have e2 : needN l = 0 := by unfold needN; rw [e1]; rfl
    rw [e1, e2]
    exact need_short A n c w hn
  by_cases hm : mayB (fld l 0 1) (fld l 2 2) (fld l 4 1) (fld l 8 4) = true
  · by_cases hb : 2048 < fld l 8 4
    · have e1 : needE l = 3 := by unfold needE; rw [if_neg (by omega), if_pos hm, if_pos hb]
      have e2 : needN l = 0 := by unfold needN; rw [e1]; rfl
      rw [e1, e2]
      exact need_long A n c l w h (by omega) hm hb
    · have e1 : needE l = 0 := by unfold needE; rw [if_neg (by omega), if_pos hm, if_neg hb]
      have e2 : needN l = 24 + fld l 8 4 := by unfold needN; rw [if_pos e1]
      rw [e1, e2, Int.natCast_add]
      exact need_ok A n c l w h (by omega) hm hb
  · have e1 : needE l = 290 := by unfold needE; rw [if_neg (by omega), if_neg hm]
    have e2 : needN l = 0 := by unfold needN; rw [e1]; rfl
    rw [e1, e2]
    exact need_bad A n c l w h (by omega) (by simpa using hm)
end Go.Proofs.Ytnghmgbmflcngaa

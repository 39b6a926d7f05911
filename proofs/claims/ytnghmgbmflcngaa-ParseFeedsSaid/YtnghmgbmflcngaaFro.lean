/- icehouseref19.Need. Conditions: typed in each theorem. -/
import Derived.Test.YtnghmgbmflcngaaFrn
namespace Go.Proofs.Ytnghmgbmflcngaa
set_option linter.unusedVariables false
open Go.RowKit

set_option maxRecDepth 100000 in
set_option maxHeartbeats 1000000 in
theorem rneed_bad (A : Option Addr) (n c : Nat) (l : List UInt8) (w : World) (h : Rd w w.heap.size A n c l) (hn : 24 ≤ n) (hm : mayB (fld l 0 1) (fld l 2 2) (fld l 4 1) (fld l 8 4) = false)  : Calls Try.prog 127 #[.slice A n c] w (NeedQ 0 290 w) := by
  have hR := fun W => right19_any (fld l 0 1) (fld l 1 1) (fld l 2 2) (fld l 4 1) (fld l 5 1) (fld l 6 2) (fld l 8 4) (fld l 12 4) (fld l 16 8) (hdF_of l) W
  rw [hm] at hR
  have hRD := read19_any A n c l w h hn
  have hF := (hdF_of l).2.2.2.2.2.2.1
  clear hm
  generalize fld l 0 1 = a0 at hR hRD
  generalize fld l 1 1 = a1 at hR hRD
  generalize fld l 2 2 = a2 at hR hRD
  generalize fld l 4 1 = a3 at hR hRD
  generalize fld l 5 1 = a4 at hR hRD
  generalize fld l 6 2 = a5 at hR hRD
  generalize fld l 8 4 = a6 at hR hRD hF
  generalize fld l 12 4 = a7 at hR hRD
  generalize fld l 16 8 = a8 at hR hRD
  unfold hdV at hR hRD
  have HR := Lib.hid hR
  have HRD := Lib.hid hRD
  clear hR hRD
  go_enter Try.func127, Try.ntmps127
  go_wp2_with fail
  refine HRD.out.mono ?_
  rintro e w1 ⟨rfl, b1⟩
  have k1 := Blk.new w1 #[.int .u8 (a0 : Nat), .int .u8 (a1 : Nat), .int .u16 (a2 : Nat), .int .u8 (a3 : Nat), .int .u8 (a4 : Nat), .int .u16 (a5 : Nat), .int .u32 (a6 : Nat), .int .u32 (a7 : Nat), .int .u64 (a8 : Nat)] 59
  go_wp2_with fail
  refine (HR.out _).mono ?_
  rintro e w2 ⟨rfl, b2⟩
  replace k1 := k1.step b2
  obtain ⟨q0, q1, q2, q3, q4, q5, q6, q7, q8⟩ := box9 k1
  have b := below_step (below_a1' b1 _) b2
  go_wp2_with fail
  go_ret2
  exact ⟨rfl, b⟩
set_option maxRecDepth 100000 in
set_option maxHeartbeats 1000000 in
theorem rneed_long (A : Option Addr) (n c : Nat) (l : List UInt8) (w : World) (h : Rd w w.heap.size A n c l) (hn : 24 ≤ n) (hm : mayB (fld l 0 1) (fld l 2 2) (fld l 4 1) (fld l 8 4) = true) (hb : 2048 < fld l 8 4) : Calls Try.prog 127 #[.slice A n c] w (NeedQ 0 3 w) := by
  have hR := fun W => right19_any (fld l 0 1) (fld l 1 1) (fld l 2 2) (fld l 4 1) (fld l 5 1) (fld l 6 2) (fld l 8 4) (fld l 12 4) (fld l 16 8) (hdF_of l) W
  rw [hm] at hR
  have hRD := read19_any A n c l w h hn
  have hF := (hdF_of l).2.2.2.2.2.2.1
  clear hm
  generalize fld l 0 1 = a0 at hR hRD
  generalize fld l 1 1 = a1 at hR hRD
  generalize fld l 2 2 = a2 at hR hRD
  generalize fld l 4 1 = a3 at hR hRD
  generalize fld l 5 1 = a4 at hR hRD
  generalize fld l 6 2 = a5 at hR hRD
  generalize fld l 8 4 = a6 at hR hRD hF hb
  generalize fld l 12 4 = a7 at hR hRD
  generalize fld l 16 8 = a8 at hR hRD
  unfold hdV at hR hRD
  have HR := Lib.hid hR
  have HRD := Lib.hid hRD
  clear hR hRD
  go_enter Try.func127, Try.ntmps127
  go_wp2_with fail
  refine HRD.out.mono ?_
  rintro e w1 ⟨rfl, b1⟩
  have k1 := Blk.new w1 #[.int .u8 (a0 : Nat), .int .u8 (a1 : Nat), .int .u16 (a2 : Nat), .int .u8 (a3 : Nat), .int .u8 (a4 : Nat), .int .u16 (a5 : Nat), .int .u32 (a6 : Nat), .int .u32 (a7 : Nat), .int .u64 (a8 : Nat)] 59
  go_wp2_with fail
  refine (HR.out _).mono ?_
  rintro e w2 ⟨rfl, b2⟩
  replace k1 := k1.step b2
  obtain ⟨q0, q1, q2, q3, q4, q5, q6, q7, q8⟩ := box9 k1
  have b := below_step (below_a1' b1 _) b2
  go_wp2_with fail
  go_ret2
  exact ⟨rfl, b⟩
set_option maxRecDepth 100000 in
set_option maxHeartbeats 1000000 in
theorem rneed_ok (A : Option Addr) (n c : Nat) (l : List UInt8) (w : World) (h : Rd w w.heap.size A n c l) (hn : 24 ≤ n) (hm : mayB (fld l 0 1) (fld l 2 2) (fld l 4 1) (fld l 8 4) = true) (hb : ¬ 2048 < fld l 8 4) : Calls Try.prog 127 #[.slice A n c] w (NeedQ (24 + (fld l 8 4 : Nat)) 0 w) := by
  have hR := fun W => right19_any (fld l 0 1) (fld l 1 1) (fld l 2 2) (fld l 4 1) (fld l 5 1) (fld l 6 2) (fld l 8 4) (fld l 12 4) (fld l 16 8) (hdF_of l) W
  rw [hm] at hR
  have hRD := read19_any A n c l w h hn
  have hF := (hdF_of l).2.2.2.2.2.2.1
  clear hm
  generalize fld l 0 1 = a0 at hR hRD
  generalize fld l 1 1 = a1 at hR hRD
  generalize fld l 2 2 = a2 at hR hRD
  generalize fld l 4 1 = a3 at hR hRD
  generalize fld l 5 1 = a4 at hR hRD
  generalize fld l 6 2 = a5 at hR hRD
  generalize fld l 8 4 = a6 at hR hRD hF hb ⊢
  generalize fld l 12 4 = a7 at hR hRD
  generalize fld l 16 8 = a8 at hR hRD
  unfold hdV at hR hRD
  have HR := Lib.hid hR
  have HRD := Lib.hid hRD
  clear hR hRD
  go_enter Try.func127, Try.ntmps127
  go_wp2_with fail
  refine HRD.out.mono ?_
  rintro e w1 ⟨rfl, b1⟩
  have k1 := Blk.new w1 #[.int .u8 (a0 : Nat), .int .u8 (a1 : Nat), .int .u16 (a2 : Nat), .int .u8 (a3 : Nat), .int .u8 (a4 : Nat), .int .u16 (a5 : Nat), .int .u32 (a6 : Nat), .int .u32 (a7 : Nat), .int .u64 (a8 : Nat)] 59
  go_wp2_with fail
  refine (HR.out _).mono ?_
  rintro e w2 ⟨rfl, b2⟩
  replace k1 := k1.step b2
  obtain ⟨q0, q1, q2, q3, q4, q5, q6, q7, q8⟩ := box9 k1
  have b := below_step (below_a1' b1 _) b2
  go_wp2_with fail
  go_ret2
  exact ⟨rfl, b⟩
theorem rneed_any (A : Option Addr) (n c : Nat) (l : List UInt8) (w : World) (h : Rd w w.heap.size A n c l) : Calls Try.prog 127 #[.slice A n c] w (NeedQ (needN l : Nat) (needE l) w) := by
  have hl := h.len
  by_cases hn : n < 24
  · have e1 : needE l = 9 := by unfold needE; rw [if_pos (by omega)]
    have e2 : needN l = 0 := by unfold needN; rw [e1]; rfl
    rw [e1, e2]
    exact rneed_short A n c w hn
  by_cases hm : mayB (fld l 0 1) (fld l 2 2) (fld l 4 1) (fld l 8 4) = true
  · by_cases hb : 2048 < fld l 8 4
    · have e1 : needE l = 3 := by unfold needE; rw [if_neg (by omega), if_pos hm, if_pos hb]
      have e2 : needN l = 0 := by unfold needN; rw [e1]; rfl
      rw [e1, e2]
      exact rneed_long A n c l w h (by omega) hm hb
    · have e1 : needE l = 0 := by unfold needE; rw [if_neg (by omega), if_pos hm, if_neg hb]
      have e2 : needN l = 24 + fld l 8 4 := by unfold needN; rw [if_pos e1]
      rw [e1, e2, Int.natCast_add]
      exact rneed_ok A n c l w h (by omega) hm hb
  · have e1 : needE l = 290 := by unfold needE; rw [if_neg (by omega), if_neg hm]
    have e2 : needN l = 0 := by unfold needN; rw [e1]; rfl
    rw [e1, e2]
    exact rneed_bad A n c l w h (by omega) (by simpa using hm)
end Go.Proofs.Ytnghmgbmflcngaa

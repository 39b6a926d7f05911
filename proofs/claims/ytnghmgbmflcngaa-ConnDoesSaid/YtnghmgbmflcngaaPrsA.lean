/- icehouseref20.Same, whatever two requests. Conditions: typed in each theorem. -/
import Derived.Test.YtnghmgbmflcngaaPrb
namespace Go.Proofs.Ytnghmgbmflcngaa
set_option linter.unusedVariables false
open Go.RowKit
set_option maxRecDepth 100000 in
set_option maxHeartbeats 8000000 in
theorem rqsame_0 (op1 op2 bd1 bd2 : Int) (qt1 qt2 fu1 fu2 : Bool) (oq1 oq2 fl1 fl2 ex1 ex2 cs1 cs2 dl1 dl2 ni1 ni2 : Nat) (K1 K2 V1 V2 : Option Addr) (nk1 ck1 nk2 ck2 nv1 cv1 nv2 cv2 : Nat) (lk1 lk2 lv1 lv2 : List UInt8) (w : World) (rk1 : Rd w w.heap.size K1 nk1 ck1 lk1) (rk2 : Rd w w.heap.size K2 nk2 ck2 lk2) (rv1 : Rd w w.heap.size V1 nv1 cv1 lv1) (rv2 : Rd w w.heap.size V2 nv2 cv2 lv2)  (hop : (op1 == op2) = false) :
    Calls Try.prog 45 #[(reqV op1 qt1 fu1 bd1 oq1 (.slice K1 nk1 ck1) (.slice V1 nv1 cv1) fl1 ex1 cs1 dl1 ni1), (reqV op2 qt2 fu2 bd2 oq2 (.slice K2 nk2 ck2) (.slice V2 nv2 cv2) fl2 ex2 cs2 dl2 ni2)] w (PSame false w) := by
  have b : Below w.heap.size w ((w.alloc (.cells #[.int .i64 op1, .bool qt1, .bool fu1, .int .i64 bd1, .int .u32 (oq1 : Nat), .slice K1 nk1 ck1, .slice V1 nv1 cv1, .int .u32 (fl1 : Nat), .int .u32 (ex1 : Nat), .int .u64 (cs1 : Nat), .int .u64 (dl1 : Nat), .int .u64 (ni1 : Nat)] 26)).alloc (.cells #[.int .i64 op2, .bool qt2, .bool fu2, .int .i64 bd2, .int .u32 (oq2 : Nat), .slice K2 nk2 ck2, .slice V2 nv2 cv2, .int .u32 (fl2 : Nat), .int .u32 (ex2 : Nat), .int .u64 (cs2 : Nat), .int .u64 (dl2 : Nat), .int .u64 (ni2 : Nat)] 26)) := below_a1' (below_a1' (Below.refl _ _) _) _
  have c1 := run_strA (rk1.below b)
  have c2 := run_strA (rk2.below b)
  have c3 := run_strA (rv1.below b)
  have c4 := run_strA (rv2.below b)
  unfold reqV
  go_enter Try.func45, Try.ntmps45
  go_wp2_with fail
  go_ret
  exact ⟨rfl, b⟩
set_option maxRecDepth 100000 in
set_option maxHeartbeats 8000000 in
theorem rqsame_1 (op1 op2 bd1 bd2 : Int) (qt1 qt2 fu1 fu2 : Bool) (oq1 oq2 fl1 fl2 ex1 ex2 cs1 cs2 dl1 dl2 ni1 ni2 : Nat) (K1 K2 V1 V2 : Option Addr) (nk1 ck1 nk2 ck2 nv1 cv1 nv2 cv2 : Nat) (lk1 lk2 lv1 lv2 : List UInt8) (w : World) (rk1 : Rd w w.heap.size K1 nk1 ck1 lk1) (rk2 : Rd w w.heap.size K2 nk2 ck2 lk2) (rv1 : Rd w w.heap.size V1 nv1 cv1 lv1) (rv2 : Rd w w.heap.size V2 nv2 cv2 lv2) (hop : (op1 == op2) = true) (hqt : (qt1 == qt2) = false) :
    Calls Try.prog 45 #[(reqV op1 qt1 fu1 bd1 oq1 (.slice K1 nk1 ck1) (.slice V1 nv1 cv1) fl1 ex1 cs1 dl1 ni1), (reqV op2 qt2 fu2 bd2 oq2 (.slice K2 nk2 ck2) (.slice V2 nv2 cv2) fl2 ex2 cs2 dl2 ni2)] w (PSame false w) := by
  have b : Below w.heap.size w ((w.alloc (.cells #[.int .i64 op1, .bool qt1, .bool fu1, .int .i64 bd1, .int .u32 (oq1 : Nat), .slice K1 nk1 ck1, .slice V1 nv1 cv1, .int .u32 (fl1 : Nat), .int .u32 (ex1 : Nat), .int .u64 (cs1 : Nat), .int .u64 (dl1 : Nat), .int .u64 (ni1 : Nat)] 26)).alloc (.cells #[.int .i64 op2, .bool qt2, .bool fu2, .int .i64 bd2, .int .u32 (oq2 : Nat), .slice K2 nk2 ck2, .slice V2 nv2 cv2, .int .u32 (fl2 : Nat), .int .u32 (ex2 : Nat), .int .u64 (cs2 : Nat), .int .u64 (dl2 : Nat), .int .u64 (ni2 : Nat)] 26)) := below_a1' (below_a1' (Below.refl _ _) _) _
  have c1 := run_strA (rk1.below b)
  have c2 := run_strA (rk2.below b)
  have c3 := run_strA (rv1.below b)
  have c4 := run_strA (rv2.below b)
  unfold reqV
  go_enter Try.func45, Try.ntmps45
  go_wp2_with fail
  go_ret
  exact ⟨rfl, b⟩
set_option maxRecDepth 100000 in
set_option maxHeartbeats 8000000 in
theorem rqsame_2 (op1 op2 bd1 bd2 : Int) (qt1 qt2 fu1 fu2 : Bool) (oq1 oq2 fl1 fl2 ex1 ex2 cs1 cs2 dl1 dl2 ni1 ni2 : Nat) (K1 K2 V1 V2 : Option Addr) (nk1 ck1 nk2 ck2 nv1 cv1 nv2 cv2 : Nat) (lk1 lk2 lv1 lv2 : List UInt8) (w : World) (rk1 : Rd w w.heap.size K1 nk1 ck1 lk1) (rk2 : Rd w w.heap.size K2 nk2 ck2 lk2) (rv1 : Rd w w.heap.size V1 nv1 cv1 lv1) (rv2 : Rd w w.heap.size V2 nv2 cv2 lv2) (hop : (op1 == op2) = true) (hqt : (qt1 == qt2) = true) (hfu : (fu1 == fu2) = false) :
    Calls Try.prog 45 #[(reqV op1 qt1 fu1 bd1 oq1 (.slice K1 nk1 ck1) (.slice V1 nv1 cv1) fl1 ex1 cs1 dl1 ni1), (reqV op2 qt2 fu2 bd2 oq2 (.slice K2 nk2 ck2) (.slice V2 nv2 cv2) fl2 ex2 cs2 dl2 ni2)] w (PSame false w) := by
  have b : Below w.heap.size w ((w.alloc (.cells #[.int .i64 op1, .bool qt1, .bool fu1, .int .i64 bd1, .int .u32 (oq1 : Nat), .slice K1 nk1 ck1, .slice V1 nv1 cv1, .int .u32 (fl1 : Nat), .int .u32 (ex1 : Nat), .int .u64 (cs1 : Nat), .int .u64 (dl1 : Nat), .int .u64 (ni1 : Nat)] 26)).alloc (.cells #[.int .i64 op2, .bool qt2, .bool fu2, .int .i64 bd2, .int .u32 (oq2 : Nat), .slice K2 nk2 ck2, .slice V2 nv2 cv2, .int .u32 (fl2 : Nat), .int .u32 (ex2 : Nat), .int .u64 (cs2 : Nat), .int .u64 (dl2 : Nat), .int .u64 (ni2 : Nat)] 26)) := below_a1' (below_a1' (Below.refl _ _) _) _
  have c1 := run_strA (rk1.below b)
  have c2 := run_strA (rk2.below b)
  have c3 := run_strA (rv1.below b)
  have c4 := run_strA (rv2.below b)
  unfold reqV
  go_enter Try.func45, Try.ntmps45
  go_wp2_with fail
  go_ret
  exact ⟨rfl, b⟩
set_option maxRecDepth 100000 in
set_option maxHeartbeats 8000000 in
theorem rqsame_3 (op1 op2 bd1 bd2 : Int) (qt1 qt2 fu1 fu2 : Bool) (oq1 oq2 fl1 fl2 ex1 ex2 cs1 cs2 dl1 dl2 ni1 ni2 : Nat) (K1 K2 V1 V2 : Option Addr) (nk1 ck1 nk2 ck2 nv1 cv1 nv2 cv2 : Nat) (lk1 lk2 lv1 lv2 : List UInt8) (w : World) (rk1 : Rd w w.heap.size K1 nk1 ck1 lk1) (rk2 : Rd w w.heap.size K2 nk2 ck2 lk2) (rv1 : Rd w w.heap.size V1 nv1 cv1 lv1) (rv2 : Rd w w.heap.size V2 nv2 cv2 lv2) (hop : (op1 == op2) = true) (hqt : (qt1 == qt2) = true) (hfu : (fu1 == fu2) = true) (hbd : (bd1 == bd2) = false) :
    Calls Try.prog 45 #[(reqV op1 qt1 fu1 bd1 oq1 (.slice K1 nk1 ck1) (.slice V1 nv1 cv1) fl1 ex1 cs1 dl1 ni1), (reqV op2 qt2 fu2 bd2 oq2 (.slice K2 nk2 ck2) (.slice V2 nv2 cv2) fl2 ex2 cs2 dl2 ni2)] w (PSame false w) := by
  have b : Below w.heap.size w ((w.alloc (.cells #[.int .i64 op1, .bool qt1, .bool fu1, .int .i64 bd1, .int .u32 (oq1 : Nat), .slice K1 nk1 ck1, .slice V1 nv1 cv1, .int .u32 (fl1 : Nat), .int .u32 (ex1 : Nat), .int .u64 (cs1 : Nat), .int .u64 (dl1 : Nat), .int .u64 (ni1 : Nat)] 26)).alloc (.cells #[.int .i64 op2, .bool qt2, .bool fu2, .int .i64 bd2, .int .u32 (oq2 : Nat), .slice K2 nk2 ck2, .slice V2 nv2 cv2, .int .u32 (fl2 : Nat), .int .u32 (ex2 : Nat), .int .u64 (cs2 : Nat), .int .u64 (dl2 : Nat), .int .u64 (ni2 : Nat)] 26)) := below_a1' (below_a1' (Below.refl _ _) _) _
  have c1 := run_strA (rk1.below b)
  have c2 := run_strA (rk2.below b)
  have c3 := run_strA (rv1.below b)
  have c4 := run_strA (rv2.below b)
  unfold reqV
  go_enter Try.func45, Try.ntmps45
  go_wp2_with fail
  go_ret
  exact ⟨rfl, b⟩
end Go.Proofs.Ytnghmgbmflcngaa

/- parse.Same, whatever two requests. Conditions: typed in each theorem. -/
import Derived.Test.YtnghmgbmflcngaaZpar
import Derived.Test.YtnghmgbmflcngaaStra
import Derived.Deep.DeepCutAuto
namespace Go.Proofs.Ytnghmgbmflcngaa
set_option linter.unusedVariables false
open Go.RowKit
def PSame (v : Bool) (w : World) (e : Ending) (w' : World) : Prop := e = .returned (.bool v) ∧ Below w.heap.size w w'
def reqSame (op1 op2 bd1 bd2 : Int) (qt1 qt2 fu1 fu2 : Bool) (oq1 oq2 fl1 fl2 ex1 ex2 cs1 cs2 dl1 dl2 ni1 ni2 : Nat) (lk1 lk2 lv1 lv2 : List UInt8) : Bool := decide (op1 = op2 ∧ bd1 = bd2 ∧ qt1 = qt2 ∧ fu1 = fu2 ∧ oq1 = oq2 ∧ fl1 = fl2 ∧ ex1 = ex2 ∧ cs1 = cs2 ∧ dl1 = dl2 ∧ ni1 = ni2 ∧ lk1 = lk2 ∧ lv1 = lv2)
theorem reqSame_yes {op1 op2 bd1 bd2 : Int} {qt1 qt2 fu1 fu2 : Bool} {oq1 oq2 fl1 fl2 ex1 ex2 cs1 cs2 dl1 dl2 ni1 ni2 : Nat} {lk1 lk2 lv1 lv2 : List UInt8} (h : op1 = op2 ∧ bd1 = bd2 ∧ qt1 = qt2 ∧ fu1 = fu2 ∧ oq1 = oq2 ∧ fl1 = fl2 ∧ ex1 = ex2 ∧ cs1 = cs2 ∧ dl1 = dl2 ∧ ni1 = ni2 ∧ lk1 = lk2 ∧ lv1 = lv2) : reqSame op1 op2 bd1 bd2 qt1 qt2 fu1 fu2 oq1 oq2 fl1 fl2 ex1 ex2 cs1 cs2 dl1 dl2 ni1 ni2 lk1 lk2 lv1 lv2 = true := decide_eq_true h
theorem reqSame_no {op1 op2 bd1 bd2 : Int} {qt1 qt2 fu1 fu2 : Bool} {oq1 oq2 fl1 fl2 ex1 ex2 cs1 cs2 dl1 dl2 ni1 ni2 : Nat} {lk1 lk2 lv1 lv2 : List UInt8} (h : ¬ (op1 = op2 ∧ bd1 = bd2 ∧ qt1 = qt2 ∧ fu1 = fu2 ∧ oq1 = oq2 ∧ fl1 = fl2 ∧ ex1 = ex2 ∧ cs1 = cs2 ∧ dl1 = dl2 ∧ ni1 = ni2 ∧ lk1 = lk2 ∧ lv1 = lv2)) : reqSame op1 op2 bd1 bd2 qt1 qt2 fu1 fu2 oq1 oq2 fl1 fl2 ex1 ex2 cs1 cs2 dl1 dl2 ni1 ni2 lk1 lk2 lv1 lv2 = false := decide_eq_false h
set_option maxRecDepth 100000 in
set_option maxHeartbeats 2000000 in
theorem qsame_0 (op1 op2 bd1 bd2 : Int) (qt1 qt2 fu1 fu2 : Bool) (oq1 oq2 fl1 fl2 ex1 ex2 cs1 cs2 dl1 dl2 ni1 ni2 : Nat) (K1 K2 V1 V2 : Option Addr) (nk1 ck1 nk2 ck2 nv1 cv1 nv2 cv2 : Nat) (lk1 lk2 lv1 lv2 : List UInt8) (w : World) (rk1 : Rd w w.heap.size K1 nk1 ck1 lk1) (rk2 : Rd w w.heap.size K2 nk2 ck2 lk2) (rv1 : Rd w w.heap.size V1 nv1 cv1 lv1) (rv2 : Rd w w.heap.size V2 nv2 cv2 lv2)  (hK : eqB lk1 lk2 = false) :
    Calls Try.prog 48 #[(reqV op1 qt1 fu1 bd1 oq1 (.slice K1 nk1 ck1) (.slice V1 nv1 cv1) fl1 ex1 cs1 dl1 ni1), (reqV op2 qt2 fu2 bd2 oq2 (.slice K2 nk2 ck2) (.slice V2 nv2 cv2) fl2 ex2 cs2 dl2 ni2)] w (PSame false w) := by
  have k0 := (Blk.new w #[.int .i64 op1, .bool qt1, .bool fu1, .int .i64 bd1, .int .u32 (oq1 : Nat), .slice K1 nk1 ck1, .slice V1 nv1 cv1, .int .u32 (fl1 : Nat), .int .u32 (ex1 : Nat), .int .u64 (cs1 : Nat), .int .u64 (dl1 : Nat), .int .u64 (ni1 : Nat)] 26).alloc (.cells #[.int .i64 op2, .bool qt2, .bool fu2, .int .i64 bd2, .int .u32 (oq2 : Nat), .slice K2 nk2 ck2, .slice V2 nv2 cv2, .int .u32 (fl2 : Nat), .int .u32 (ex2 : Nat), .int .u64 (cs2 : Nat), .int .u64 (dl2 : Nat), .int .u64 (ni2 : Nat)] 26)
  have k1' := Blk.new (w.alloc (.cells #[.int .i64 op1, .bool qt1, .bool fu1, .int .i64 bd1, .int .u32 (oq1 : Nat), .slice K1 nk1 ck1, .slice V1 nv1 cv1, .int .u32 (fl1 : Nat), .int .u32 (ex1 : Nat), .int .u64 (cs1 : Nat), .int .u64 (dl1 : Nat), .int .u64 (ni1 : Nat)] 26)) #[.int .i64 op2, .bool qt2, .bool fu2, .int .i64 bd2, .int .u32 (oq2 : Nat), .slice K2 nk2 ck2, .slice V2 nv2 cv2, .int .u32 (fl2 : Nat), .int .u32 (ex2 : Nat), .int .u64 (cs2 : Nat), .int .u64 (dl2 : Nat), .int .u64 (ni2 : Nat)] 26
  have b : Below w.heap.size w ((w.alloc (.cells #[.int .i64 op1, .bool qt1, .bool fu1, .int .i64 bd1, .int .u32 (oq1 : Nat), .slice K1 nk1 ck1, .slice V1 nv1 cv1, .int .u32 (fl1 : Nat), .int .u32 (ex1 : Nat), .int .u64 (cs1 : Nat), .int .u64 (dl1 : Nat), .int .u64 (ni1 : Nat)] 26)).alloc (.cells #[.int .i64 op2, .bool qt2, .bool fu2, .int .i64 bd2, .int .u32 (oq2 : Nat), .slice K2 nk2 ck2, .slice V2 nv2 cv2, .int .u32 (fl2 : Nat), .int .u32 (ex2 : Nat), .int .u64 (cs2 : Nat), .int .u64 (dl2 : Nat), .int .u64 (ni2 : Nat)] 26)) := below_a1' (below_a1' (Below.refl _ _) _) _
  simp only [World.size_alloc] at k1'
  unfold reqV
  go_enter Try.func48, Try.ntmps48
  go_upto_region 1 with fail
  generalize (w.alloc (.cells #[.int .i64 op1, .bool qt1, .bool fu1, .int .i64 bd1, .int .u32 (oq1 : Nat), .slice K1 nk1 ck1, .slice V1 nv1 cv1, .int .u32 (fl1 : Nat), .int .u32 (ex1 : Nat), .int .u64 (cs1 : Nat), .int .u64 (dl1 : Nat), .int .u64 (ni1 : Nat)] 26)).alloc (.cells #[.int .i64 op2, .bool qt2, .bool fu2, .int .i64 bd2, .int .u32 (oq2 : Nat), .slice K2 nk2 ck2, .slice V2 nv2 cv2, .int .u32 (fl2 : Nat), .int .u32 (ex2 : Nat), .int .u64 (cs2 : Nat), .int .u64 (dl2 : Nat), .int .u64 (ni2 : Nat)] 26) = W0 at k0 k1' b ⊢
  obtain ⟨z0, z1, z2, z3, z4, z5, z6, z7, z8, z9, z10, z11⟩ := box12 k0
  obtain ⟨y0, y1, y2, y3, y4, y5, y6, y7, y8, y9, y10, y11⟩ := box12 k1'
  go_wp2_with fail
  refine (sequal_any K1 K2 nk1 ck1 nk2 ck2 w.heap.size lk1 lk2 _ (rk1.below b) (rk2.below b)).mono ?_
  rintro e w1 ⟨rfl, hq⟩
  have bq := quiet_self hq
  clear hq
  replace k0 := k0.step bq
  replace k1' := k1'.step bq
  replace b := below_step b bq
  clear bq z0 z1 z2 z3 z4 z5 z6 z7 z8 z9 z10 z11 y0 y1 y2 y3 y4 y5 y6 y7 y8 y9 y10 y11
  obtain ⟨z0, z1, z2, z3, z4, z5, z6, z7, z8, z9, z10, z11⟩ := box12 k0
  obtain ⟨y0, y1, y2, y3, y4, y5, y6, y7, y8, y9, y10, y11⟩ := box12 k1'
  rw [hK]
  go_wp2_with fail
  go_ret
  exact ⟨rfl, b⟩
set_option maxRecDepth 100000 in
set_option maxHeartbeats 2000000 in
theorem qsame_1 (op1 op2 bd1 bd2 : Int) (qt1 qt2 fu1 fu2 : Bool) (oq1 oq2 fl1 fl2 ex1 ex2 cs1 cs2 dl1 dl2 ni1 ni2 : Nat) (K1 K2 V1 V2 : Option Addr) (nk1 ck1 nk2 ck2 nv1 cv1 nv2 cv2 : Nat) (lk1 lk2 lv1 lv2 : List UInt8) (w : World) (rk1 : Rd w w.heap.size K1 nk1 ck1 lk1) (rk2 : Rd w w.heap.size K2 nk2 ck2 lk2) (rv1 : Rd w w.heap.size V1 nv1 cv1 lv1) (rv2 : Rd w w.heap.size V2 nv2 cv2 lv2) (hK : eqB lk1 lk2 = true) (hV : eqB lv1 lv2 = false) :
    Calls Try.prog 48 #[(reqV op1 qt1 fu1 bd1 oq1 (.slice K1 nk1 ck1) (.slice V1 nv1 cv1) fl1 ex1 cs1 dl1 ni1), (reqV op2 qt2 fu2 bd2 oq2 (.slice K2 nk2 ck2) (.slice V2 nv2 cv2) fl2 ex2 cs2 dl2 ni2)] w (PSame false w) := by
  have k0 := (Blk.new w #[.int .i64 op1, .bool qt1, .bool fu1, .int .i64 bd1, .int .u32 (oq1 : Nat), .slice K1 nk1 ck1, .slice V1 nv1 cv1, .int .u32 (fl1 : Nat), .int .u32 (ex1 : Nat), .int .u64 (cs1 : Nat), .int .u64 (dl1 : Nat), .int .u64 (ni1 : Nat)] 26).alloc (.cells #[.int .i64 op2, .bool qt2, .bool fu2, .int .i64 bd2, .int .u32 (oq2 : Nat), .slice K2 nk2 ck2, .slice V2 nv2 cv2, .int .u32 (fl2 : Nat), .int .u32 (ex2 : Nat), .int .u64 (cs2 : Nat), .int .u64 (dl2 : Nat), .int .u64 (ni2 : Nat)] 26)
  have k1' := Blk.new (w.alloc (.cells #[.int .i64 op1, .bool qt1, .bool fu1, .int .i64 bd1, .int .u32 (oq1 : Nat), .slice K1 nk1 ck1, .slice V1 nv1 cv1, .int .u32 (fl1 : Nat), .int .u32 (ex1 : Nat), .int .u64 (cs1 : Nat), .int .u64 (dl1 : Nat), .int .u64 (ni1 : Nat)] 26)) #[.int .i64 op2, .bool qt2, .bool fu2, .int .i64 bd2, .int .u32 (oq2 : Nat), .slice K2 nk2 ck2, .slice V2 nv2 cv2, .int .u32 (fl2 : Nat), .int .u32 (ex2 : Nat), .int .u64 (cs2 : Nat), .int .u64 (dl2 : Nat), .int .u64 (ni2 : Nat)] 26
  have b : Below w.heap.size w ((w.alloc (.cells #[.int .i64 op1, .bool qt1, .bool fu1, .int .i64 bd1, .int .u32 (oq1 : Nat), .slice K1 nk1 ck1, .slice V1 nv1 cv1, .int .u32 (fl1 : Nat), .int .u32 (ex1 : Nat), .int .u64 (cs1 : Nat), .int .u64 (dl1 : Nat), .int .u64 (ni1 : Nat)] 26)).alloc (.cells #[.int .i64 op2, .bool qt2, .bool fu2, .int .i64 bd2, .int .u32 (oq2 : Nat), .slice K2 nk2 ck2, .slice V2 nv2 cv2, .int .u32 (fl2 : Nat), .int .u32 (ex2 : Nat), .int .u64 (cs2 : Nat), .int .u64 (dl2 : Nat), .int .u64 (ni2 : Nat)] 26)) := below_a1' (below_a1' (Below.refl _ _) _) _
  simp only [World.size_alloc] at k1'
  unfold reqV
  go_enter Try.func48, Try.ntmps48
  go_upto_region 1 with fail
  generalize (w.alloc (.cells #[.int .i64 op1, .bool qt1, .bool fu1, .int .i64 bd1, .int .u32 (oq1 : Nat), .slice K1 nk1 ck1, .slice V1 nv1 cv1, .int .u32 (fl1 : Nat), .int .u32 (ex1 : Nat), .int .u64 (cs1 : Nat), .int .u64 (dl1 : Nat), .int .u64 (ni1 : Nat)] 26)).alloc (.cells #[.int .i64 op2, .bool qt2, .bool fu2, .int .i64 bd2, .int .u32 (oq2 : Nat), .slice K2 nk2 ck2, .slice V2 nv2 cv2, .int .u32 (fl2 : Nat), .int .u32 (ex2 : Nat), .int .u64 (cs2 : Nat), .int .u64 (dl2 : Nat), .int .u64 (ni2 : Nat)] 26) = W0 at k0 k1' b ⊢
  obtain ⟨z0, z1, z2, z3, z4, z5, z6, z7, z8, z9, z10, z11⟩ := box12 k0
  obtain ⟨y0, y1, y2, y3, y4, y5, y6, y7, y8, y9, y10, y11⟩ := box12 k1'
  go_wp2_with fail
  refine (sequal_any K1 K2 nk1 ck1 nk2 ck2 w.heap.size lk1 lk2 _ (rk1.below b) (rk2.below b)).mono ?_
  rintro e w1 ⟨rfl, hq⟩
  have bq := quiet_self hq
  clear hq
  replace k0 := k0.step bq
  replace k1' := k1'.step bq
  replace b := below_step b bq
  clear bq z0 z1 z2 z3 z4 z5 z6 z7 z8 z9 z10 z11 y0 y1 y2 y3 y4 y5 y6 y7 y8 y9 y10 y11
  obtain ⟨z0, z1, z2, z3, z4, z5, z6, z7, z8, z9, z10, z11⟩ := box12 k0
  obtain ⟨y0, y1, y2, y3, y4, y5, y6, y7, y8, y9, y10, y11⟩ := box12 k1'
  rw [hK]
  go_wp2_with fail
  refine (sequal_any V1 V2 nv1 cv1 nv2 cv2 w.heap.size lv1 lv2 _ (rv1.below b) (rv2.below b)).mono ?_
  rintro e w2 ⟨rfl, hq⟩
  have bq := quiet_self hq
  clear hq
  replace k0 := k0.step bq
  replace k1' := k1'.step bq
  replace b := below_step b bq
  clear bq z0 z1 z2 z3 z4 z5 z6 z7 z8 z9 z10 z11 y0 y1 y2 y3 y4 y5 y6 y7 y8 y9 y10 y11
  obtain ⟨z0, z1, z2, z3, z4, z5, z6, z7, z8, z9, z10, z11⟩ := box12 k0
  obtain ⟨y0, y1, y2, y3, y4, y5, y6, y7, y8, y9, y10, y11⟩ := box12 k1'
  rw [hV]
  go_wp2_with fail
  go_ret
  exact ⟨rfl, b⟩
set_option maxRecDepth 100000 in
set_option maxHeartbeats 2000000 in
theorem qsame_2 (op1 op2 bd1 bd2 : Int) (qt1 qt2 fu1 fu2 : Bool) (oq1 oq2 fl1 fl2 ex1 ex2 cs1 cs2 dl1 dl2 ni1 ni2 : Nat) (K1 K2 V1 V2 : Option Addr) (nk1 ck1 nk2 ck2 nv1 cv1 nv2 cv2 : Nat) (lk1 lk2 lv1 lv2 : List UInt8) (w : World) (rk1 : Rd w w.heap.size K1 nk1 ck1 lk1) (rk2 : Rd w w.heap.size K2 nk2 ck2 lk2) (rv1 : Rd w w.heap.size V1 nv1 cv1 lv1) (rv2 : Rd w w.heap.size V2 nv2 cv2 lv2) (hK : eqB lk1 lk2 = true) (hV : eqB lv1 lv2 = true) (hop : (op1 == op2) = false) :
    Calls Try.prog 48 #[(reqV op1 qt1 fu1 bd1 oq1 (.slice K1 nk1 ck1) (.slice V1 nv1 cv1) fl1 ex1 cs1 dl1 ni1), (reqV op2 qt2 fu2 bd2 oq2 (.slice K2 nk2 ck2) (.slice V2 nv2 cv2) fl2 ex2 cs2 dl2 ni2)] w (PSame false w) := by
  have k0 := (Blk.new w #[.int .i64 op1, .bool qt1, .bool fu1, .int .i64 bd1, .int .u32 (oq1 : Nat), .slice K1 nk1 ck1, .slice V1 nv1 cv1, .int .u32 (fl1 : Nat), .int .u32 (ex1 : Nat), .int .u64 (cs1 : Nat), .int .u64 (dl1 : Nat), .int .u64 (ni1 : Nat)] 26).alloc (.cells #[.int .i64 op2, .bool qt2, .bool fu2, .int .i64 bd2, .int .u32 (oq2 : Nat), .slice K2 nk2 ck2, .slice V2 nv2 cv2, .int .u32 (fl2 : Nat), .int .u32 (ex2 : Nat), .int .u64 (cs2 : Nat), .int .u64 (dl2 : Nat), .int .u64 (ni2 : Nat)] 26)
  have k1' := Blk.new (w.alloc (.cells #[.int .i64 op1, .bool qt1, .bool fu1, .int .i64 bd1, .int .u32 (oq1 : Nat), .slice K1 nk1 ck1, .slice V1 nv1 cv1, .int .u32 (fl1 : Nat), .int .u32 (ex1 : Nat), .int .u64 (cs1 : Nat), .int .u64 (dl1 : Nat), .int .u64 (ni1 : Nat)] 26)) #[.int .i64 op2, .bool qt2, .bool fu2, .int .i64 bd2, .int .u32 (oq2 : Nat), .slice K2 nk2 ck2, .slice V2 nv2 cv2, .int .u32 (fl2 : Nat), .int .u32 (ex2 : Nat), .int .u64 (cs2 : Nat), .int .u64 (dl2 : Nat), .int .u64 (ni2 : Nat)] 26
  have b : Below w.heap.size w ((w.alloc (.cells #[.int .i64 op1, .bool qt1, .bool fu1, .int .i64 bd1, .int .u32 (oq1 : Nat), .slice K1 nk1 ck1, .slice V1 nv1 cv1, .int .u32 (fl1 : Nat), .int .u32 (ex1 : Nat), .int .u64 (cs1 : Nat), .int .u64 (dl1 : Nat), .int .u64 (ni1 : Nat)] 26)).alloc (.cells #[.int .i64 op2, .bool qt2, .bool fu2, .int .i64 bd2, .int .u32 (oq2 : Nat), .slice K2 nk2 ck2, .slice V2 nv2 cv2, .int .u32 (fl2 : Nat), .int .u32 (ex2 : Nat), .int .u64 (cs2 : Nat), .int .u64 (dl2 : Nat), .int .u64 (ni2 : Nat)] 26)) := below_a1' (below_a1' (Below.refl _ _) _) _
  simp only [World.size_alloc] at k1'
  unfold reqV
  go_enter Try.func48, Try.ntmps48
  go_upto_region 1 with fail
  generalize (w.alloc (.cells #[.int .i64 op1, .bool qt1, .bool fu1, .int .i64 bd1, .int .u32 (oq1 : Nat), .slice K1 nk1 ck1, .slice V1 nv1 cv1, .int .u32 (fl1 : Nat), .int .u32 (ex1 : Nat), .int .u64 (cs1 : Nat), .int .u64 (dl1 : Nat), .int .u64 (ni1 : Nat)] 26)).alloc (.cells #[.int .i64 op2, .bool qt2, .bool fu2, .int .i64 bd2, .int .u32 (oq2 : Nat), .slice K2 nk2 ck2, .slice V2 nv2 cv2, .int .u32 (fl2 : Nat), .int .u32 (ex2 : Nat), .int .u64 (cs2 : Nat), .int .u64 (dl2 : Nat), .int .u64 (ni2 : Nat)] 26) = W0 at k0 k1' b ⊢
  obtain ⟨z0, z1, z2, z3, z4, z5, z6, z7, z8, z9, z10, z11⟩ := box12 k0
  obtain ⟨y0, y1, y2, y3, y4, y5, y6, y7, y8, y9, y10, y11⟩ := box12 k1'
  go_wp2_with fail
  refine (sequal_any K1 K2 nk1 ck1 nk2 ck2 w.heap.size lk1 lk2 _ (rk1.below b) (rk2.below b)).mono ?_
  rintro e w1 ⟨rfl, hq⟩
  have bq := quiet_self hq
  clear hq
  replace k0 := k0.step bq
  replace k1' := k1'.step bq
  replace b := below_step b bq
  clear bq z0 z1 z2 z3 z4 z5 z6 z7 z8 z9 z10 z11 y0 y1 y2 y3 y4 y5 y6 y7 y8 y9 y10 y11
  obtain ⟨z0, z1, z2, z3, z4, z5, z6, z7, z8, z9, z10, z11⟩ := box12 k0
  obtain ⟨y0, y1, y2, y3, y4, y5, y6, y7, y8, y9, y10, y11⟩ := box12 k1'
  rw [hK]
  go_wp2_with fail
  refine (sequal_any V1 V2 nv1 cv1 nv2 cv2 w.heap.size lv1 lv2 _ (rv1.below b) (rv2.below b)).mono ?_
  rintro e w2 ⟨rfl, hq⟩
  have bq := quiet_self hq
  clear hq
  replace k0 := k0.step bq
  replace k1' := k1'.step bq
  replace b := below_step b bq
  clear bq z0 z1 z2 z3 z4 z5 z6 z7 z8 z9 z10 z11 y0 y1 y2 y3 y4 y5 y6 y7 y8 y9 y10 y11
  obtain ⟨z0, z1, z2, z3, z4, z5, z6, z7, z8, z9, z10, z11⟩ := box12 k0
  obtain ⟨y0, y1, y2, y3, y4, y5, y6, y7, y8, y9, y10, y11⟩ := box12 k1'
  rw [hV]
  go_wp2_with fail
  go_ret
  exact ⟨rfl, b⟩
set_option maxRecDepth 100000 in
set_option maxHeartbeats 2000000 in
theorem qsame_3 (op1 op2 bd1 bd2 : Int) (qt1 qt2 fu1 fu2 : Bool) (oq1 oq2 fl1 fl2 ex1 ex2 cs1 cs2 dl1 dl2 ni1 ni2 : Nat) (K1 K2 V1 V2 : Option Addr) (nk1 ck1 nk2 ck2 nv1 cv1 nv2 cv2 : Nat) (lk1 lk2 lv1 lv2 : List UInt8) (w : World) (rk1 : Rd w w.heap.size K1 nk1 ck1 lk1) (rk2 : Rd w w.heap.size K2 nk2 ck2 lk2) (rv1 : Rd w w.heap.size V1 nv1 cv1 lv1) (rv2 : Rd w w.heap.size V2 nv2 cv2 lv2) (hK : eqB lk1 lk2 = true) (hV : eqB lv1 lv2 = true) (hop : (op1 == op2) = true) (hqt : (qt1 == qt2) = false) :
    Calls Try.prog 48 #[(reqV op1 qt1 fu1 bd1 oq1 (.slice K1 nk1 ck1) (.slice V1 nv1 cv1) fl1 ex1 cs1 dl1 ni1), (reqV op2 qt2 fu2 bd2 oq2 (.slice K2 nk2 ck2) (.slice V2 nv2 cv2) fl2 ex2 cs2 dl2 ni2)] w (PSame false w) := by
  have k0 := (Blk.new w #[.int .i64 op1, .bool qt1, .bool fu1, .int .i64 bd1, .int .u32 (oq1 : Nat), .slice K1 nk1 ck1, .slice V1 nv1 cv1, .int .u32 (fl1 : Nat), .int .u32 (ex1 : Nat), .int .u64 (cs1 : Nat), .int .u64 (dl1 : Nat), .int .u64 (ni1 : Nat)] 26).alloc (.cells #[.int .i64 op2, .bool qt2, .bool fu2, .int .i64 bd2, .int .u32 (oq2 : Nat), .slice K2 nk2 ck2, .slice V2 nv2 cv2, .int .u32 (fl2 : Nat), .int .u32 (ex2 : Nat), .int .u64 (cs2 : Nat), .int .u64 (dl2 : Nat), .int .u64 (ni2 : Nat)] 26)
  have k1' := Blk.new (w.alloc (.cells #[.int .i64 op1, .bool qt1, .bool fu1, .int .i64 bd1, .int .u32 (oq1 : Nat), .slice K1 nk1 ck1, .slice V1 nv1 cv1, .int .u32 (fl1 : Nat), .int .u32 (ex1 : Nat), .int .u64 (cs1 : Nat), .int .u64 (dl1 : Nat), .int .u64 (ni1 : Nat)] 26)) #[.int .i64 op2, .bool qt2, .bool fu2, .int .i64 bd2, .int .u32 (oq2 : Nat), .slice K2 nk2 ck2, .slice V2 nv2 cv2, .int .u32 (fl2 : Nat), .int .u32 (ex2 : Nat), .int .u64 (cs2 : Nat), .int .u64 (dl2 : Nat), .int .u64 (ni2 : Nat)] 26
  have b : Below w.heap.size w ((w.alloc (.cells #[.int .i64 op1, .bool qt1, .bool fu1, .int .i64 bd1, .int .u32 (oq1 : Nat), .slice K1 nk1 ck1, .slice V1 nv1 cv1, .int .u32 (fl1 : Nat), .int .u32 (ex1 : Nat), .int .u64 (cs1 : Nat), .int .u64 (dl1 : Nat), .int .u64 (ni1 : Nat)] 26)).alloc (.cells #[.int .i64 op2, .bool qt2, .bool fu2, .int .i64 bd2, .int .u32 (oq2 : Nat), .slice K2 nk2 ck2, .slice V2 nv2 cv2, .int .u32 (fl2 : Nat), .int .u32 (ex2 : Nat), .int .u64 (cs2 : Nat), .int .u64 (dl2 : Nat), .int .u64 (ni2 : Nat)] 26)) := below_a1' (below_a1' (Below.refl _ _) _) _
  simp only [World.size_alloc] at k1'
  unfold reqV
  go_enter Try.func48, Try.ntmps48
  go_upto_region 1 with fail
  generalize (w.alloc (.cells #[.int .i64 op1, .bool qt1, .bool fu1, .int .i64 bd1, .int .u32 (oq1 : Nat), .slice K1 nk1 ck1, .slice V1 nv1 cv1, .int .u32 (fl1 : Nat), .int .u32 (ex1 : Nat), .int .u64 (cs1 : Nat), .int .u64 (dl1 : Nat), .int .u64 (ni1 : Nat)] 26)).alloc (.cells #[.int .i64 op2, .bool qt2, .bool fu2, .int .i64 bd2, .int .u32 (oq2 : Nat), .slice K2 nk2 ck2, .slice V2 nv2 cv2, .int .u32 (fl2 : Nat), .int .u32 (ex2 : Nat), .int .u64 (cs2 : Nat), .int .u64 (dl2 : Nat), .int .u64 (ni2 : Nat)] 26) = W0 at k0 k1' b ⊢
  obtain ⟨z0, z1, z2, z3, z4, z5, z6, z7, z8, z9, z10, z11⟩ := box12 k0
  obtain ⟨y0, y1, y2, y3, y4, y5, y6, y7, y8, y9, y10, y11⟩ := box12 k1'
  go_wp2_with fail
  refine (sequal_any K1 K2 nk1 ck1 nk2 ck2 w.heap.size lk1 lk2 _ (rk1.below b) (rk2.below b)).mono ?_
  rintro e w1 ⟨rfl, hq⟩
  have bq := quiet_self hq
  clear hq
  replace k0 := k0.step bq
  replace k1' := k1'.step bq
  replace b := below_step b bq
  clear bq z0 z1 z2 z3 z4 z5 z6 z7 z8 z9 z10 z11 y0 y1 y2 y3 y4 y5 y6 y7 y8 y9 y10 y11
  obtain ⟨z0, z1, z2, z3, z4, z5, z6, z7, z8, z9, z10, z11⟩ := box12 k0
  obtain ⟨y0, y1, y2, y3, y4, y5, y6, y7, y8, y9, y10, y11⟩ := box12 k1'
  rw [hK]
  go_wp2_with fail
  refine (sequal_any V1 V2 nv1 cv1 nv2 cv2 w.heap.size lv1 lv2 _ (rv1.below b) (rv2.below b)).mono ?_
  rintro e w2 ⟨rfl, hq⟩
  have bq := quiet_self hq
  clear hq
  replace k0 := k0.step bq
  replace k1' := k1'.step bq
  replace b := below_step b bq
  clear bq z0 z1 z2 z3 z4 z5 z6 z7 z8 z9 z10 z11 y0 y1 y2 y3 y4 y5 y6 y7 y8 y9 y10 y11
  obtain ⟨z0, z1, z2, z3, z4, z5, z6, z7, z8, z9, z10, z11⟩ := box12 k0
  obtain ⟨y0, y1, y2, y3, y4, y5, y6, y7, y8, y9, y10, y11⟩ := box12 k1'
  rw [hV]
  go_wp2_with fail
  go_ret
  exact ⟨rfl, b⟩
set_option maxRecDepth 100000 in
set_option maxHeartbeats 2000000 in
theorem qsame_4 (op1 op2 bd1 bd2 : Int) (qt1 qt2 fu1 fu2 : Bool) (oq1 oq2 fl1 fl2 ex1 ex2 cs1 cs2 dl1 dl2 ni1 ni2 : Nat) (K1 K2 V1 V2 : Option Addr) (nk1 ck1 nk2 ck2 nv1 cv1 nv2 cv2 : Nat) (lk1 lk2 lv1 lv2 : List UInt8) (w : World) (rk1 : Rd w w.heap.size K1 nk1 ck1 lk1) (rk2 : Rd w w.heap.size K2 nk2 ck2 lk2) (rv1 : Rd w w.heap.size V1 nv1 cv1 lv1) (rv2 : Rd w w.heap.size V2 nv2 cv2 lv2) (hK : eqB lk1 lk2 = true) (hV : eqB lv1 lv2 = true) (hop : (op1 == op2) = true) (hqt : (qt1 == qt2) = true) (hfu : (fu1 == fu2) = false) :
    Calls Try.prog 48 #[(reqV op1 qt1 fu1 bd1 oq1 (.slice K1 nk1 ck1) (.slice V1 nv1 cv1) fl1 ex1 cs1 dl1 ni1), (reqV op2 qt2 fu2 bd2 oq2 (.slice K2 nk2 ck2) (.slice V2 nv2 cv2) fl2 ex2 cs2 dl2 ni2)] w (PSame false w) := by
  have k0 := (Blk.new w #[.int .i64 op1, .bool qt1, .bool fu1, .int .i64 bd1, .int .u32 (oq1 : Nat), .slice K1 nk1 ck1, .slice V1 nv1 cv1, .int .u32 (fl1 : Nat), .int .u32 (ex1 : Nat), .int .u64 (cs1 : Nat), .int .u64 (dl1 : Nat), .int .u64 (ni1 : Nat)] 26).alloc (.cells #[.int .i64 op2, .bool qt2, .bool fu2, .int .i64 bd2, .int .u32 (oq2 : Nat), .slice K2 nk2 ck2, .slice V2 nv2 cv2, .int .u32 (fl2 : Nat), .int .u32 (ex2 : Nat), .int .u64 (cs2 : Nat), .int .u64 (dl2 : Nat), .int .u64 (ni2 : Nat)] 26)
  have k1' := Blk.new (w.alloc (.cells #[.int .i64 op1, .bool qt1, .bool fu1, .int .i64 bd1, .int .u32 (oq1 : Nat), .slice K1 nk1 ck1, .slice V1 nv1 cv1, .int .u32 (fl1 : Nat), .int .u32 (ex1 : Nat), .int .u64 (cs1 : Nat), .int .u64 (dl1 : Nat), .int .u64 (ni1 : Nat)] 26)) #[.int .i64 op2, .bool qt2, .bool fu2, .int .i64 bd2, .int .u32 (oq2 : Nat), .slice K2 nk2 ck2, .slice V2 nv2 cv2, .int .u32 (fl2 : Nat), .int .u32 (ex2 : Nat), .int .u64 (cs2 : Nat), .int .u64 (dl2 : Nat), .int .u64 (ni2 : Nat)] 26
  have b : Below w.heap.size w ((w.alloc (.cells #[.int .i64 op1, .bool qt1, .bool fu1, .int .i64 bd1, .int .u32 (oq1 : Nat), .slice K1 nk1 ck1, .slice V1 nv1 cv1, .int .u32 (fl1 : Nat), .int .u32 (ex1 : Nat), .int .u64 (cs1 : Nat), .int .u64 (dl1 : Nat), .int .u64 (ni1 : Nat)] 26)).alloc (.cells #[.int .i64 op2, .bool qt2, .bool fu2, .int .i64 bd2, .int .u32 (oq2 : Nat), .slice K2 nk2 ck2, .slice V2 nv2 cv2, .int .u32 (fl2 : Nat), .int .u32 (ex2 : Nat), .int .u64 (cs2 : Nat), .int .u64 (dl2 : Nat), .int .u64 (ni2 : Nat)] 26)) := below_a1' (below_a1' (Below.refl _ _) _) _
  simp only [World.size_alloc] at k1'
  unfold reqV
  go_enter Try.func48, Try.ntmps48
  go_upto_region 1 with fail
  generalize (w.alloc (.cells #[.int .i64 op1, .bool qt1, .bool fu1, .int .i64 bd1, .int .u32 (oq1 : Nat), .slice K1 nk1 ck1, .slice V1 nv1 cv1, .int .u32 (fl1 : Nat), .int .u32 (ex1 : Nat), .int .u64 (cs1 : Nat), .int .u64 (dl1 : Nat), .int .u64 (ni1 : Nat)] 26)).alloc (.cells #[.int .i64 op2, .bool qt2, .bool fu2, .int .i64 bd2, .int .u32 (oq2 : Nat), .slice K2 nk2 ck2, .slice V2 nv2 cv2, .int .u32 (fl2 : Nat), .int .u32 (ex2 : Nat), .int .u64 (cs2 : Nat), .int .u64 (dl2 : Nat), .int .u64 (ni2 : Nat)] 26) = W0 at k0 k1' b ⊢
  obtain ⟨z0, z1, z2, z3, z4, z5, z6, z7, z8, z9, z10, z11⟩ := box12 k0
  obtain ⟨y0, y1, y2, y3, y4, y5, y6, y7, y8, y9, y10, y11⟩ := box12 k1'
  go_wp2_with fail
  refine (sequal_any K1 K2 nk1 ck1 nk2 ck2 w.heap.size lk1 lk2 _ (rk1.below b) (rk2.below b)).mono ?_
  rintro e w1 ⟨rfl, hq⟩
  have bq := quiet_self hq
  clear hq
  replace k0 := k0.step bq
  replace k1' := k1'.step bq
  replace b := below_step b bq
  clear bq z0 z1 z2 z3 z4 z5 z6 z7 z8 z9 z10 z11 y0 y1 y2 y3 y4 y5 y6 y7 y8 y9 y10 y11
  obtain ⟨z0, z1, z2, z3, z4, z5, z6, z7, z8, z9, z10, z11⟩ := box12 k0
  obtain ⟨y0, y1, y2, y3, y4, y5, y6, y7, y8, y9, y10, y11⟩ := box12 k1'
  rw [hK]
  go_wp2_with fail
  refine (sequal_any V1 V2 nv1 cv1 nv2 cv2 w.heap.size lv1 lv2 _ (rv1.below b) (rv2.below b)).mono ?_
  rintro e w2 ⟨rfl, hq⟩
  have bq := quiet_self hq
  clear hq
  replace k0 := k0.step bq
  replace k1' := k1'.step bq
  replace b := below_step b bq
  clear bq z0 z1 z2 z3 z4 z5 z6 z7 z8 z9 z10 z11 y0 y1 y2 y3 y4 y5 y6 y7 y8 y9 y10 y11
  obtain ⟨z0, z1, z2, z3, z4, z5, z6, z7, z8, z9, z10, z11⟩ := box12 k0
  obtain ⟨y0, y1, y2, y3, y4, y5, y6, y7, y8, y9, y10, y11⟩ := box12 k1'
  rw [hV]
  go_wp2_with fail
  go_ret
  exact ⟨rfl, b⟩
set_option maxRecDepth 100000 in
set_option maxHeartbeats 2000000 in
theorem qsame_5 (op1 op2 bd1 bd2 : Int) (qt1 qt2 fu1 fu2 : Bool) (oq1 oq2 fl1 fl2 ex1 ex2 cs1 cs2 dl1 dl2 ni1 ni2 : Nat) (K1 K2 V1 V2 : Option Addr) (nk1 ck1 nk2 ck2 nv1 cv1 nv2 cv2 : Nat) (lk1 lk2 lv1 lv2 : List UInt8) (w : World) (rk1 : Rd w w.heap.size K1 nk1 ck1 lk1) (rk2 : Rd w w.heap.size K2 nk2 ck2 lk2) (rv1 : Rd w w.heap.size V1 nv1 cv1 lv1) (rv2 : Rd w w.heap.size V2 nv2 cv2 lv2) (hK : eqB lk1 lk2 = true) (hV : eqB lv1 lv2 = true) (hop : (op1 == op2) = true) (hqt : (qt1 == qt2) = true) (hfu : (fu1 == fu2) = true) (hbd : (bd1 == bd2) = false) :
    Calls Try.prog 48 #[(reqV op1 qt1 fu1 bd1 oq1 (.slice K1 nk1 ck1) (.slice V1 nv1 cv1) fl1 ex1 cs1 dl1 ni1), (reqV op2 qt2 fu2 bd2 oq2 (.slice K2 nk2 ck2) (.slice V2 nv2 cv2) fl2 ex2 cs2 dl2 ni2)] w (PSame false w) := by
  have k0 := (Blk.new w #[.int .i64 op1, .bool qt1, .bool fu1, .int .i64 bd1, .int .u32 (oq1 : Nat), .slice K1 nk1 ck1, .slice V1 nv1 cv1, .int .u32 (fl1 : Nat), .int .u32 (ex1 : Nat), .int .u64 (cs1 : Nat), .int .u64 (dl1 : Nat), .int .u64 (ni1 : Nat)] 26).alloc (.cells #[.int .i64 op2, .bool qt2, .bool fu2, .int .i64 bd2, .int .u32 (oq2 : Nat), .slice K2 nk2 ck2, .slice V2 nv2 cv2, .int .u32 (fl2 : Nat), .int .u32 (ex2 : Nat), .int .u64 (cs2 : Nat), .int .u64 (dl2 : Nat), .int .u64 (ni2 : Nat)] 26)
  have k1' := Blk.new (w.alloc (.cells #[.int .i64 op1, .bool qt1, .bool fu1, .int .i64 bd1, .int .u32 (oq1 : Nat), .slice K1 nk1 ck1, .slice V1 nv1 cv1, .int .u32 (fl1 : Nat), .int .u32 (ex1 : Nat), .int .u64 (cs1 : Nat), .int .u64 (dl1 : Nat), .int .u64 (ni1 : Nat)] 26)) #[.int .i64 op2, .bool qt2, .bool fu2, .int .i64 bd2, .int .u32 (oq2 : Nat), .slice K2 nk2 ck2, .slice V2 nv2 cv2, .int .u32 (fl2 : Nat), .int .u32 (ex2 : Nat), .int .u64 (cs2 : Nat), .int .u64 (dl2 : Nat), .int .u64 (ni2 : Nat)] 26
  have b : Below w.heap.size w ((w.alloc (.cells #[.int .i64 op1, .bool qt1, .bool fu1, .int .i64 bd1, .int .u32 (oq1 : Nat), .slice K1 nk1 ck1, .slice V1 nv1 cv1, .int .u32 (fl1 : Nat), .int .u32 (ex1 : Nat), .int .u64 (cs1 : Nat), .int .u64 (dl1 : Nat), .int .u64 (ni1 : Nat)] 26)).alloc (.cells #[.int .i64 op2, .bool qt2, .bool fu2, .int .i64 bd2, .int .u32 (oq2 : Nat), .slice K2 nk2 ck2, .slice V2 nv2 cv2, .int .u32 (fl2 : Nat), .int .u32 (ex2 : Nat), .int .u64 (cs2 : Nat), .int .u64 (dl2 : Nat), .int .u64 (ni2 : Nat)] 26)) := below_a1' (below_a1' (Below.refl _ _) _) _
  simp only [World.size_alloc] at k1'
  unfold reqV
  go_enter Try.func48, Try.ntmps48
  go_upto_region 1 with fail
  generalize (w.alloc (.cells #[.int .i64 op1, .bool qt1, .bool fu1, .int .i64 bd1, .int .u32 (oq1 : Nat), .slice K1 nk1 ck1, .slice V1 nv1 cv1, .int .u32 (fl1 : Nat), .int .u32 (ex1 : Nat), .int .u64 (cs1 : Nat), .int .u64 (dl1 : Nat), .int .u64 (ni1 : Nat)] 26)).alloc (.cells #[.int .i64 op2, .bool qt2, .bool fu2, .int .i64 bd2, .int .u32 (oq2 : Nat), .slice K2 nk2 ck2, .slice V2 nv2 cv2, .int .u32 (fl2 : Nat), .int .u32 (ex2 : Nat), .int .u64 (cs2 : Nat), .int .u64 (dl2 : Nat), .int .u64 (ni2 : Nat)] 26) = W0 at k0 k1' b ⊢
  obtain ⟨z0, z1, z2, z3, z4, z5, z6, z7, z8, z9, z10, z11⟩ := box12 k0
  obtain ⟨y0, y1, y2, y3, y4, y5, y6, y7, y8, y9, y10, y11⟩ := box12 k1'
  go_wp2_with fail
  refine (sequal_any K1 K2 nk1 ck1 nk2 ck2 w.heap.size lk1 lk2 _ (rk1.below b) (rk2.below b)).mono ?_
  rintro e w1 ⟨rfl, hq⟩
  have bq := quiet_self hq
  clear hq
  replace k0 := k0.step bq
  replace k1' := k1'.step bq
  replace b := below_step b bq
  clear bq z0 z1 z2 z3 z4 z5 z6 z7 z8 z9 z10 z11 y0 y1 y2 y3 y4 y5 y6 y7 y8 y9 y10 y11
  obtain ⟨z0, z1, z2, z3, z4, z5, z6, z7, z8, z9, z10, z11⟩ := box12 k0
  obtain ⟨y0, y1, y2, y3, y4, y5, y6, y7, y8, y9, y10, y11⟩ := box12 k1'
  rw [hK]
  go_wp2_with fail
  refine (sequal_any V1 V2 nv1 cv1 nv2 cv2 w.heap.size lv1 lv2 _ (rv1.below b) (rv2.below b)).mono ?_
  rintro e w2 ⟨rfl, hq⟩
  have bq := quiet_self hq
  clear hq
  replace k0 := k0.step bq
  replace k1' := k1'.step bq
  replace b := below_step b bq
  clear bq z0 z1 z2 z3 z4 z5 z6 z7 z8 z9 z10 z11 y0 y1 y2 y3 y4 y5 y6 y7 y8 y9 y10 y11
  obtain ⟨z0, z1, z2, z3, z4, z5, z6, z7, z8, z9, z10, z11⟩ := box12 k0
  obtain ⟨y0, y1, y2, y3, y4, y5, y6, y7, y8, y9, y10, y11⟩ := box12 k1'
  rw [hV]
  go_wp2_with fail
  go_ret
  exact ⟨rfl, b⟩
set_option maxRecDepth 100000 in
set_option maxHeartbeats 2000000 in
theorem qsame_6 (op1 op2 bd1 bd2 : Int) (qt1 qt2 fu1 fu2 : Bool) (oq1 oq2 fl1 fl2 ex1 ex2 cs1 cs2 dl1 dl2 ni1 ni2 : Nat) (K1 K2 V1 V2 : Option Addr) (nk1 ck1 nk2 ck2 nv1 cv1 nv2 cv2 : Nat) (lk1 lk2 lv1 lv2 : List UInt8) (w : World) (rk1 : Rd w w.heap.size K1 nk1 ck1 lk1) (rk2 : Rd w w.heap.size K2 nk2 ck2 lk2) (rv1 : Rd w w.heap.size V1 nv1 cv1 lv1) (rv2 : Rd w w.heap.size V2 nv2 cv2 lv2) (hK : eqB lk1 lk2 = true) (hV : eqB lv1 lv2 = true) (hop : (op1 == op2) = true) (hqt : (qt1 == qt2) = true) (hfu : (fu1 == fu2) = true) (hbd : (bd1 == bd2) = true) (hoq : ((oq1 : Int) == (oq2 : Int)) = false) :
    Calls Try.prog 48 #[(reqV op1 qt1 fu1 bd1 oq1 (.slice K1 nk1 ck1) (.slice V1 nv1 cv1) fl1 ex1 cs1 dl1 ni1), (reqV op2 qt2 fu2 bd2 oq2 (.slice K2 nk2 ck2) (.slice V2 nv2 cv2) fl2 ex2 cs2 dl2 ni2)] w (PSame false w) := by
  have k0 := (Blk.new w #[.int .i64 op1, .bool qt1, .bool fu1, .int .i64 bd1, .int .u32 (oq1 : Nat), .slice K1 nk1 ck1, .slice V1 nv1 cv1, .int .u32 (fl1 : Nat), .int .u32 (ex1 : Nat), .int .u64 (cs1 : Nat), .int .u64 (dl1 : Nat), .int .u64 (ni1 : Nat)] 26).alloc (.cells #[.int .i64 op2, .bool qt2, .bool fu2, .int .i64 bd2, .int .u32 (oq2 : Nat), .slice K2 nk2 ck2, .slice V2 nv2 cv2, .int .u32 (fl2 : Nat), .int .u32 (ex2 : Nat), .int .u64 (cs2 : Nat), .int .u64 (dl2 : Nat), .int .u64 (ni2 : Nat)] 26)
  have k1' := Blk.new (w.alloc (.cells #[.int .i64 op1, .bool qt1, .bool fu1, .int .i64 bd1, .int .u32 (oq1 : Nat), .slice K1 nk1 ck1, .slice V1 nv1 cv1, .int .u32 (fl1 : Nat), .int .u32 (ex1 : Nat), .int .u64 (cs1 : Nat), .int .u64 (dl1 : Nat), .int .u64 (ni1 : Nat)] 26)) #[.int .i64 op2, .bool qt2, .bool fu2, .int .i64 bd2, .int .u32 (oq2 : Nat), .slice K2 nk2 ck2, .slice V2 nv2 cv2, .int .u32 (fl2 : Nat), .int .u32 (ex2 : Nat), .int .u64 (cs2 : Nat), .int .u64 (dl2 : Nat), .int .u64 (ni2 : Nat)] 26
  have b : Below w.heap.size w ((w.alloc (.cells #[.int .i64 op1, .bool qt1, .bool fu1, .int .i64 bd1, .int .u32 (oq1 : Nat), .slice K1 nk1 ck1, .slice V1 nv1 cv1, .int .u32 (fl1 : Nat), .int .u32 (ex1 : Nat), .int .u64 (cs1 : Nat), .int .u64 (dl1 : Nat), .int .u64 (ni1 : Nat)] 26)).alloc (.cells #[.int .i64 op2, .bool qt2, .bool fu2, .int .i64 bd2, .int .u32 (oq2 : Nat), .slice K2 nk2 ck2, .slice V2 nv2 cv2, .int .u32 (fl2 : Nat), .int .u32 (ex2 : Nat), .int .u64 (cs2 : Nat), .int .u64 (dl2 : Nat), .int .u64 (ni2 : Nat)] 26)) := below_a1' (below_a1' (Below.refl _ _) _) _
  simp only [World.size_alloc] at k1'
  unfold reqV
  go_enter Try.func48, Try.ntmps48
  go_upto_region 1 with fail
  generalize (w.alloc (.cells #[.int .i64 op1, .bool qt1, .bool fu1, .int .i64 bd1, .int .u32 (oq1 : Nat), .slice K1 nk1 ck1, .slice V1 nv1 cv1, .int .u32 (fl1 : Nat), .int .u32 (ex1 : Nat), .int .u64 (cs1 : Nat), .int .u64 (dl1 : Nat), .int .u64 (ni1 : Nat)] 26)).alloc (.cells #[.int .i64 op2, .bool qt2, .bool fu2, .int .i64 bd2, .int .u32 (oq2 : Nat), .slice K2 nk2 ck2, .slice V2 nv2 cv2, .int .u32 (fl2 : Nat), .int .u32 (ex2 : Nat), .int .u64 (cs2 : Nat), .int .u64 (dl2 : Nat), .int .u64 (ni2 : Nat)] 26) = W0 at k0 k1' b ⊢
  obtain ⟨z0, z1, z2, z3, z4, z5, z6, z7, z8, z9, z10, z11⟩ := box12 k0
  obtain ⟨y0, y1, y2, y3, y4, y5, y6, y7, y8, y9, y10, y11⟩ := box12 k1'
  go_wp2_with fail
  refine (sequal_any K1 K2 nk1 ck1 nk2 ck2 w.heap.size lk1 lk2 _ (rk1.below b) (rk2.below b)).mono ?_
  rintro e w1 ⟨rfl, hq⟩
  have bq := quiet_self hq
  clear hq
  replace k0 := k0.step bq
  replace k1' := k1'.step bq
  replace b := below_step b bq
  clear bq z0 z1 z2 z3 z4 z5 z6 z7 z8 z9 z10 z11 y0 y1 y2 y3 y4 y5 y6 y7 y8 y9 y10 y11
  obtain ⟨z0, z1, z2, z3, z4, z5, z6, z7, z8, z9, z10, z11⟩ := box12 k0
  obtain ⟨y0, y1, y2, y3, y4, y5, y6, y7, y8, y9, y10, y11⟩ := box12 k1'
  rw [hK]
  go_wp2_with fail
  refine (sequal_any V1 V2 nv1 cv1 nv2 cv2 w.heap.size lv1 lv2 _ (rv1.below b) (rv2.below b)).mono ?_
  rintro e w2 ⟨rfl, hq⟩
  have bq := quiet_self hq
  clear hq
  replace k0 := k0.step bq
  replace k1' := k1'.step bq
  replace b := below_step b bq
  clear bq z0 z1 z2 z3 z4 z5 z6 z7 z8 z9 z10 z11 y0 y1 y2 y3 y4 y5 y6 y7 y8 y9 y10 y11
  obtain ⟨z0, z1, z2, z3, z4, z5, z6, z7, z8, z9, z10, z11⟩ := box12 k0
  obtain ⟨y0, y1, y2, y3, y4, y5, y6, y7, y8, y9, y10, y11⟩ := box12 k1'
  rw [hV]
  go_wp2_with fail
  go_ret
  exact ⟨rfl, b⟩
set_option maxRecDepth 100000 in
set_option maxHeartbeats 2000000 in
theorem qsame_7 (op1 op2 bd1 bd2 : Int) (qt1 qt2 fu1 fu2 : Bool) (oq1 oq2 fl1 fl2 ex1 ex2 cs1 cs2 dl1 dl2 ni1 ni2 : Nat) (K1 K2 V1 V2 : Option Addr) (nk1 ck1 nk2 ck2 nv1 cv1 nv2 cv2 : Nat) (lk1 lk2 lv1 lv2 : List UInt8) (w : World) (rk1 : Rd w w.heap.size K1 nk1 ck1 lk1) (rk2 : Rd w w.heap.size K2 nk2 ck2 lk2) (rv1 : Rd w w.heap.size V1 nv1 cv1 lv1) (rv2 : Rd w w.heap.size V2 nv2 cv2 lv2) (hK : eqB lk1 lk2 = true) (hV : eqB lv1 lv2 = true) (hop : (op1 == op2) = true) (hqt : (qt1 == qt2) = true) (hfu : (fu1 == fu2) = true) (hbd : (bd1 == bd2) = true) (hoq : ((oq1 : Int) == (oq2 : Int)) = true) (hfl : ((fl1 : Int) == (fl2 : Int)) = false) :
    Calls Try.prog 48 #[(reqV op1 qt1 fu1 bd1 oq1 (.slice K1 nk1 ck1) (.slice V1 nv1 cv1) fl1 ex1 cs1 dl1 ni1), (reqV op2 qt2 fu2 bd2 oq2 (.slice K2 nk2 ck2) (.slice V2 nv2 cv2) fl2 ex2 cs2 dl2 ni2)] w (PSame false w) := by
  have k0 := (Blk.new w #[.int .i64 op1, .bool qt1, .bool fu1, .int .i64 bd1, .int .u32 (oq1 : Nat), .slice K1 nk1 ck1, .slice V1 nv1 cv1, .int .u32 (fl1 : Nat), .int .u32 (ex1 : Nat), .int .u64 (cs1 : Nat), .int .u64 (dl1 : Nat), .int .u64 (ni1 : Nat)] 26).alloc (.cells #[.int .i64 op2, .bool qt2, .bool fu2, .int .i64 bd2, .int .u32 (oq2 : Nat), .slice K2 nk2 ck2, .slice V2 nv2 cv2, .int .u32 (fl2 : Nat), .int .u32 (ex2 : Nat), .int .u64 (cs2 : Nat), .int .u64 (dl2 : Nat), .int .u64 (ni2 : Nat)] 26)
  have k1' := Blk.new (w.alloc (.cells #[.int .i64 op1, .bool qt1, .bool fu1, .int .i64 bd1, .int .u32 (oq1 : Nat), .slice K1 nk1 ck1, .slice V1 nv1 cv1, .int .u32 (fl1 : Nat), .int .u32 (ex1 : Nat), .int .u64 (cs1 : Nat), .int .u64 (dl1 : Nat), .int .u64 (ni1 : Nat)] 26)) #[.int .i64 op2, .bool qt2, .bool fu2, .int .i64 bd2, .int .u32 (oq2 : Nat), .slice K2 nk2 ck2, .slice V2 nv2 cv2, .int .u32 (fl2 : Nat), .int .u32 (ex2 : Nat), .int .u64 (cs2 : Nat), .int .u64 (dl2 : Nat), .int .u64 (ni2 : Nat)] 26
  have b : Below w.heap.size w ((w.alloc (.cells #[.int .i64 op1, .bool qt1, .bool fu1, .int .i64 bd1, .int .u32 (oq1 : Nat), .slice K1 nk1 ck1, .slice V1 nv1 cv1, .int .u32 (fl1 : Nat), .int .u32 (ex1 : Nat), .int .u64 (cs1 : Nat), .int .u64 (dl1 : Nat), .int .u64 (ni1 : Nat)] 26)).alloc (.cells #[.int .i64 op2, .bool qt2, .bool fu2, .int .i64 bd2, .int .u32 (oq2 : Nat), .slice K2 nk2 ck2, .slice V2 nv2 cv2, .int .u32 (fl2 : Nat), .int .u32 (ex2 : Nat), .int .u64 (cs2 : Nat), .int .u64 (dl2 : Nat), .int .u64 (ni2 : Nat)] 26)) := below_a1' (below_a1' (Below.refl _ _) _) _
  simp only [World.size_alloc] at k1'
  unfold reqV
  go_enter Try.func48, Try.ntmps48
  go_upto_region 1 with fail
  generalize (w.alloc (.cells #[.int .i64 op1, .bool qt1, .bool fu1, .int .i64 bd1, .int .u32 (oq1 : Nat), .slice K1 nk1 ck1, .slice V1 nv1 cv1, .int .u32 (fl1 : Nat), .int .u32 (ex1 : Nat), .int .u64 (cs1 : Nat), .int .u64 (dl1 : Nat), .int .u64 (ni1 : Nat)] 26)).alloc (.cells #[.int .i64 op2, .bool qt2, .bool fu2, .int .i64 bd2, .int .u32 (oq2 : Nat), .slice K2 nk2 ck2, .slice V2 nv2 cv2, .int .u32 (fl2 : Nat), .int .u32 (ex2 : Nat), .int .u64 (cs2 : Nat), .int .u64 (dl2 : Nat), .int .u64 (ni2 : Nat)] 26) = W0 at k0 k1' b ⊢
  obtain ⟨z0, z1, z2, z3, z4, z5, z6, z7, z8, z9, z10, z11⟩ := box12 k0
  obtain ⟨y0, y1, y2, y3, y4, y5, y6, y7, y8, y9, y10, y11⟩ := box12 k1'
  go_wp2_with fail
  refine (sequal_any K1 K2 nk1 ck1 nk2 ck2 w.heap.size lk1 lk2 _ (rk1.below b) (rk2.below b)).mono ?_
  rintro e w1 ⟨rfl, hq⟩
  have bq := quiet_self hq
  clear hq
  replace k0 := k0.step bq
  replace k1' := k1'.step bq
  replace b := below_step b bq
  clear bq z0 z1 z2 z3 z4 z5 z6 z7 z8 z9 z10 z11 y0 y1 y2 y3 y4 y5 y6 y7 y8 y9 y10 y11
  obtain ⟨z0, z1, z2, z3, z4, z5, z6, z7, z8, z9, z10, z11⟩ := box12 k0
  obtain ⟨y0, y1, y2, y3, y4, y5, y6, y7, y8, y9, y10, y11⟩ := box12 k1'
  rw [hK]
  go_wp2_with fail
  refine (sequal_any V1 V2 nv1 cv1 nv2 cv2 w.heap.size lv1 lv2 _ (rv1.below b) (rv2.below b)).mono ?_
  rintro e w2 ⟨rfl, hq⟩
  have bq := quiet_self hq
  clear hq
  replace k0 := k0.step bq
  replace k1' := k1'.step bq
  replace b := below_step b bq
  clear bq z0 z1 z2 z3 z4 z5 z6 z7 z8 z9 z10 z11 y0 y1 y2 y3 y4 y5 y6 y7 y8 y9 y10 y11
  obtain ⟨z0, z1, z2, z3, z4, z5, z6, z7, z8, z9, z10, z11⟩ := box12 k0
  obtain ⟨y0, y1, y2, y3, y4, y5, y6, y7, y8, y9, y10, y11⟩ := box12 k1'
  rw [hV]
  go_wp2_with fail
  go_ret
  exact ⟨rfl, b⟩
set_option maxRecDepth 100000 in
set_option maxHeartbeats 2000000 in
theorem qsame_8 (op1 op2 bd1 bd2 : Int) (qt1 qt2 fu1 fu2 : Bool) (oq1 oq2 fl1 fl2 ex1 ex2 cs1 cs2 dl1 dl2 ni1 ni2 : Nat) (K1 K2 V1 V2 : Option Addr) (nk1 ck1 nk2 ck2 nv1 cv1 nv2 cv2 : Nat) (lk1 lk2 lv1 lv2 : List UInt8) (w : World) (rk1 : Rd w w.heap.size K1 nk1 ck1 lk1) (rk2 : Rd w w.heap.size K2 nk2 ck2 lk2) (rv1 : Rd w w.heap.size V1 nv1 cv1 lv1) (rv2 : Rd w w.heap.size V2 nv2 cv2 lv2) (hK : eqB lk1 lk2 = true) (hV : eqB lv1 lv2 = true) (hop : (op1 == op2) = true) (hqt : (qt1 == qt2) = true) (hfu : (fu1 == fu2) = true) (hbd : (bd1 == bd2) = true) (hoq : ((oq1 : Int) == (oq2 : Int)) = true) (hfl : ((fl1 : Int) == (fl2 : Int)) = true) (hex : ((ex1 : Int) == (ex2 : Int)) = false) :
    Calls Try.prog 48 #[(reqV op1 qt1 fu1 bd1 oq1 (.slice K1 nk1 ck1) (.slice V1 nv1 cv1) fl1 ex1 cs1 dl1 ni1), (reqV op2 qt2 fu2 bd2 oq2 (.slice K2 nk2 ck2) (.slice V2 nv2 cv2) fl2 ex2 cs2 dl2 ni2)] w (PSame false w) := by
  have k0 := (Blk.new w #[.int .i64 op1, .bool qt1, .bool fu1, .int .i64 bd1, .int .u32 (oq1 : Nat), .slice K1 nk1 ck1, .slice V1 nv1 cv1, .int .u32 (fl1 : Nat), .int .u32 (ex1 : Nat), .int .u64 (cs1 : Nat), .int .u64 (dl1 : Nat), .int .u64 (ni1 : Nat)] 26).alloc (.cells #[.int .i64 op2, .bool qt2, .bool fu2, .int .i64 bd2, .int .u32 (oq2 : Nat), .slice K2 nk2 ck2, .slice V2 nv2 cv2, .int .u32 (fl2 : Nat), .int .u32 (ex2 : Nat), .int .u64 (cs2 : Nat), .int .u64 (dl2 : Nat), .int .u64 (ni2 : Nat)] 26)
  have k1' := Blk.new (w.alloc (.cells #[.int .i64 op1, .bool qt1, .bool fu1, .int .i64 bd1, .int .u32 (oq1 : Nat), .slice K1 nk1 ck1, .slice V1 nv1 cv1, .int .u32 (fl1 : Nat), .int .u32 (ex1 : Nat), .int .u64 (cs1 : Nat), .int .u64 (dl1 : Nat), .int .u64 (ni1 : Nat)] 26)) #[.int .i64 op2, .bool qt2, .bool fu2, .int .i64 bd2, .int .u32 (oq2 : Nat), .slice K2 nk2 ck2, .slice V2 nv2 cv2, .int .u32 (fl2 : Nat), .int .u32 (ex2 : Nat), .int .u64 (cs2 : Nat), .int .u64 (dl2 : Nat), .int .u64 (ni2 : Nat)] 26
  have b : Below w.heap.size w ((w.alloc (.cells #[.int .i64 op1, .bool qt1, .bool fu1, .int .i64 bd1, .int .u32 (oq1 : Nat), .slice K1 nk1 ck1, .slice V1 nv1 cv1, .int .u32 (fl1 : Nat), .int .u32 (ex1 : Nat), .int .u64 (cs1 : Nat), .int .u64 (dl1 : Nat), .int .u64 (ni1 : Nat)] 26)).alloc (.cells #[.int .i64 op2, .bool qt2, .bool fu2, .int .i64 bd2, .int .u32 (oq2 : Nat), .slice K2 nk2 ck2, .slice V2 nv2 cv2, .int .u32 (fl2 : Nat), .int .u32 (ex2 : Nat), .int .u64 (cs2 : Nat), .int .u64 (dl2 : Nat), .int .u64 (ni2 : Nat)] 26)) := below_a1' (below_a1' (Below.refl _ _) _) _
  simp only [World.size_alloc] at k1'
  unfold reqV
  go_enter Try.func48, Try.ntmps48
  go_upto_region 1 with fail
  generalize (w.alloc (.cells #[.int .i64 op1, .bool qt1, .bool fu1, .int .i64 bd1, .int .u32 (oq1 : Nat), .slice K1 nk1 ck1, .slice V1 nv1 cv1, .int .u32 (fl1 : Nat), .int .u32 (ex1 : Nat), .int .u64 (cs1 : Nat), .int .u64 (dl1 : Nat), .int .u64 (ni1 : Nat)] 26)).alloc (.cells #[.int .i64 op2, .bool qt2, .bool fu2, .int .i64 bd2, .int .u32 (oq2 : Nat), .slice K2 nk2 ck2, .slice V2 nv2 cv2, .int .u32 (fl2 : Nat), .int .u32 (ex2 : Nat), .int .u64 (cs2 : Nat), .int .u64 (dl2 : Nat), .int .u64 (ni2 : Nat)] 26) = W0 at k0 k1' b ⊢
  obtain ⟨z0, z1, z2, z3, z4, z5, z6, z7, z8, z9, z10, z11⟩ := box12 k0
  obtain ⟨y0, y1, y2, y3, y4, y5, y6, y7, y8, y9, y10, y11⟩ := box12 k1'
  go_wp2_with fail
  refine (sequal_any K1 K2 nk1 ck1 nk2 ck2 w.heap.size lk1 lk2 _ (rk1.below b) (rk2.below b)).mono ?_
  rintro e w1 ⟨rfl, hq⟩
  have bq := quiet_self hq
  clear hq
  replace k0 := k0.step bq
  replace k1' := k1'.step bq
  replace b := below_step b bq
  clear bq z0 z1 z2 z3 z4 z5 z6 z7 z8 z9 z10 z11 y0 y1 y2 y3 y4 y5 y6 y7 y8 y9 y10 y11
  obtain ⟨z0, z1, z2, z3, z4, z5, z6, z7, z8, z9, z10, z11⟩ := box12 k0
  obtain ⟨y0, y1, y2, y3, y4, y5, y6, y7, y8, y9, y10, y11⟩ := box12 k1'
  rw [hK]
  go_wp2_with fail
  refine (sequal_any V1 V2 nv1 cv1 nv2 cv2 w.heap.size lv1 lv2 _ (rv1.below b) (rv2.below b)).mono ?_
  rintro e w2 ⟨rfl, hq⟩
  have bq := quiet_self hq
  clear hq
  replace k0 := k0.step bq
  replace k1' := k1'.step bq
  replace b := below_step b bq
  clear bq z0 z1 z2 z3 z4 z5 z6 z7 z8 z9 z10 z11 y0 y1 y2 y3 y4 y5 y6 y7 y8 y9 y10 y11
  obtain ⟨z0, z1, z2, z3, z4, z5, z6, z7, z8, z9, z10, z11⟩ := box12 k0
  obtain ⟨y0, y1, y2, y3, y4, y5, y6, y7, y8, y9, y10, y11⟩ := box12 k1'
  rw [hV]
  go_wp2_with fail
  go_ret
  exact ⟨rfl, b⟩
set_option maxRecDepth 100000 in
set_option maxHeartbeats 2000000 in
theorem qsame_9 (op1 op2 bd1 bd2 : Int) (qt1 qt2 fu1 fu2 : Bool) (oq1 oq2 fl1 fl2 ex1 ex2 cs1 cs2 dl1 dl2 ni1 ni2 : Nat) (K1 K2 V1 V2 : Option Addr) (nk1 ck1 nk2 ck2 nv1 cv1 nv2 cv2 : Nat) (lk1 lk2 lv1 lv2 : List UInt8) (w : World) (rk1 : Rd w w.heap.size K1 nk1 ck1 lk1) (rk2 : Rd w w.heap.size K2 nk2 ck2 lk2) (rv1 : Rd w w.heap.size V1 nv1 cv1 lv1) (rv2 : Rd w w.heap.size V2 nv2 cv2 lv2) (hK : eqB lk1 lk2 = true) (hV : eqB lv1 lv2 = true) (hop : (op1 == op2) = true) (hqt : (qt1 == qt2) = true) (hfu : (fu1 == fu2) = true) (hbd : (bd1 == bd2) = true) (hoq : ((oq1 : Int) == (oq2 : Int)) = true) (hfl : ((fl1 : Int) == (fl2 : Int)) = true) (hex : ((ex1 : Int) == (ex2 : Int)) = true) (hcs : ((cs1 : Int) == (cs2 : Int)) = false) :
    Calls Try.prog 48 #[(reqV op1 qt1 fu1 bd1 oq1 (.slice K1 nk1 ck1) (.slice V1 nv1 cv1) fl1 ex1 cs1 dl1 ni1), (reqV op2 qt2 fu2 bd2 oq2 (.slice K2 nk2 ck2) (.slice V2 nv2 cv2) fl2 ex2 cs2 dl2 ni2)] w (PSame false w) := by
  have k0 := (Blk.new w #[.int .i64 op1, .bool qt1, .bool fu1, .int .i64 bd1, .int .u32 (oq1 : Nat), .slice K1 nk1 ck1, .slice V1 nv1 cv1, .int .u32 (fl1 : Nat), .int .u32 (ex1 : Nat), .int .u64 (cs1 : Nat), .int .u64 (dl1 : Nat), .int .u64 (ni1 : Nat)] 26).alloc (.cells #[.int .i64 op2, .bool qt2, .bool fu2, .int .i64 bd2, .int .u32 (oq2 : Nat), .slice K2 nk2 ck2, .slice V2 nv2 cv2, .int .u32 (fl2 : Nat), .int .u32 (ex2 : Nat), .int .u64 (cs2 : Nat), .int .u64 (dl2 : Nat), .int .u64 (ni2 : Nat)] 26)
  have k1' := Blk.new (w.alloc (.cells #[.int .i64 op1, .bool qt1, .bool fu1, .int .i64 bd1, .int .u32 (oq1 : Nat), .slice K1 nk1 ck1, .slice V1 nv1 cv1, .int .u32 (fl1 : Nat), .int .u32 (ex1 : Nat), .int .u64 (cs1 : Nat), .int .u64 (dl1 : Nat), .int .u64 (ni1 : Nat)] 26)) #[.int .i64 op2, .bool qt2, .bool fu2, .int .i64 bd2, .int .u32 (oq2 : Nat), .slice K2 nk2 ck2, .slice V2 nv2 cv2, .int .u32 (fl2 : Nat), .int .u32 (ex2 : Nat), .int .u64 (cs2 : Nat), .int .u64 (dl2 : Nat), .int .u64 (ni2 : Nat)] 26
  have b : Below w.heap.size w ((w.alloc (.cells #[.int .i64 op1, .bool qt1, .bool fu1, .int .i64 bd1, .int .u32 (oq1 : Nat), .slice K1 nk1 ck1, .slice V1 nv1 cv1, .int .u32 (fl1 : Nat), .int .u32 (ex1 : Nat), .int .u64 (cs1 : Nat), .int .u64 (dl1 : Nat), .int .u64 (ni1 : Nat)] 26)).alloc (.cells #[.int .i64 op2, .bool qt2, .bool fu2, .int .i64 bd2, .int .u32 (oq2 : Nat), .slice K2 nk2 ck2, .slice V2 nv2 cv2, .int .u32 (fl2 : Nat), .int .u32 (ex2 : Nat), .int .u64 (cs2 : Nat), .int .u64 (dl2 : Nat), .int .u64 (ni2 : Nat)] 26)) := below_a1' (below_a1' (Below.refl _ _) _) _
  simp only [World.size_alloc] at k1'
  unfold reqV
  go_enter Try.func48, Try.ntmps48
  go_upto_region 1 with fail
  generalize (w.alloc (.cells #[.int .i64 op1, .bool qt1, .bool fu1, .int .i64 bd1, .int .u32 (oq1 : Nat), .slice K1 nk1 ck1, .slice V1 nv1 cv1, .int .u32 (fl1 : Nat), .int .u32 (ex1 : Nat), .int .u64 (cs1 : Nat), .int .u64 (dl1 : Nat), .int .u64 (ni1 : Nat)] 26)).alloc (.cells #[.int .i64 op2, .bool qt2, .bool fu2, .int .i64 bd2, .int .u32 (oq2 : Nat), .slice K2 nk2 ck2, .slice V2 nv2 cv2, .int .u32 (fl2 : Nat), .int .u32 (ex2 : Nat), .int .u64 (cs2 : Nat), .int .u64 (dl2 : Nat), .int .u64 (ni2 : Nat)] 26) = W0 at k0 k1' b ⊢
  obtain ⟨z0, z1, z2, z3, z4, z5, z6, z7, z8, z9, z10, z11⟩ := box12 k0
  obtain ⟨y0, y1, y2, y3, y4, y5, y6, y7, y8, y9, y10, y11⟩ := box12 k1'
  go_wp2_with fail
  refine (sequal_any K1 K2 nk1 ck1 nk2 ck2 w.heap.size lk1 lk2 _ (rk1.below b) (rk2.below b)).mono ?_
  rintro e w1 ⟨rfl, hq⟩
  have bq := quiet_self hq
  clear hq
  replace k0 := k0.step bq
  replace k1' := k1'.step bq
  replace b := below_step b bq
  clear bq z0 z1 z2 z3 z4 z5 z6 z7 z8 z9 z10 z11 y0 y1 y2 y3 y4 y5 y6 y7 y8 y9 y10 y11
  obtain ⟨z0, z1, z2, z3, z4, z5, z6, z7, z8, z9, z10, z11⟩ := box12 k0
  obtain ⟨y0, y1, y2, y3, y4, y5, y6, y7, y8, y9, y10, y11⟩ := box12 k1'
  rw [hK]
  go_wp2_with fail
  refine (sequal_any V1 V2 nv1 cv1 nv2 cv2 w.heap.size lv1 lv2 _ (rv1.below b) (rv2.below b)).mono ?_
  rintro e w2 ⟨rfl, hq⟩
  have bq := quiet_self hq
  clear hq
  replace k0 := k0.step bq
  replace k1' := k1'.step bq
  replace b := below_step b bq
  clear bq z0 z1 z2 z3 z4 z5 z6 z7 z8 z9 z10 z11 y0 y1 y2 y3 y4 y5 y6 y7 y8 y9 y10 y11
  obtain ⟨z0, z1, z2, z3, z4, z5, z6, z7, z8, z9, z10, z11⟩ := box12 k0
  obtain ⟨y0, y1, y2, y3, y4, y5, y6, y7, y8, y9, y10, y11⟩ := box12 k1'
  rw [hV]
  go_wp2_with fail
  go_ret
  exact ⟨rfl, b⟩
set_option maxRecDepth 100000 in
set_option maxHeartbeats 2000000 in
theorem qsame_10 (op1 op2 bd1 bd2 : Int) (qt1 qt2 fu1 fu2 : Bool) (oq1 oq2 fl1 fl2 ex1 ex2 cs1 cs2 dl1 dl2 ni1 ni2 : Nat) (K1 K2 V1 V2 : Option Addr) (nk1 ck1 nk2 ck2 nv1 cv1 nv2 cv2 : Nat) (lk1 lk2 lv1 lv2 : List UInt8) (w : World) (rk1 : Rd w w.heap.size K1 nk1 ck1 lk1) (rk2 : Rd w w.heap.size K2 nk2 ck2 lk2) (rv1 : Rd w w.heap.size V1 nv1 cv1 lv1) (rv2 : Rd w w.heap.size V2 nv2 cv2 lv2) (hK : eqB lk1 lk2 = true) (hV : eqB lv1 lv2 = true) (hop : (op1 == op2) = true) (hqt : (qt1 == qt2) = true) (hfu : (fu1 == fu2) = true) (hbd : (bd1 == bd2) = true) (hoq : ((oq1 : Int) == (oq2 : Int)) = true) (hfl : ((fl1 : Int) == (fl2 : Int)) = true) (hex : ((ex1 : Int) == (ex2 : Int)) = true) (hcs : ((cs1 : Int) == (cs2 : Int)) = true) (hdl : ((dl1 : Int) == (dl2 : Int)) = false) :
    Calls Try.prog 48 #[(reqV op1 qt1 fu1 bd1 oq1 (.slice K1 nk1 ck1) (.slice V1 nv1 cv1) fl1 ex1 cs1 dl1 ni1), (reqV op2 qt2 fu2 bd2 oq2 (.slice K2 nk2 ck2) (.slice V2 nv2 cv2) fl2 ex2 cs2 dl2 ni2)] w (PSame false w) := by
  have k0 := (Blk.new w #[.int .i64 op1, .bool qt1, .bool fu1, .int .i64 bd1, .int .u32 (oq1 : Nat), .slice K1 nk1 ck1, .slice V1 nv1 cv1, .int .u32 (fl1 : Nat), .int .u32 (ex1 : Nat), .int .u64 (cs1 : Nat), .int .u64 (dl1 : Nat), .int .u64 (ni1 : Nat)] 26).alloc (.cells #[.int .i64 op2, .bool qt2, .bool fu2, .int .i64 bd2, .int .u32 (oq2 : Nat), .slice K2 nk2 ck2, .slice V2 nv2 cv2, .int .u32 (fl2 : Nat), .int .u32 (ex2 : Nat), .int .u64 (cs2 : Nat), .int .u64 (dl2 : Nat), .int .u64 (ni2 : Nat)] 26)
  have k1' := Blk.new (w.alloc (.cells #[.int .i64 op1, .bool qt1, .bool fu1, .int .i64 bd1, .int .u32 (oq1 : Nat), .slice K1 nk1 ck1, .slice V1 nv1 cv1, .int .u32 (fl1 : Nat), .int .u32 (ex1 : Nat), .int .u64 (cs1 : Nat), .int .u64 (dl1 : Nat), .int .u64 (ni1 : Nat)] 26)) #[.int .i64 op2, .bool qt2, .bool fu2, .int .i64 bd2, .int .u32 (oq2 : Nat), .slice K2 nk2 ck2, .slice V2 nv2 cv2, .int .u32 (fl2 : Nat), .int .u32 (ex2 : Nat), .int .u64 (cs2 : Nat), .int .u64 (dl2 : Nat), .int .u64 (ni2 : Nat)] 26
  have b : Below w.heap.size w ((w.alloc (.cells #[.int .i64 op1, .bool qt1, .bool fu1, .int .i64 bd1, .int .u32 (oq1 : Nat), .slice K1 nk1 ck1, .slice V1 nv1 cv1, .int .u32 (fl1 : Nat), .int .u32 (ex1 : Nat), .int .u64 (cs1 : Nat), .int .u64 (dl1 : Nat), .int .u64 (ni1 : Nat)] 26)).alloc (.cells #[.int .i64 op2, .bool qt2, .bool fu2, .int .i64 bd2, .int .u32 (oq2 : Nat), .slice K2 nk2 ck2, .slice V2 nv2 cv2, .int .u32 (fl2 : Nat), .int .u32 (ex2 : Nat), .int .u64 (cs2 : Nat), .int .u64 (dl2 : Nat), .int .u64 (ni2 : Nat)] 26)) := below_a1' (below_a1' (Below.refl _ _) _) _
  simp only [World.size_alloc] at k1'
  unfold reqV
  go_enter Try.func48, Try.ntmps48
  go_upto_region 1 with fail
  generalize (w.alloc (.cells #[.int .i64 op1, .bool qt1, .bool fu1, .int .i64 bd1, .int .u32 (oq1 : Nat), .slice K1 nk1 ck1, .slice V1 nv1 cv1, .int .u32 (fl1 : Nat), .int .u32 (ex1 : Nat), .int .u64 (cs1 : Nat), .int .u64 (dl1 : Nat), .int .u64 (ni1 : Nat)] 26)).alloc (.cells #[.int .i64 op2, .bool qt2, .bool fu2, .int .i64 bd2, .int .u32 (oq2 : Nat), .slice K2 nk2 ck2, .slice V2 nv2 cv2, .int .u32 (fl2 : Nat), .int .u32 (ex2 : Nat), .int .u64 (cs2 : Nat), .int .u64 (dl2 : Nat), .int .u64 (ni2 : Nat)] 26) = W0 at k0 k1' b ⊢
  obtain ⟨z0, z1, z2, z3, z4, z5, z6, z7, z8, z9, z10, z11⟩ := box12 k0
  obtain ⟨y0, y1, y2, y3, y4, y5, y6, y7, y8, y9, y10, y11⟩ := box12 k1'
  go_wp2_with fail
  refine (sequal_any K1 K2 nk1 ck1 nk2 ck2 w.heap.size lk1 lk2 _ (rk1.below b) (rk2.below b)).mono ?_
  rintro e w1 ⟨rfl, hq⟩
  have bq := quiet_self hq
  clear hq
  replace k0 := k0.step bq
  replace k1' := k1'.step bq
  replace b := below_step b bq
  clear bq z0 z1 z2 z3 z4 z5 z6 z7 z8 z9 z10 z11 y0 y1 y2 y3 y4 y5 y6 y7 y8 y9 y10 y11
  obtain ⟨z0, z1, z2, z3, z4, z5, z6, z7, z8, z9, z10, z11⟩ := box12 k0
  obtain ⟨y0, y1, y2, y3, y4, y5, y6, y7, y8, y9, y10, y11⟩ := box12 k1'
  rw [hK]
  go_wp2_with fail
  refine (sequal_any V1 V2 nv1 cv1 nv2 cv2 w.heap.size lv1 lv2 _ (rv1.below b) (rv2.below b)).mono ?_
  rintro e w2 ⟨rfl, hq⟩
  have bq := quiet_self hq
  clear hq
  replace k0 := k0.step bq
  replace k1' := k1'.step bq
  replace b := below_step b bq
  clear bq z0 z1 z2 z3 z4 z5 z6 z7 z8 z9 z10 z11 y0 y1 y2 y3 y4 y5 y6 y7 y8 y9 y10 y11
  obtain ⟨z0, z1, z2, z3, z4, z5, z6, z7, z8, z9, z10, z11⟩ := box12 k0
  obtain ⟨y0, y1, y2, y3, y4, y5, y6, y7, y8, y9, y10, y11⟩ := box12 k1'
  rw [hV]
  go_wp2_with fail
  go_ret
  exact ⟨rfl, b⟩
set_option maxRecDepth 100000 in
set_option maxHeartbeats 2000000 in
theorem qsame_11 (op1 op2 bd1 bd2 : Int) (qt1 qt2 fu1 fu2 : Bool) (oq1 oq2 fl1 fl2 ex1 ex2 cs1 cs2 dl1 dl2 ni1 ni2 : Nat) (K1 K2 V1 V2 : Option Addr) (nk1 ck1 nk2 ck2 nv1 cv1 nv2 cv2 : Nat) (lk1 lk2 lv1 lv2 : List UInt8) (w : World) (rk1 : Rd w w.heap.size K1 nk1 ck1 lk1) (rk2 : Rd w w.heap.size K2 nk2 ck2 lk2) (rv1 : Rd w w.heap.size V1 nv1 cv1 lv1) (rv2 : Rd w w.heap.size V2 nv2 cv2 lv2) (hK : eqB lk1 lk2 = true) (hV : eqB lv1 lv2 = true) (hop : (op1 == op2) = true) (hqt : (qt1 == qt2) = true) (hfu : (fu1 == fu2) = true) (hbd : (bd1 == bd2) = true) (hoq : ((oq1 : Int) == (oq2 : Int)) = true) (hfl : ((fl1 : Int) == (fl2 : Int)) = true) (hex : ((ex1 : Int) == (ex2 : Int)) = true) (hcs : ((cs1 : Int) == (cs2 : Int)) = true) (hdl : ((dl1 : Int) == (dl2 : Int)) = true) (hni : ((ni1 : Int) == (ni2 : Int)) = false) :
    Calls Try.prog 48 #[(reqV op1 qt1 fu1 bd1 oq1 (.slice K1 nk1 ck1) (.slice V1 nv1 cv1) fl1 ex1 cs1 dl1 ni1), (reqV op2 qt2 fu2 bd2 oq2 (.slice K2 nk2 ck2) (.slice V2 nv2 cv2) fl2 ex2 cs2 dl2 ni2)] w (PSame false w) := by
  have k0 := (Blk.new w #[.int .i64 op1, .bool qt1, .bool fu1, .int .i64 bd1, .int .u32 (oq1 : Nat), .slice K1 nk1 ck1, .slice V1 nv1 cv1, .int .u32 (fl1 : Nat), .int .u32 (ex1 : Nat), .int .u64 (cs1 : Nat), .int .u64 (dl1 : Nat), .int .u64 (ni1 : Nat)] 26).alloc (.cells #[.int .i64 op2, .bool qt2, .bool fu2, .int .i64 bd2, .int .u32 (oq2 : Nat), .slice K2 nk2 ck2, .slice V2 nv2 cv2, .int .u32 (fl2 : Nat), .int .u32 (ex2 : Nat), .int .u64 (cs2 : Nat), .int .u64 (dl2 : Nat), .int .u64 (ni2 : Nat)] 26)
  have k1' := Blk.new (w.alloc (.cells #[.int .i64 op1, .bool qt1, .bool fu1, .int .i64 bd1, .int .u32 (oq1 : Nat), .slice K1 nk1 ck1, .slice V1 nv1 cv1, .int .u32 (fl1 : Nat), .int .u32 (ex1 : Nat), .int .u64 (cs1 : Nat), .int .u64 (dl1 : Nat), .int .u64 (ni1 : Nat)] 26)) #[.int .i64 op2, .bool qt2, .bool fu2, .int .i64 bd2, .int .u32 (oq2 : Nat), .slice K2 nk2 ck2, .slice V2 nv2 cv2, .int .u32 (fl2 : Nat), .int .u32 (ex2 : Nat), .int .u64 (cs2 : Nat), .int .u64 (dl2 : Nat), .int .u64 (ni2 : Nat)] 26
  have b : Below w.heap.size w ((w.alloc (.cells #[.int .i64 op1, .bool qt1, .bool fu1, .int .i64 bd1, .int .u32 (oq1 : Nat), .slice K1 nk1 ck1, .slice V1 nv1 cv1, .int .u32 (fl1 : Nat), .int .u32 (ex1 : Nat), .int .u64 (cs1 : Nat), .int .u64 (dl1 : Nat), .int .u64 (ni1 : Nat)] 26)).alloc (.cells #[.int .i64 op2, .bool qt2, .bool fu2, .int .i64 bd2, .int .u32 (oq2 : Nat), .slice K2 nk2 ck2, .slice V2 nv2 cv2, .int .u32 (fl2 : Nat), .int .u32 (ex2 : Nat), .int .u64 (cs2 : Nat), .int .u64 (dl2 : Nat), .int .u64 (ni2 : Nat)] 26)) := below_a1' (below_a1' (Below.refl _ _) _) _
  simp only [World.size_alloc] at k1'
  unfold reqV
  go_enter Try.func48, Try.ntmps48
  go_upto_region 1 with fail
  generalize (w.alloc (.cells #[.int .i64 op1, .bool qt1, .bool fu1, .int .i64 bd1, .int .u32 (oq1 : Nat), .slice K1 nk1 ck1, .slice V1 nv1 cv1, .int .u32 (fl1 : Nat), .int .u32 (ex1 : Nat), .int .u64 (cs1 : Nat), .int .u64 (dl1 : Nat), .int .u64 (ni1 : Nat)] 26)).alloc (.cells #[.int .i64 op2, .bool qt2, .bool fu2, .int .i64 bd2, .int .u32 (oq2 : Nat), .slice K2 nk2 ck2, .slice V2 nv2 cv2, .int .u32 (fl2 : Nat), .int .u32 (ex2 : Nat), .int .u64 (cs2 : Nat), .int .u64 (dl2 : Nat), .int .u64 (ni2 : Nat)] 26) = W0 at k0 k1' b ⊢
  obtain ⟨z0, z1, z2, z3, z4, z5, z6, z7, z8, z9, z10, z11⟩ := box12 k0
  obtain ⟨y0, y1, y2, y3, y4, y5, y6, y7, y8, y9, y10, y11⟩ := box12 k1'
  go_wp2_with fail
  refine (sequal_any K1 K2 nk1 ck1 nk2 ck2 w.heap.size lk1 lk2 _ (rk1.below b) (rk2.below b)).mono ?_
  rintro e w1 ⟨rfl, hq⟩
  have bq := quiet_self hq
  clear hq
  replace k0 := k0.step bq
  replace k1' := k1'.step bq
  replace b := below_step b bq
  clear bq z0 z1 z2 z3 z4 z5 z6 z7 z8 z9 z10 z11 y0 y1 y2 y3 y4 y5 y6 y7 y8 y9 y10 y11
  obtain ⟨z0, z1, z2, z3, z4, z5, z6, z7, z8, z9, z10, z11⟩ := box12 k0
  obtain ⟨y0, y1, y2, y3, y4, y5, y6, y7, y8, y9, y10, y11⟩ := box12 k1'
  rw [hK]
  go_wp2_with fail
  refine (sequal_any V1 V2 nv1 cv1 nv2 cv2 w.heap.size lv1 lv2 _ (rv1.below b) (rv2.below b)).mono ?_
  rintro e w2 ⟨rfl, hq⟩
  have bq := quiet_self hq
  clear hq
  replace k0 := k0.step bq
  replace k1' := k1'.step bq
  replace b := below_step b bq
  clear bq z0 z1 z2 z3 z4 z5 z6 z7 z8 z9 z10 z11 y0 y1 y2 y3 y4 y5 y6 y7 y8 y9 y10 y11
  obtain ⟨z0, z1, z2, z3, z4, z5, z6, z7, z8, z9, z10, z11⟩ := box12 k0
  obtain ⟨y0, y1, y2, y3, y4, y5, y6, y7, y8, y9, y10, y11⟩ := box12 k1'
  rw [hV]
  go_wp2_with fail
  go_ret
  exact ⟨rfl, b⟩
set_option maxRecDepth 100000 in
set_option maxHeartbeats 2000000 in
theorem qsame_12 (op1 op2 bd1 bd2 : Int) (qt1 qt2 fu1 fu2 : Bool) (oq1 oq2 fl1 fl2 ex1 ex2 cs1 cs2 dl1 dl2 ni1 ni2 : Nat) (K1 K2 V1 V2 : Option Addr) (nk1 ck1 nk2 ck2 nv1 cv1 nv2 cv2 : Nat) (lk1 lk2 lv1 lv2 : List UInt8) (w : World) (rk1 : Rd w w.heap.size K1 nk1 ck1 lk1) (rk2 : Rd w w.heap.size K2 nk2 ck2 lk2) (rv1 : Rd w w.heap.size V1 nv1 cv1 lv1) (rv2 : Rd w w.heap.size V2 nv2 cv2 lv2) (hK : eqB lk1 lk2 = true) (hV : eqB lv1 lv2 = true) (hop : (op1 == op2) = true) (hqt : (qt1 == qt2) = true) (hfu : (fu1 == fu2) = true) (hbd : (bd1 == bd2) = true) (hoq : ((oq1 : Int) == (oq2 : Int)) = true) (hfl : ((fl1 : Int) == (fl2 : Int)) = true) (hex : ((ex1 : Int) == (ex2 : Int)) = true) (hcs : ((cs1 : Int) == (cs2 : Int)) = true) (hdl : ((dl1 : Int) == (dl2 : Int)) = true) (hni : ((ni1 : Int) == (ni2 : Int)) = true) :
    Calls Try.prog 48 #[(reqV op1 qt1 fu1 bd1 oq1 (.slice K1 nk1 ck1) (.slice V1 nv1 cv1) fl1 ex1 cs1 dl1 ni1), (reqV op2 qt2 fu2 bd2 oq2 (.slice K2 nk2 ck2) (.slice V2 nv2 cv2) fl2 ex2 cs2 dl2 ni2)] w (PSame true w) := by
  have k0 := (Blk.new w #[.int .i64 op1, .bool qt1, .bool fu1, .int .i64 bd1, .int .u32 (oq1 : Nat), .slice K1 nk1 ck1, .slice V1 nv1 cv1, .int .u32 (fl1 : Nat), .int .u32 (ex1 : Nat), .int .u64 (cs1 : Nat), .int .u64 (dl1 : Nat), .int .u64 (ni1 : Nat)] 26).alloc (.cells #[.int .i64 op2, .bool qt2, .bool fu2, .int .i64 bd2, .int .u32 (oq2 : Nat), .slice K2 nk2 ck2, .slice V2 nv2 cv2, .int .u32 (fl2 : Nat), .int .u32 (ex2 : Nat), .int .u64 (cs2 : Nat), .int .u64 (dl2 : Nat), .int .u64 (ni2 : Nat)] 26)
  have k1' := Blk.new (w.alloc (.cells #[.int .i64 op1, .bool qt1, .bool fu1, .int .i64 bd1, .int .u32 (oq1 : Nat), .slice K1 nk1 ck1, .slice V1 nv1 cv1, .int .u32 (fl1 : Nat), .int .u32 (ex1 : Nat), .int .u64 (cs1 : Nat), .int .u64 (dl1 : Nat), .int .u64 (ni1 : Nat)] 26)) #[.int .i64 op2, .bool qt2, .bool fu2, .int .i64 bd2, .int .u32 (oq2 : Nat), .slice K2 nk2 ck2, .slice V2 nv2 cv2, .int .u32 (fl2 : Nat), .int .u32 (ex2 : Nat), .int .u64 (cs2 : Nat), .int .u64 (dl2 : Nat), .int .u64 (ni2 : Nat)] 26
  have b : Below w.heap.size w ((w.alloc (.cells #[.int .i64 op1, .bool qt1, .bool fu1, .int .i64 bd1, .int .u32 (oq1 : Nat), .slice K1 nk1 ck1, .slice V1 nv1 cv1, .int .u32 (fl1 : Nat), .int .u32 (ex1 : Nat), .int .u64 (cs1 : Nat), .int .u64 (dl1 : Nat), .int .u64 (ni1 : Nat)] 26)).alloc (.cells #[.int .i64 op2, .bool qt2, .bool fu2, .int .i64 bd2, .int .u32 (oq2 : Nat), .slice K2 nk2 ck2, .slice V2 nv2 cv2, .int .u32 (fl2 : Nat), .int .u32 (ex2 : Nat), .int .u64 (cs2 : Nat), .int .u64 (dl2 : Nat), .int .u64 (ni2 : Nat)] 26)) := below_a1' (below_a1' (Below.refl _ _) _) _
  simp only [World.size_alloc] at k1'
  unfold reqV
  go_enter Try.func48, Try.ntmps48
  go_upto_region 1 with fail
  generalize (w.alloc (.cells #[.int .i64 op1, .bool qt1, .bool fu1, .int .i64 bd1, .int .u32 (oq1 : Nat), .slice K1 nk1 ck1, .slice V1 nv1 cv1, .int .u32 (fl1 : Nat), .int .u32 (ex1 : Nat), .int .u64 (cs1 : Nat), .int .u64 (dl1 : Nat), .int .u64 (ni1 : Nat)] 26)).alloc (.cells #[.int .i64 op2, .bool qt2, .bool fu2, .int .i64 bd2, .int .u32 (oq2 : Nat), .slice K2 nk2 ck2, .slice V2 nv2 cv2, .int .u32 (fl2 : Nat), .int .u32 (ex2 : Nat), .int .u64 (cs2 : Nat), .int .u64 (dl2 : Nat), .int .u64 (ni2 : Nat)] 26) = W0 at k0 k1' b ⊢
  obtain ⟨z0, z1, z2, z3, z4, z5, z6, z7, z8, z9, z10, z11⟩ := box12 k0
  obtain ⟨y0, y1, y2, y3, y4, y5, y6, y7, y8, y9, y10, y11⟩ := box12 k1'
  go_wp2_with fail
  refine (sequal_any K1 K2 nk1 ck1 nk2 ck2 w.heap.size lk1 lk2 _ (rk1.below b) (rk2.below b)).mono ?_
  rintro e w1 ⟨rfl, hq⟩
  have bq := quiet_self hq
  clear hq
  replace k0 := k0.step bq
  replace k1' := k1'.step bq
  replace b := below_step b bq
  clear bq z0 z1 z2 z3 z4 z5 z6 z7 z8 z9 z10 z11 y0 y1 y2 y3 y4 y5 y6 y7 y8 y9 y10 y11
  obtain ⟨z0, z1, z2, z3, z4, z5, z6, z7, z8, z9, z10, z11⟩ := box12 k0
  obtain ⟨y0, y1, y2, y3, y4, y5, y6, y7, y8, y9, y10, y11⟩ := box12 k1'
  rw [hK]
  go_wp2_with fail
  refine (sequal_any V1 V2 nv1 cv1 nv2 cv2 w.heap.size lv1 lv2 _ (rv1.below b) (rv2.below b)).mono ?_
  rintro e w2 ⟨rfl, hq⟩
  have bq := quiet_self hq
  clear hq
  replace k0 := k0.step bq
  replace k1' := k1'.step bq
  replace b := below_step b bq
  clear bq z0 z1 z2 z3 z4 z5 z6 z7 z8 z9 z10 z11 y0 y1 y2 y3 y4 y5 y6 y7 y8 y9 y10 y11
  obtain ⟨z0, z1, z2, z3, z4, z5, z6, z7, z8, z9, z10, z11⟩ := box12 k0
  obtain ⟨y0, y1, y2, y3, y4, y5, y6, y7, y8, y9, y10, y11⟩ := box12 k1'
  rw [hV]
  go_wp2_with fail
  go_ret
  exact ⟨rfl, b⟩
theorem qsame_any (op1 op2 bd1 bd2 : Int) (qt1 qt2 fu1 fu2 : Bool) (oq1 oq2 fl1 fl2 ex1 ex2 cs1 cs2 dl1 dl2 ni1 ni2 : Nat) (K1 K2 V1 V2 : Option Addr) (nk1 ck1 nk2 ck2 nv1 cv1 nv2 cv2 : Nat) (lk1 lk2 lv1 lv2 : List UInt8) (w : World) (rk1 : Rd w w.heap.size K1 nk1 ck1 lk1) (rk2 : Rd w w.heap.size K2 nk2 ck2 lk2) (rv1 : Rd w w.heap.size V1 nv1 cv1 lv1) (rv2 : Rd w w.heap.size V2 nv2 cv2 lv2) :
    Calls Try.prog 48 #[(reqV op1 qt1 fu1 bd1 oq1 (.slice K1 nk1 ck1) (.slice V1 nv1 cv1) fl1 ex1 cs1 dl1 ni1), (reqV op2 qt2 fu2 bd2 oq2 (.slice K2 nk2 ck2) (.slice V2 nv2 cv2) fl2 ex2 cs2 dl2 ni2)] w (PSame (reqSame op1 op2 bd1 bd2 qt1 qt2 fu1 fu2 oq1 oq2 fl1 fl2 ex1 ex2 cs1 cs2 dl1 dl2 ni1 ni2 lk1 lk2 lv1 lv2) w) := by
  by_cases dK : lk1 = lk2
  rotate_left
  · rw [reqSame_no (fun h => dK (by simp only [h]))]
    exact qsame_0 op1 op2 bd1 bd2 qt1 qt2 fu1 fu2 oq1 oq2 fl1 fl2 ex1 ex2 cs1 cs2 dl1 dl2 ni1 ni2 K1 K2 V1 V2 nk1 ck1 nk2 ck2 nv1 cv1 nv2 cv2 lk1 lk2 lv1 lv2 w rk1 rk2 rv1 rv2  (by unfold eqB; exact decide_eq_false dK)
  have hK : eqB lk1 lk2 = true := (by unfold eqB; exact decide_eq_true dK)
  by_cases dV : lv1 = lv2
  rotate_left
  · rw [reqSame_no (fun h => dV (by simp only [h]))]
    exact qsame_1 op1 op2 bd1 bd2 qt1 qt2 fu1 fu2 oq1 oq2 fl1 fl2 ex1 ex2 cs1 cs2 dl1 dl2 ni1 ni2 K1 K2 V1 V2 nk1 ck1 nk2 ck2 nv1 cv1 nv2 cv2 lk1 lk2 lv1 lv2 w rk1 rk2 rv1 rv2 hK (by unfold eqB; exact decide_eq_false dV)
  have hV : eqB lv1 lv2 = true := (by unfold eqB; exact decide_eq_true dV)
  by_cases dop : op1 = op2
  rotate_left
  · rw [reqSame_no (fun h => dop (by simp only [h]))]
    exact qsame_2 op1 op2 bd1 bd2 qt1 qt2 fu1 fu2 oq1 oq2 fl1 fl2 ex1 ex2 cs1 cs2 dl1 dl2 ni1 ni2 K1 K2 V1 V2 nk1 ck1 nk2 ck2 nv1 cv1 nv2 cv2 lk1 lk2 lv1 lv2 w rk1 rk2 rv1 rv2 hK hV (beq_eq_false_iff_ne.2 dop)
  have hop : (op1 == op2) = true := (beq_iff_eq.2 dop)
  by_cases dqt : qt1 = qt2
  rotate_left
  · rw [reqSame_no (fun h => dqt (by simp only [h]))]
    exact qsame_3 op1 op2 bd1 bd2 qt1 qt2 fu1 fu2 oq1 oq2 fl1 fl2 ex1 ex2 cs1 cs2 dl1 dl2 ni1 ni2 K1 K2 V1 V2 nk1 ck1 nk2 ck2 nv1 cv1 nv2 cv2 lk1 lk2 lv1 lv2 w rk1 rk2 rv1 rv2 hK hV hop (beq_eq_false_iff_ne.2 dqt)
  have hqt : (qt1 == qt2) = true := (beq_iff_eq.2 dqt)
  by_cases dfu : fu1 = fu2
  rotate_left
  · rw [reqSame_no (fun h => dfu (by simp only [h]))]
    exact qsame_4 op1 op2 bd1 bd2 qt1 qt2 fu1 fu2 oq1 oq2 fl1 fl2 ex1 ex2 cs1 cs2 dl1 dl2 ni1 ni2 K1 K2 V1 V2 nk1 ck1 nk2 ck2 nv1 cv1 nv2 cv2 lk1 lk2 lv1 lv2 w rk1 rk2 rv1 rv2 hK hV hop hqt (beq_eq_false_iff_ne.2 dfu)
  have hfu : (fu1 == fu2) = true := (beq_iff_eq.2 dfu)
  by_cases dbd : bd1 = bd2
  rotate_left
  · rw [reqSame_no (fun h => dbd (by simp only [h]))]
    exact qsame_5 op1 op2 bd1 bd2 qt1 qt2 fu1 fu2 oq1 oq2 fl1 fl2 ex1 ex2 cs1 cs2 dl1 dl2 ni1 ni2 K1 K2 V1 V2 nk1 ck1 nk2 ck2 nv1 cv1 nv2 cv2 lk1 lk2 lv1 lv2 w rk1 rk2 rv1 rv2 hK hV hop hqt hfu (beq_eq_false_iff_ne.2 dbd)
  have hbd : (bd1 == bd2) = true := (beq_iff_eq.2 dbd)
  by_cases doq : oq1 = oq2
  rotate_left
  · rw [reqSame_no (fun h => doq (by simp only [h]))]
    exact qsame_6 op1 op2 bd1 bd2 qt1 qt2 fu1 fu2 oq1 oq2 fl1 fl2 ex1 ex2 cs1 cs2 dl1 dl2 ni1 ni2 K1 K2 V1 V2 nk1 ck1 nk2 ck2 nv1 cv1 nv2 cv2 lk1 lk2 lv1 lv2 w rk1 rk2 rv1 rv2 hK hV hop hqt hfu hbd (beq_eq_false_iff_ne.2 (by omega))
  have hoq : ((oq1 : Int) == (oq2 : Int)) = true := (beq_iff_eq.2 (by omega))
  by_cases dfl : fl1 = fl2
  rotate_left
  · rw [reqSame_no (fun h => dfl (by simp only [h]))]
    exact qsame_7 op1 op2 bd1 bd2 qt1 qt2 fu1 fu2 oq1 oq2 fl1 fl2 ex1 ex2 cs1 cs2 dl1 dl2 ni1 ni2 K1 K2 V1 V2 nk1 ck1 nk2 ck2 nv1 cv1 nv2 cv2 lk1 lk2 lv1 lv2 w rk1 rk2 rv1 rv2 hK hV hop hqt hfu hbd hoq (beq_eq_false_iff_ne.2 (by omega))
  have hfl : ((fl1 : Int) == (fl2 : Int)) = true := (beq_iff_eq.2 (by omega))
  by_cases dex : ex1 = ex2
  rotate_left
  · rw [reqSame_no (fun h => dex (by simp only [h]))]
    exact qsame_8 op1 op2 bd1 bd2 qt1 qt2 fu1 fu2 oq1 oq2 fl1 fl2 ex1 ex2 cs1 cs2 dl1 dl2 ni1 ni2 K1 K2 V1 V2 nk1 ck1 nk2 ck2 nv1 cv1 nv2 cv2 lk1 lk2 lv1 lv2 w rk1 rk2 rv1 rv2 hK hV hop hqt hfu hbd hoq hfl (beq_eq_false_iff_ne.2 (by omega))
  have hex : ((ex1 : Int) == (ex2 : Int)) = true := (beq_iff_eq.2 (by omega))
  by_cases dcs : cs1 = cs2
  rotate_left
  · rw [reqSame_no (fun h => dcs (by simp only [h]))]
    exact qsame_9 op1 op2 bd1 bd2 qt1 qt2 fu1 fu2 oq1 oq2 fl1 fl2 ex1 ex2 cs1 cs2 dl1 dl2 ni1 ni2 K1 K2 V1 V2 nk1 ck1 nk2 ck2 nv1 cv1 nv2 cv2 lk1 lk2 lv1 lv2 w rk1 rk2 rv1 rv2 hK hV hop hqt hfu hbd hoq hfl hex (beq_eq_false_iff_ne.2 (by omega))
  have hcs : ((cs1 : Int) == (cs2 : Int)) = true := (beq_iff_eq.2 (by omega))
  by_cases ddl : dl1 = dl2
  rotate_left
  · rw [reqSame_no (fun h => ddl (by simp only [h]))]
    exact qsame_10 op1 op2 bd1 bd2 qt1 qt2 fu1 fu2 oq1 oq2 fl1 fl2 ex1 ex2 cs1 cs2 dl1 dl2 ni1 ni2 K1 K2 V1 V2 nk1 ck1 nk2 ck2 nv1 cv1 nv2 cv2 lk1 lk2 lv1 lv2 w rk1 rk2 rv1 rv2 hK hV hop hqt hfu hbd hoq hfl hex hcs (beq_eq_false_iff_ne.2 (by omega))
  have hdl : ((dl1 : Int) == (dl2 : Int)) = true := (beq_iff_eq.2 (by omega))
  by_cases dni : ni1 = ni2
  rotate_left
  · rw [reqSame_no (fun h => dni (by simp only [h]))]
    exact qsame_11 op1 op2 bd1 bd2 qt1 qt2 fu1 fu2 oq1 oq2 fl1 fl2 ex1 ex2 cs1 cs2 dl1 dl2 ni1 ni2 K1 K2 V1 V2 nk1 ck1 nk2 ck2 nv1 cv1 nv2 cv2 lk1 lk2 lv1 lv2 w rk1 rk2 rv1 rv2 hK hV hop hqt hfu hbd hoq hfl hex hcs hdl (beq_eq_false_iff_ne.2 (by omega))
  have hni : ((ni1 : Int) == (ni2 : Int)) = true := (beq_iff_eq.2 (by omega))
  rw [reqSame_yes ⟨dop, dbd, dqt, dfu, doq, dfl, dex, dcs, ddl, dni, dK, dV⟩]
  exact qsame_12 op1 op2 bd1 bd2 qt1 qt2 fu1 fu2 oq1 oq2 fl1 fl2 ex1 ex2 cs1 cs2 dl1 dl2 ni1 ni2 K1 K2 V1 V2 nk1 ck1 nk2 ck2 nv1 cv1 nv2 cv2 lk1 lk2 lv1 lv2 w rk1 rk2 rv1 rv2 hK hV hop hqt hfu hbd hoq hfl hex hcs hdl hni
end Go.Proofs.Ytnghmgbmflcngaa

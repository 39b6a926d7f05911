/- icehouseref20.Same, whatever two requests. Conditions: typed in each theorem. -/
import Derived.Test.YtnghmgbmflcngaaPrsA
import Derived.Test.YtnghmgbmflcngaaPrsB
import Derived.Test.YtnghmgbmflcngaaPrsC
namespace Go.Proofs.Ytnghmgbmflcngaa
set_option linter.unusedVariables false
open Go.RowKit
theorem rqsame_any (op1 op2 bd1 bd2 : Int) (qt1 qt2 fu1 fu2 : Bool) (oq1 oq2 fl1 fl2 ex1 ex2 cs1 cs2 dl1 dl2 ni1 ni2 : Nat) (K1 K2 V1 V2 : Option Addr) (nk1 ck1 nk2 ck2 nv1 cv1 nv2 cv2 : Nat) (lk1 lk2 lv1 lv2 : List UInt8) (w : World) (rk1 : Rd w w.heap.size K1 nk1 ck1 lk1) (rk2 : Rd w w.heap.size K2 nk2 ck2 lk2) (rv1 : Rd w w.heap.size V1 nv1 cv1 lv1) (rv2 : Rd w w.heap.size V2 nv2 cv2 lv2) :
    Calls Try.prog 45 #[(reqV op1 qt1 fu1 bd1 oq1 (.slice K1 nk1 ck1) (.slice V1 nv1 cv1) fl1 ex1 cs1 dl1 ni1), (reqV op2 qt2 fu2 bd2 oq2 (.slice K2 nk2 ck2) (.slice V2 nv2 cv2) fl2 ex2 cs2 dl2 ni2)] w (PSame (reqSame op1 op2 bd1 bd2 qt1 qt2 fu1 fu2 oq1 oq2 fl1 fl2 ex1 ex2 cs1 cs2 dl1 dl2 ni1 ni2 lk1 lk2 lv1 lv2) w) := by
  by_cases dop : op1 = op2
  rotate_left
  · rw [reqSame_no (fun h => dop (by simp only [h]))]
    exact rqsame_0 op1 op2 bd1 bd2 qt1 qt2 fu1 fu2 oq1 oq2 fl1 fl2 ex1 ex2 cs1 cs2 dl1 dl2 ni1 ni2 K1 K2 V1 V2 nk1 ck1 nk2 ck2 nv1 cv1 nv2 cv2 lk1 lk2 lv1 lv2 w rk1 rk2 rv1 rv2  (beq_eq_false_iff_ne.2 dop)
  have hop : (op1 == op2) = true := (beq_iff_eq.2 dop)
  by_cases dqt : qt1 = qt2
  rotate_left
  · rw [reqSame_no (fun h => dqt (by simp only [h]))]
    exact rqsame_1 op1 op2 bd1 bd2 qt1 qt2 fu1 fu2 oq1 oq2 fl1 fl2 ex1 ex2 cs1 cs2 dl1 dl2 ni1 ni2 K1 K2 V1 V2 nk1 ck1 nk2 ck2 nv1 cv1 nv2 cv2 lk1 lk2 lv1 lv2 w rk1 rk2 rv1 rv2 hop (beq_eq_false_iff_ne.2 dqt)
  have hqt : (qt1 == qt2) = true := (beq_iff_eq.2 dqt)
  by_cases dfu : fu1 = fu2
  rotate_left
  · rw [reqSame_no (fun h => dfu (by simp only [h]))]
    exact rqsame_2 op1 op2 bd1 bd2 qt1 qt2 fu1 fu2 oq1 oq2 fl1 fl2 ex1 ex2 cs1 cs2 dl1 dl2 ni1 ni2 K1 K2 V1 V2 nk1 ck1 nk2 ck2 nv1 cv1 nv2 cv2 lk1 lk2 lv1 lv2 w rk1 rk2 rv1 rv2 hop hqt (beq_eq_false_iff_ne.2 dfu)
  have hfu : (fu1 == fu2) = true := (beq_iff_eq.2 dfu)
  by_cases dbd : bd1 = bd2
  rotate_left
  · rw [reqSame_no (fun h => dbd (by simp only [h]))]
    exact rqsame_3 op1 op2 bd1 bd2 qt1 qt2 fu1 fu2 oq1 oq2 fl1 fl2 ex1 ex2 cs1 cs2 dl1 dl2 ni1 ni2 K1 K2 V1 V2 nk1 ck1 nk2 ck2 nv1 cv1 nv2 cv2 lk1 lk2 lv1 lv2 w rk1 rk2 rv1 rv2 hop hqt hfu (beq_eq_false_iff_ne.2 dbd)
  have hbd : (bd1 == bd2) = true := (beq_iff_eq.2 dbd)
  by_cases doq : oq1 = oq2
  rotate_left
  · rw [reqSame_no (fun h => doq (by simp only [h]))]
    exact rqsame_4 op1 op2 bd1 bd2 qt1 qt2 fu1 fu2 oq1 oq2 fl1 fl2 ex1 ex2 cs1 cs2 dl1 dl2 ni1 ni2 K1 K2 V1 V2 nk1 ck1 nk2 ck2 nv1 cv1 nv2 cv2 lk1 lk2 lv1 lv2 w rk1 rk2 rv1 rv2 hop hqt hfu hbd (beq_eq_false_iff_ne.2 (by omega))
  have hoq : ((oq1 : Int) == (oq2 : Int)) = true := (beq_iff_eq.2 (by omega))
  by_cases dK : lk1 = lk2
  rotate_left
  · rw [reqSame_no (fun h => dK (by simp only [h]))]
    exact rqsame_5 op1 op2 bd1 bd2 qt1 qt2 fu1 fu2 oq1 oq2 fl1 fl2 ex1 ex2 cs1 cs2 dl1 dl2 ni1 ni2 K1 K2 V1 V2 nk1 ck1 nk2 ck2 nv1 cv1 nv2 cv2 lk1 lk2 lv1 lv2 w rk1 rk2 rv1 rv2 hop hqt hfu hbd hoq (beq_eq_false_iff_ne.2 dK)
  have hK : (lk1 == lk2) = true := (by simpa using dK)
  by_cases dV : lv1 = lv2
  rotate_left
  · rw [reqSame_no (fun h => dV (by simp only [h]))]
    exact rqsame_6 op1 op2 bd1 bd2 qt1 qt2 fu1 fu2 oq1 oq2 fl1 fl2 ex1 ex2 cs1 cs2 dl1 dl2 ni1 ni2 K1 K2 V1 V2 nk1 ck1 nk2 ck2 nv1 cv1 nv2 cv2 lk1 lk2 lv1 lv2 w rk1 rk2 rv1 rv2 hop hqt hfu hbd hoq hK (beq_eq_false_iff_ne.2 dV)
  have hV : (lv1 == lv2) = true := (by simpa using dV)
  by_cases dfl : fl1 = fl2
  rotate_left
  · rw [reqSame_no (fun h => dfl (by simp only [h]))]
    exact rqsame_7 op1 op2 bd1 bd2 qt1 qt2 fu1 fu2 oq1 oq2 fl1 fl2 ex1 ex2 cs1 cs2 dl1 dl2 ni1 ni2 K1 K2 V1 V2 nk1 ck1 nk2 ck2 nv1 cv1 nv2 cv2 lk1 lk2 lv1 lv2 w rk1 rk2 rv1 rv2 hop hqt hfu hbd hoq hK hV (beq_eq_false_iff_ne.2 (by omega))
  have hfl : ((fl1 : Int) == (fl2 : Int)) = true := (beq_iff_eq.2 (by omega))
  by_cases dex : ex1 = ex2
  rotate_left
  · rw [reqSame_no (fun h => dex (by simp only [h]))]
    exact rqsame_8 op1 op2 bd1 bd2 qt1 qt2 fu1 fu2 oq1 oq2 fl1 fl2 ex1 ex2 cs1 cs2 dl1 dl2 ni1 ni2 K1 K2 V1 V2 nk1 ck1 nk2 ck2 nv1 cv1 nv2 cv2 lk1 lk2 lv1 lv2 w rk1 rk2 rv1 rv2 hop hqt hfu hbd hoq hK hV hfl (beq_eq_false_iff_ne.2 (by omega))
  have hex : ((ex1 : Int) == (ex2 : Int)) = true := (beq_iff_eq.2 (by omega))
  by_cases dcs : cs1 = cs2
  rotate_left
  · rw [reqSame_no (fun h => dcs (by simp only [h]))]
    exact rqsame_9 op1 op2 bd1 bd2 qt1 qt2 fu1 fu2 oq1 oq2 fl1 fl2 ex1 ex2 cs1 cs2 dl1 dl2 ni1 ni2 K1 K2 V1 V2 nk1 ck1 nk2 ck2 nv1 cv1 nv2 cv2 lk1 lk2 lv1 lv2 w rk1 rk2 rv1 rv2 hop hqt hfu hbd hoq hK hV hfl hex (beq_eq_false_iff_ne.2 (by omega))
  have hcs : ((cs1 : Int) == (cs2 : Int)) = true := (beq_iff_eq.2 (by omega))
  by_cases ddl : dl1 = dl2
  rotate_left
  · rw [reqSame_no (fun h => ddl (by simp only [h]))]
    exact rqsame_10 op1 op2 bd1 bd2 qt1 qt2 fu1 fu2 oq1 oq2 fl1 fl2 ex1 ex2 cs1 cs2 dl1 dl2 ni1 ni2 K1 K2 V1 V2 nk1 ck1 nk2 ck2 nv1 cv1 nv2 cv2 lk1 lk2 lv1 lv2 w rk1 rk2 rv1 rv2 hop hqt hfu hbd hoq hK hV hfl hex hcs (beq_eq_false_iff_ne.2 (by omega))
  have hdl : ((dl1 : Int) == (dl2 : Int)) = true := (beq_iff_eq.2 (by omega))
  by_cases dni : ni1 = ni2
  rotate_left
  · rw [reqSame_no (fun h => dni (by simp only [h]))]
    exact rqsame_11 op1 op2 bd1 bd2 qt1 qt2 fu1 fu2 oq1 oq2 fl1 fl2 ex1 ex2 cs1 cs2 dl1 dl2 ni1 ni2 K1 K2 V1 V2 nk1 ck1 nk2 ck2 nv1 cv1 nv2 cv2 lk1 lk2 lv1 lv2 w rk1 rk2 rv1 rv2 hop hqt hfu hbd hoq hK hV hfl hex hcs hdl (beq_eq_false_iff_ne.2 (by omega))
  have hni : ((ni1 : Int) == (ni2 : Int)) = true := (beq_iff_eq.2 (by omega))
  rw [reqSame_yes ⟨dop, dbd, dqt, dfu, doq, dfl, dex, dcs, ddl, dni, dK, dV⟩]
  exact rqsame_12 op1 op2 bd1 bd2 qt1 qt2 fu1 fu2 oq1 oq2 fl1 fl2 ex1 ex2 cs1 cs2 dl1 dl2 ni1 ni2 K1 K2 V1 V2 nk1 ck1 nk2 ck2 nv1 cv1 nv2 cv2 lk1 lk2 lv1 lv2 w rk1 rk2 rv1 rv2 hop hqt hfu hbd hoq hK hV hfl hex hcs hdl hni
end Go.Proofs.Ytnghmgbmflcngaa

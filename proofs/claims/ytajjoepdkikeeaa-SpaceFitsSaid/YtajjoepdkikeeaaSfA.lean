/- icehouseref23.Right, icehouseref25.Fits. Conditions: typed in each theorem. -/
import Derived.Test.YtajjoepdkikeeaaSfH
import Derived.Deep.CutBlock
import Derived.Deep.DeepCutAuto
namespace Go.Proofs.Ytajjoepdkikeeaa
set_option linter.unusedVariables false
open Go.RowKit

set_option maxRecDepth 100000 in
set_option maxHeartbeats 40000000 in
theorem right23_any (s n k p c : Int) (w : World) : Calls Try.prog 11 #[planV s n k p c] w fun e w' => e = .returned (.bool (planOk s n k p c)) ∧ Below w.heap.size w w' := by
  unfold planV
  have k1 := Blk.new w #[.int .i64 s, .int .i64 n, .int .i64 k, .int .i64 p, .int .i64 c] 23
  have b := below_a1' (Below.refl w.heap.size w) (.cells #[.int .i64 s, .int .i64 n, .int .i64 k, .int .i64 p, .int .i64 c] 23)
  obtain ⟨r, hr⟩ : ∃ r, r = planOk s n k p c := ⟨_, rfl⟩
  rw [← hr]
  have HR := Lib.hid hr
  clear hr
  go_enter Try.func11, Try.ntmps11
  go_upto_region 1 with fail
  generalize w.alloc (.cells #[.int .i64 s, .int .i64 n, .int .i64 k, .int .i64 p, .int .i64 c] 23) = W0 at k1 b ⊢
  obtain ⟨q0, q1, q2, q3, q4⟩ := box5 k1
  by_cases c0 : (4 : Int) ≤ s
  rotate_left
  · have HX : Hid (planOk s n k p c = false) := Lib.hid (by unfold planOk; exact decide_eq_false (by omega))
    have e0 := eq_false c0
    clear c0
    go_wp2_with fail
    go_ret
    exact ⟨by rw [HR.out, HX.out]; try rfl, b⟩
  have e0 := eq_true c0
  by_cases c1 : s ≤ 16
  rotate_left
  · have HX : Hid (planOk s n k p c = false) := Lib.hid (by unfold planOk; exact decide_eq_false (by omega))
    have e1 := eq_false c1
    clear c0 c1
    go_wp2_with fail
    go_ret
    exact ⟨by rw [HR.out, HX.out]; try rfl, b⟩
  have e1 := eq_true c1
  by_cases c2 : (24 : Int) ≤ n
  rotate_left
  · have HX : Hid (planOk s n k p c = false) := Lib.hid (by unfold planOk; exact decide_eq_false (by omega))
    have e2 := eq_false c2
    clear c0 c1 c2
    go_wp2_with fail
    go_ret
    exact ⟨by rw [HR.out, HX.out]; try rfl, b⟩
  have e2 := eq_true c2
  by_cases c3 : n ≤ 64
  rotate_left
  · have HX : Hid (planOk s n k p c = false) := Lib.hid (by unfold planOk; exact decide_eq_false (by omega))
    have e3 := eq_false c3
    clear c0 c1 c2 c3
    go_wp2_with fail
    go_ret
    exact ⟨by rw [HR.out, HX.out]; try rfl, b⟩
  have e3 := eq_true c3
  by_cases c4 : (1 : Int) ≤ k
  rotate_left
  · have HX : Hid (planOk s n k p c = false) := Lib.hid (by unfold planOk; exact decide_eq_false (by omega))
    have e4 := eq_false c4
    clear c0 c1 c2 c3 c4
    go_wp2_with fail
    go_ret
    exact ⟨by rw [HR.out, HX.out]; try rfl, b⟩
  have e4 := eq_true c4
  by_cases c5 : k ≤ 1024
  rotate_left
  · have HX : Hid (planOk s n k p c = false) := Lib.hid (by unfold planOk; exact decide_eq_false (by omega))
    have e5 := eq_false c5
    clear c0 c1 c2 c3 c4 c5
    go_wp2_with fail
    go_ret
    exact ⟨by rw [HR.out, HX.out]; try rfl, b⟩
  have e5 := eq_true c5
  by_cases c6 : (1 : Int) ≤ p
  rotate_left
  · have HX : Hid (planOk s n k p c = false) := Lib.hid (by unfold planOk; exact decide_eq_false (by omega))
    have e6 := eq_false c6
    clear c0 c1 c2 c3 c4 c5 c6
    go_wp2_with fail
    go_ret
    exact ⟨by rw [HR.out, HX.out]; try rfl, b⟩
  have e6 := eq_true c6
  by_cases c7 : p ≤ 256
  rotate_left
  · have HX : Hid (planOk s n k p c = false) := Lib.hid (by unfold planOk; exact decide_eq_false (by omega))
    have e7 := eq_false c7
    clear c0 c1 c2 c3 c4 c5 c6 c7
    go_wp2_with fail
    go_ret
    exact ⟨by rw [HR.out, HX.out]; try rfl, b⟩
  have e7 := eq_true c7
  by_cases c8 : (1 : Int) ≤ c
  rotate_left
  · have HX : Hid (planOk s n k p c = false) := Lib.hid (by unfold planOk; exact decide_eq_false (by omega))
    have e8 := eq_false c8
    clear c0 c1 c2 c3 c4 c5 c6 c7 c8
    go_wp2_with fail
    go_ret
    exact ⟨by rw [HR.out, HX.out]; try rfl, b⟩
  have e8 := eq_true c8
  by_cases c9 : c ≤ 4
  rotate_left
  · have HX : Hid (planOk s n k p c = false) := Lib.hid (by unfold planOk; exact decide_eq_false (by omega))
    have e9 := eq_false c9
    clear c0 c1 c2 c3 c4 c5 c6 c7 c8 c9
    go_wp2_with fail
    go_ret
    exact ⟨by rw [HR.out, HX.out]; try rfl, b⟩
  have e9 := eq_true c9
  have HX : Hid (planOk s n k p c = true) := Lib.hid (by unfold planOk; exact decide_eq_true (by omega))
  clear c0 c1 c2 c3 c4 c5 c6 c7 c8 c9
  go_wp2_with fail
  go_ret
  exact ⟨by rw [HR.out, HX.out]; try rfl, b⟩
def sameK (t t' : IT) : Bool := eqB t.lk t'.lk
theorem eqB_mem {t : IT} {l : List IT} : l.any (sameK t) = decide (t.lk ∈ (fitL l).map (·.1)) := by
  cases h : l.any (sameK t) with
  | true =>
    obtain ⟨x, hx, he⟩ := List.any_eq_true.1 h
    unfold sameK eqB at he
    have he := of_decide_eq_true he
    refine (decide_eq_true ?_).symm
    unfold fitL
    rw [List.map_map]
    exact List.mem_map.2 ⟨x, hx, he.symm⟩
  | false =>
    refine (decide_eq_false fun hm => ?_).symm
    unfold fitL at hm
    rw [List.map_map] at hm
    obtain ⟨x, hx, he⟩ := List.mem_map.1 hm
    have := List.any_eq_false.1 h x hx
    unfold sameK eqB at this
    exact this (decide_eq_true he.symm)
theorem fitL_drop {its : List IT} {i : Nat} {t : IT} (h : its[i]? = some t) : fitL (its.drop i) = (t.lk, chI t.lk.length t.lv.length) :: fitL (its.drop (i + 1)) := by
  obtain ⟨hi, e⟩ := List.getElem?_eq_some_iff.1 h
  rw [List.drop_eq_getElem_cons hi, e]
  rfl
theorem lat_step {its : List IT} {i q : Nat} {t t' : IT} (hq : i + 1 ≤ q) (h : its[q]? = some t') : ((its.drop (i + 1)).take (q + 1 - (i + 1))).any (sameK t) = (((its.drop (i + 1)).take (q - (i + 1))).any (sameK t) || sameK t t') := by
  rw [show q + 1 - (i + 1) = (q - (i + 1)) + 1 from by omega, List.take_add_one, List.getElem?_drop, show i + 1 + (q - (i + 1)) = q from by omega, h]
  simp
def OutR (PCS : Array Value) (i sum cnt : Nat) (its : List IT) (w wx : World) : Prop := (its.take i).all itOk = true ∧ sum + sumL (lastOcc (fitL (its.drop i))) = sumL (lastOcc (fitL its)) ∧ cnt + (lastOcc (fitL (its.drop i))).length = (lastOcc (fitL its)).length ∧ sum ≤ 17 * i ∧ cnt ≤ i ∧ Blk wx w.heap.size PCS 23 ∧ Below w.heap.size w wx
end Go.Proofs.Ytajjoepdkikeeaa

/- ParsePieces: in whatever pieces bytes come, the same requests are told. Conditions: none. -/
import Derived.Test.YtnghmgbmflcngaaAll
import Derived.Test.YtnghmgbmflcngaaRql
import Derived.Test.YtnghmgbmflcngaaWk20
import Derived.Test.YtnghmgbmflcngaaClo
import Derived.Test.YtnghmgbmflcngaaOpen
import Derived.BigRegion
namespace Go.Proofs.Ytnghmgbmflcngaa
set_option linter.unusedVariables false
open Go.ChangeShapes Go.WideShapes Go.ChangeAt Go.RowKit

/-- What 'all' answers, its words under names. -/
def AllR (qs : List RQ) (N hl : Nat) (er : Int) (w : World) (e : Ending) (w' : World) : Prop :=
  ∃ (OA : Option Addr) (oc : Nat) (L : List (List Value)), e = .returned (.tuple #[.slice OA N oc, .int .i64 (hl : Nat), .int .i64 er]) ∧ Rz w' w'.heap.size 12 OA N oc L.flatten ∧ TRow w' (fun _ => False) qs L ∧ Below w.heap.size w w'
theorem AllQ.r {l : List UInt8} {w : World} {e : Ending} {w' : World} (h : AllQ l w e w') : AllR (tell l).1 (tell l).1.length (tell l).2.1.length (if (tell l).2.2 = true then 300 else 0) w e w' := by
  obtain ⟨OA, oc, he, L, h1, h2, -, h4⟩ := h
  exact ⟨OA, oc, L, he, h1, h2, h4⟩
theorem same_self (q : RQ) (K1 V1 K2 V2 : Option Addr) (nk1 ck1 nv1 cv1 nk2 ck2 nv2 cv2 : Nat) (w : World) (h1 : Rd w w.heap.size K1 nk1 ck1 q.lk) (h2 : Rd w w.heap.size V1 nv1 cv1 q.lv) (h3 : Rd w w.heap.size K2 nk2 ck2 q.lk) (h4 : Rd w w.heap.size V2 nv2 cv2 q.lv) :
    Calls Try.prog 48 #[.agg (reqL q K1 nk1 ck1 V1 nv1 cv1).toArray, .agg (reqL q K2 nk2 ck2 V2 nv2 cv2).toArray] w fun e w' => e = .returned (.bool true) ∧ Below w.heap.size w w' := by
  have h := qsame_any q.op q.op q.bd q.bd q.qt q.qt q.fu q.fu q.oq q.oq q.fl q.fl q.ex q.ex q.cs q.cs q.dl q.dl q.ni q.ni K1 K2 V1 V2 nk1 ck1 nk2 ck2 nv1 cv1 nv2 cv2 q.lk q.lk q.lv q.lv w h1 h3 h2 h4
  rw [reqSame_yes ⟨rfl, rfl, rfl, rfl, rfl, rfl, rfl, rfl, rfl, rfl, rfl, rfl⟩] at h
  exact h
set_option maxRecDepth 100000 in
set_option maxHeartbeats 4000000 in
theorem walk_parsePieces (A0 : Option Addr) (n0 c0 : Nat) (l0 : List UInt8) (A1 : Option Addr) (n1 c1 : Nat) (l1 : List UInt8) (A2 : Option Addr) (n2 c2 : Nat) (l2 : List UInt8) (w : World) (r0 : Rd w w.heap.size A0 n0 c0 l0) (s0 : c0 ≤ 140737488351232) (r1 : Rd w w.heap.size A1 n1 c1 l1) (s1 : c1 ≤ 140737488351232) (r2 : Rd w w.heap.size A2 n2 c2 l2) (s2 : c2 ≤ 140737488351232) :
    Calls Try.prog 10 #[.slice A0 n0 c0, .slice A1 n1 c1, .slice A2 n2 c2] w fun e w' => e = .returned (.bool true) ∧ Below w.heap.size w w' := by
  have hc0 := r0.cap
  have hc1 := r1.cap
  have hc2 := r2.cap
  obtain ⟨m0, E0⟩ : ∃ m, m = min n0 20000 := ⟨_, rfl⟩
  have I0 : (if (20000 : Int) < (n0 : Int) then (20000 : Int) else (n0 : Int)) = (m0 : Int) := by split <;> omega
  obtain ⟨m1, E1⟩ : ∃ m, m = min n1 200 := ⟨_, rfl⟩
  have I1 : (if (200 : Int) < (n1 : Int) then (200 : Int) else (n1 : Int)) = (m1 : Int) := by split <;> omega
  obtain ⟨m2, E2⟩ : ∃ m, m = min n2 200 := ⟨_, rfl⟩
  have I2 : (if (200 : Int) < (n2 : Int) then (200 : Int) else (n2 : Int)) = (m2 : Int) := by split <;> omega
  obtain ⟨X0, cx0, HX0, h0⟩ := slc_h r0 m0 (m0 : Int) rfl (by omega)
  obtain ⟨X1, cx1, HX1, h1⟩ := slc_h r1 m1 (m1 : Int) rfl (by omega)
  obtain ⟨X2, cx2, HX2, h2⟩ := slc_h r2 m2 (m2 : Int) rfl (by omega)
  have HR0 := Lib.hid (h0 _ _ r0)
  have HR1 := Lib.hid (h1 _ _ r1)
  have HR2 := Lib.hid (h2 _ _ r2)
  have HM : Hid (m0 ≤ 20000 ∧ m1 ≤ 200 ∧ m2 ≤ 200) := Lib.hid (by omega)
  have HAL : Hid (∃ qs N hl er, (N = qs.length ∧ N ≤ 20000) ∧ ∀ W, Below w.heap.size w W → ∀ (A : Option Addr) (m c : Nat) (lc : List UInt8), Rd W W.heap.size A m c lc → m ≤ 200 → Calls Try.prog 50 #[.slice X0 m0 cx0, .slice A m c] W (AllR qs N hl er W)) := Lib.hid ⟨_, _, _, _, ⟨rfl, by have h := @tell_few (l0.take m0); have h2 := HR0.out.len; have := HM.out; omega⟩, fun W bW A m c lc rc hm => (all_any X0 m0 cx0 (l0.take m0) A m c lc W (HR0.out.step bW) rc (by have := HM.out; omega) (by omega)).mono fun _ _ h => h.r⟩
  obtain ⟨qs, N, hl, er, ⟨hN, hN2⟩, HA⟩ := HAL.out
  have HALL := Lib.hid HA
  have HN := Lib.hid hN
  have HN2 := Lib.hid hN2
  clear HA HAL hN hN2 E0 E1 E2 h0 h1 h2 hc0 hc1 hc2 HR0
  go_enter Try.func10, Try.ntmps10
  go_wp2_with fail
  refine (wakes20 w).mono ?_
  rintro e w1 ⟨rfl, b⟩
  go_upto_region 3 with fail
  go_cut [0, 1, 2] (fun v0 v1 v2 wx => v0 = .slice X0 m0 cx0 ∧ v1 = .slice X1 m1 cx1 ∧ v2 = .slice X2 m2 cx2 ∧ Below w.heap.size w wx)
  case first =>
    go_region
    all_goals (first | go_meet | (go_wp2_with fail; go_meet))
    all_goals exact ⟨rfl, rfl, rfl, b.drew⟩
  case rest =>
    obtain ⟨rfl, rfl, rfl, b⟩ := hcut
    clear HX0 HX1 HX2 I0 I1 I2
    go_wp2_with fail
    refine (HALL.out _ b X1 m1 cx1 _ (HR1.out.step b) HM.out.2.1).mono ?_
    rintro e w2 ⟨OA1, oc1, L1, rfl, z1, t1, b1⟩
    replace b := below_step b b1
    clear b1
    go_wp2_with fail
    refine (HALL.out _ b X2 m2 cx2 _ (HR2.out.step b) HM.out.2.2).mono ?_
    rintro e w3 ⟨OA2, oc2, L2, rfl, z2, t2, b1⟩
    replace b := below_step b b1
    replace z1 := z1.step b1
    replace t1 := t1.below b1 (fun _ h => h.elim)
    clear b1
    go_wp2_with fail
    go_loopw [13, 62] (fun y i wr => ∃ j : Nat, j ≤ N ∧ i = .int .i64 (j : Nat) ∧ Below w3.heap.size w3 wr) (fun _ i _ => N - (intOf i).toNat)
    case atStart => exact ⟨0, Nat.zero_le _, rfl, Below.refl _ _⟩
    case round =>
      obtain ⟨j, hj, rfl, hb⟩ := hrel
      have z1 := z1.step hb
      have z2 := z2.step hb
      have t1 := t1.below hb (fun _ h => h.elim)
      have t2 := t2.below hb (fun _ h => h.elim)
      by_cases hlt : j < N
      · obtain ⟨ad1, q, K1, nk1, ck1, V1, nv1, cv1, hA1, hq1, hc1, k1, v1⟩ := told_at z1 t1 (j := j) (by rw [← HN.out]; exact hlt) HN.out
        obtain ⟨ad2, q2, K2, nk2, ck2, V2, nv2, cv2, hA2, hq2, hc2, k2, v2⟩ := told_at z2 t2 (j := j) (by rw [← HN.out]; exact hlt) HN.out
        obtain rfl : q = q2 := by rw [hq1] at hq2; injection hq2
        subst hA1 hA2
        have hlt' : ((j : Int) < (N : Int)) = True := eq_true (by omega)
        have HJP : IntKind.i64.wrap ((j : Int) + 1) = (j : Int) + 1 := IntWalk.i64_in _ (by have := HN2.out; omega)
        have HLT : Hid (j + 1 ≤ N) := Lib.hid (by omega)
        clear hlt z1 z2 t1 t2 hq1 hq2
        go_upto_region 11 with fail
        have hbd := hb.drew
        have k1d : Rd wr.drew wr.drew.heap.size K1 nk1 ck1 q.lk := k1
        have v1d : Rd wr.drew wr.drew.heap.size V1 nv1 cv1 q.lv := v1
        have k2d : Rd wr.drew wr.drew.heap.size K2 nk2 ck2 q.lk := k2
        have v2d : Rd wr.drew wr.drew.heap.size V2 nv2 cv2 q.lv := v2
        have hc1d : ∀ i v, (reqL q K1 nk1 ck1 V1 nv1 cv1)[i]? = some v → wr.drew.cell? ((ad1.add (j * 12)).add i) = some v := hc1
        have hc2d : ∀ i v, (reqL q K2 nk2 ck2 V2 nv2 cv2)[i]? = some v → wr.drew.cell? ((ad2.add (j * 12)).add i) = some v := hc2
        clear hc1 hc2 k1 v1 k2 v2
        have HC1 := Lib.hid hc1d
        have HC2 := Lib.hid hc2d
        clear hc1d hc2d
        refine wp_region_still_tail 8 (by kernel_rfl) (by kernel_rfl) ?_
        change wpStill _ _ wr.drew (fun a' => wpList _ _ _ _ a' wr.drew) _ _
        generalize wr.drew = W1 at hbd k1d v1d k2d v2d HC1 HC2 ⊢
        simp only [List.take_succ_cons, List.take_zero, List.drop_succ_cons, List.drop_zero]
        still_step
        still_step
        still_step
        refine still_loadR (by rfl) _ rfl (ad1.add (j * 12)) (by rfl) (reqL q K1 nk1 ck1 V1 nv1 cv1) rfl HC1.out ?_
        still_step
        still_step
        still_step
        refine still_loadR (by rfl) _ rfl (ad2.add (j * 12)) (by rfl) (reqL q K2 nk2 ck2 V2 nv2 cv2) rfl HC2.out ?_
        refine wpStill_nil ?_
        go_wp2_with fail
        refine (same_self q K1 V1 K2 V2 nk1 ck1 nv1 cv1 nk2 ck2 nv2 cv2 W1 k1d v1d k2d v2d).mono ?_
        rintro e w5 ⟨rfl, b5⟩
        replace hbd := below_step hbd b5
        clear b5 k1d v1d k2d v2d HC1 HC2
        go_wp2_with fail
        go_roundw
        case rel => exact ⟨j + 1, HLT.out, by first | rfl | go_num, hbd⟩
        case measure => have := HLT.out; simp [intOf]; omega
      · have hlt' : ((j : Int) < (N : Int)) = False := eq_false (by omega)
        go_wp2_with fail
        go_ret
        exact ⟨rfl, below_step b hb⟩


set_option maxRecDepth 100000 in
theorem lifted_parsePieces (os : Os) (started : os.Started) (H : Type) (enc : TypeId × Value → H) :
    ReturnsInHanded {} Try.checked os 10 .any (Rows.parsePiecesSpec.pre6 enc Try.prog Try.f10 Rows.parsePiecesRow.domain false) (Rows.parsePiecesSpec.post enc Try.prog Try.f10 false true false false) := by
  refine returnsInHanded_of_change_sized (C := Try.checked) own started (by kernel_rfl) Try.func10
    (ChangeSpec.witness6 (enc := enc) (C := Try.checked) false ⟨#[], #[.slice none 0 0, .slice none 0 0, .slice none 0 0], []⟩ 8 (by kernel_rfl) (by kernel_rfl) (by kernel_rfl) (by kernel_rfl)) ?_
  intro W base args ds gs before hval0 hW hcnd hsz0 _
  have hval : ∀ (j : Nat) t v, Try.f10.params[j]? = some t → args[j]? = some v → Value.okWide Try.prog W .any base t v := hval0
  have hsz : (DataW.weightsEach Try.prog (Try.f10.params.toList ++ Rows.parsePiecesSpec.plain.varTypes Try.prog) (ds ++ gs)).all (· ≤ reachBytes) = true := hsz0
  have hW' := hW
  obtain ⟨p, q, hA0, hV, rfl, hfz, hnd⟩ := hW
  have hA : DataW.TrodAll enc Try.prog W 0 (fun _ => true) true Try.f10.params.toList args.toList ds p := hA0
  rw [Try.params10] at hA hval hsz
  obtain ⟨v0, vs0, d0, ds0, p0, q0, hargs, rfl, rfl, h0, t0⟩ := trodAll_cons hA
  obtain ⟨v1, vs1, d1, ds1, p1, q1, rfl, rfl, rfl, h1, t1⟩ := trodAll_cons t0
  obtain ⟨v2, vs2, d2, ds2, p2, q2, rfl, rfl, rfl, h2, t2⟩ := trodAll_cons t1
  obtain ⟨rfl, rfl, rfl⟩ := trodAll_nil t2
  obtain rfl : args = #[v0, v1, v2] := by cases args; simp_all
  obtain ⟨rfl, rfl⟩ := trodVars_none hV
  have k0 := h0
  obtain ⟨A0, n0, c0, l0, rfl, r0, y0⟩ := open_bytes (hval 0 23 v0 rfl rfl) h0
  have s0 := y0 (weights_of hsz (j := 0) rfl rfl)
  have k1 := h1
  obtain ⟨A1, n1, c1, l1, rfl, r1, y1⟩ := open_bytes (hval 1 23 v1 rfl rfl) h1
  have s1 := y1 (weights_of hsz (j := 1) rfl rfl)
  have k2 := h2
  obtain ⟨A2, n2, c2, l2, rfl, r2, y2⟩ := open_bytes (hval 2 23 v2 rfl rfl) h2
  have s2 := y2 (weights_of hsz (j := 2) rfl rfl)
  clear hA0 hval0
  refine (walk_parsePieces A0 n0 c0 l0 A1 n1 c1 l1 A2 n2 c2 l2 W r0 s0 r1 s1 r2 s2).mono fun e W' ⟨he, bel⟩ => ?_
  subst he
  exact ⟨_, rfl, _, _, _, [], _, [], hW', trodAll_mk1 (shut_bool Try.underlying4 _), (trodAll_cons_mk (Below.trod laidOut (by kernel_rfl) (of_decide_eq_true (by kernel_rfl)) k0 bel (trod_places k0)) (trodAll_cons_mk (Below.trod laidOut (by kernel_rfl) (of_decide_eq_true (by kernel_rfl)) k1 bel (trod_places k1)) (trodAll_cons_mk (Below.trod laidOut (by kernel_rfl) (of_decide_eq_true (by kernel_rfl)) k2 bel (trod_places k2)) trodAll_mk0))), rfl, bel.frame _, fun h => by cases h⟩

theorem closed_parsePieces : joinedFacts Try.pinned.checked.prog 10 Try.f10 Rows.parsePiecesSpec Rows.parsePiecesRow = true := by
  unfold joinedFacts
  rw [clo_heard, clo_may, clo_lifts, clo_make]
  kernel_rfl
theorem over_parsePieces : Rows.parsePiecesRow.holds Try.pinned (OpenSpec.ofChange Rows.parsePiecesSpec) :=
  OpenClaim.holds_of_wide 10 Try.f10 rfl rfl rfl rfl rfl rfl rfl ⟨rfl, rfl, rfl, rfl, rfl⟩ rfl rfl rfl rfl rfl (by kernel_rfl) Try.func10 closed_parsePieces
    (of_decide_eq_true (by kernel_rfl)) (by unfold Func.isWrapper; first | (rw [if_pos (by decide +kernel)]; kernel_rfl) | (rw [if_neg (by decide +kernel)]; exact ⟨rfl, rfl⟩))
    (fun os started H enc _ => lifted_parsePieces os started H enc)

/-- The statement. -/
theorem parsePieces_holds : Rows.ParsePiecesSaid := over_parsePieces
#print axioms parsePieces_holds

end Go.Proofs.Ytnghmgbmflcngaa

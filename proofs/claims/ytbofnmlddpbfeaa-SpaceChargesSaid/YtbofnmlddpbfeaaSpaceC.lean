/- SpaceCharges: the charge of whatever item, and the bound of whatever segments, are the document's, or refused. Conditions: none. -/
import Derived.Test.YtbofnmlddpbfeaaSpaw
namespace Go.Proofs.Ytbofnmlddpbfeaa
set_option linter.unusedVariables false
open Go.ChangeShapes Go.WideShapes Go.ChangeAt Go.RowKit

theorem walk_tail {P : Prop} (h : P) : P := h
set_option maxHeartbeats 4000000 in
theorem walk_spaceCharges (AK0 : Option Addr) (nk0 ck0 : Nat) (lk0 : List UInt8) (AV0 : Option Addr) (nv0 cv0 : Nat) (lv0 : List UInt8) (fl0 ex0 sq0 : Nat) (bb0 : Bool) (x1 x2 : Int) (w : World)
    (r0 : Itm w w.heap.size AK0 nk0 ck0 lk0 AV0 nv0 cv0 lv0 fl0 ex0 sq0) (s0 : ck0 ≤ 140737488351232 ∧ cv0 ≤ 140737488351232) (m1 : -9223372036854775808 ≤ x1 ∧ x1 ≤ 9223372036854775807) (m2 : -9223372036854775808 ≤ x2 ∧ x2 ≤ 9223372036854775807) :
    Calls Try.prog 3 #[itmV (.slice AK0 nk0 ck0) (.slice AV0 nv0 cv0) fl0 ex0 sq0 bb0, .int .i64 x1, .int .i64 x2] w fun e w' => e = .returned (.bool true) ∧ Below w.heap.size w w' := by
  have hch := charge_any AK0 AV0 nk0 ck0 nv0 cv0 fl0 ex0 sq0 bb0
  have hri := right13_any AK0 AV0 nk0 ck0 nv0 cv0 fl0 ex0 sq0 bb0
  have hc25 := fun (w : World) (h : nk0 ≤ 10000) (h' : nv0 ≤ 10000) => charge25_any AK0 AV0 nk0 ck0 nv0 cv0 fl0 ex0 sq0 bb0 w h h'
  clear r0 s0
  obtain ⟨m1a, m1b⟩ := m1
  obtain ⟨m2a, m2b⟩ := m2
  unfold itmV at *
  have HC := Lib.hid hch
  have HR := Lib.hid hri
  have H25 := Lib.hid hc25
  clear hch hri hc25
  have b := below_a1' (Below.refl w.heap.size w) (.cells #[.slice AK0 nk0 ck0, .slice AV0 nv0 cv0, .int .u32 (fl0 : Int), .int .u32 (ex0 : Int), .int .u64 (sq0 : Int), .bool bb0] 26)
  have k0 := Blk.new w #[.slice AK0 nk0 ck0, .slice AV0 nv0 cv0, .int .u32 (fl0 : Int), .int .u32 (ex0 : Int), .int .u64 (sq0 : Int), .bool bb0] 26
  go_enter Try.func3, Try.ntmps3
  go_wp2_with fail
  refine (wakes25 _).mono ?_
  rintro e w1 ⟨rfl, b1⟩
  replace k0 := k0.step b1
  replace b := below_step b b1
  clear b1
  obtain ⟨d0, d1, d2, d3, d4, d5⟩ := box6 k0
  go_wp2_with fail
  refine (HC.out _).mono ?_
  rintro e w2 ⟨rfl, b2⟩
  replace k0 := k0.step b2
  replace b := below_step b b2
  clear b2
  clear d0 d1 d2 d3 d4 d5
  obtain ⟨d0, d1, d2, d3, d4, d5⟩ := box6 k0
  cases hrr : rightI sq0 nk0 nv0
  · rw [chV_no hrr]
    have HRR := Lib.hid hrr
    clear hrr
    go_wp2_with fail
    refine (HR.out _).mono ?_
    rintro e w3 ⟨rfl, b3⟩
    replace k0 := k0.step b3
    replace b := below_step b b3
    clear b3
    rw [HRR.out]
    clear d0 d1 d2 d3 d4 d5 k0
    cases hs : sizedB x1 x2
    · have hs' : ¬ (4 ≤ x1 ∧ x1 ≤ 16 ∧ 24 ≤ x2 ∧ x2 ≤ 64) := of_decide_eq_false hs
      have HS := Lib.hid hs
      clear hs
      go_wp2_with fail
      refine (bound_any x1 x2 _).mono ?_
      rintro e w5 ⟨rfl, b5⟩
      replace b := below_step b b5
      clear b5
      rw [bndV_no HS.out]
      by_cases h1 : x1 < 4
      · clear hs'
        go_wp2_with fail
        go_ret
        exact ⟨rfl, b⟩
      by_cases h2 : 16 < x1
      · clear hs'
        go_wp2_with fail
        go_ret
        exact ⟨rfl, b⟩
      by_cases h3 : x2 < 24
      · clear hs'
        go_wp2_with fail
        go_ret
        exact ⟨rfl, b⟩
      have h4 : 64 < x2 := by omega
      clear hs'
      go_wp2_with fail
      go_ret
      exact ⟨rfl, b⟩
    · have hs' : 4 ≤ x1 ∧ x1 ≤ 16 ∧ 24 ≤ x2 ∧ x2 ≤ 64 := of_decide_eq_true hs
      obtain ⟨g5, g6⟩ := mul_bnd hs'
      obtain ⟨g1, g2, g3, g4⟩ := hs'
      have HS := Lib.hid hs
      clear hs
      go_wp2_with fail
      refine (bound_any x1 x2 _).mono ?_
      rintro e w5 ⟨rfl, b5⟩
      replace b := below_step b b5
      clear b5
      rw [bndV_yes HS.out]
      go_wp2_with fail
      go_ret
      exact ⟨rfl, b⟩
  · rw [chV_yes hrr]
    have HRR := Lib.hid hrr
    have hk : nk0 ≤ 10000 ∧ nv0 ≤ 10000 := by unfold rightI at hrr; have := of_decide_eq_true hrr; omega
    clear hrr
    go_wp2_with fail
    refine (HR.out _).mono ?_
    rintro e w3 ⟨rfl, b3⟩
    replace k0 := k0.step b3
    replace b := below_step b b3
    clear b3
    rw [HRR.out]
    clear d0 d1 d2 d3 d4 d5
    obtain ⟨d0, d1, d2, d3, d4, d5⟩ := box6 k0
    generalize hcI : chI nk0 nv0 = cI
    go_wp2_with fail
    refine (H25.out _ hk.1 hk.2).mono ?_
    rintro e w4 ⟨rfl, b4⟩
    replace b := below_step b b4
    clear b4
    rw [hcI]
    clear d0 d1 d2 d3 d4 d5 hcI
    cases hs : sizedB x1 x2
    · have hs' : ¬ (4 ≤ x1 ∧ x1 ≤ 16 ∧ 24 ≤ x2 ∧ x2 ≤ 64) := of_decide_eq_false hs
      have HS := Lib.hid hs
      clear hs
      go_wp2_with fail
      refine (bound_any x1 x2 _).mono ?_
      rintro e w5 ⟨rfl, b5⟩
      replace b := below_step b b5
      clear b5
      rw [bndV_no HS.out]
      by_cases h1 : x1 < 4
      · clear hs'
        go_wp2_with fail
        go_ret
        exact ⟨rfl, b⟩
      by_cases h2 : 16 < x1
      · clear hs'
        go_wp2_with fail
        go_ret
        exact ⟨rfl, b⟩
      by_cases h3 : x2 < 24
      · clear hs'
        go_wp2_with fail
        go_ret
        exact ⟨rfl, b⟩
      have h4 : 64 < x2 := by omega
      clear hs'
      go_wp2_with fail
      go_ret
      exact ⟨rfl, b⟩
    · have hs' : 4 ≤ x1 ∧ x1 ≤ 16 ∧ 24 ≤ x2 ∧ x2 ≤ 64 := of_decide_eq_true hs
      obtain ⟨g5, g6⟩ := mul_bnd hs'
      obtain ⟨g1, g2, g3, g4⟩ := hs'
      have HS := Lib.hid hs
      clear hs
      go_wp2_with fail
      refine (bound_any x1 x2 _).mono ?_
      rintro e w5 ⟨rfl, b5⟩
      replace b := below_step b b5
      clear b5
      rw [bndV_yes HS.out]
      go_wp2_with fail
      go_ret
      exact ⟨rfl, b⟩


set_option maxRecDepth 100000 in
theorem lifted_spaceCharges (os : Os) (started : os.Started) (H : Type) (enc : TypeId × Value → H) :
    ReturnsInHanded {} Try.checked os 3 .any (Rows.spaceChargesSpec.pre6 enc Try.prog Try.f3 Rows.spaceChargesRow.domain false) (Rows.spaceChargesSpec.post enc Try.prog Try.f3 false true false false) := by
  refine returnsInHanded_of_change_sized (C := Try.checked) own started (by kernel_rfl) Try.func3
    (ChangeSpec.witness6 (enc := enc) (C := Try.checked) false ⟨#[], #[.agg #[.slice none 0 0, .slice none 0 0, .int .u32 0, .int .u32 0, .int .u64 0, .bool false], .int .i64 0, .int .i64 0], []⟩ 8 (by kernel_rfl) (by kernel_rfl) (by kernel_rfl) (by kernel_rfl)) ?_
  intro W base args ds gs before hval0 hW hcnd hsz0 _
  have hval : ∀ (j : Nat) t v, Try.f3.params[j]? = some t → args[j]? = some v → Value.okWide Try.prog W .any base t v := hval0
  have hsz : (DataW.weightsEach Try.prog (Try.f3.params.toList ++ Rows.spaceChargesSpec.plain.varTypes Try.prog) (ds ++ gs)).all (· ≤ reachBytes) = true := hsz0
  have hW' := hW
  obtain ⟨p, q, hA0, hV, rfl, hfz, hnd⟩ := hW
  have hA : DataW.TrodAll enc Try.prog W 0 (fun _ => true) true Try.f3.params.toList args.toList ds p := hA0
  rw [Try.params3] at hA hval hsz
  obtain ⟨v0, vs0, d0, ds0, p0, q0, hargs, rfl, rfl, h0, t0⟩ := trodAll_cons hA
  obtain ⟨v1, vs1, d1, ds1, p1, q1, rfl, rfl, rfl, h1, t1⟩ := trodAll_cons t0
  obtain ⟨v2, vs2, d2, ds2, p2, q2, rfl, rfl, rfl, h2, t2⟩ := trodAll_cons t1
  obtain ⟨rfl, rfl, rfl⟩ := trodAll_nil t2
  obtain rfl : args = #[v0, v1, v2] := by cases args; simp_all
  obtain ⟨rfl, rfl⟩ := trodVars_none hV
  have k0 := h0
  obtain ⟨AK0, nk0, ck0, lk0, AV0, nv0, cv0, lv0, fl0, ex0, sq0, bb0, rfl, r0, y0⟩ := open_item (hval 0 26 v0 rfl rfl) h0
  have s0 := y0 (weights_of hsz (j := 0) rfl rfl)
  have k1 := h1
  obtain ⟨x1, rfl, rfl, rfl, wf1⟩ := open_int Try.underlying3 (hval 1 3 v1 rfl rfl) h1
  have m1 := wf_int wf1
  have k2 := h2
  obtain ⟨x2, rfl, rfl, rfl, wf2⟩ := open_int Try.underlying3 (hval 2 3 v2 rfl rfl) h2
  have m2 := wf_int wf2
  clear hA0 hval0
  refine (walk_spaceCharges AK0 nk0 ck0 lk0 AV0 nv0 cv0 lv0 fl0 ex0 sq0 bb0 x1 x2 W r0 s0 m1 m2).mono fun e W' ⟨he, bel⟩ => ?_
  subst he
  exact ⟨_, rfl, _, _, _, [], _, [], hW', trodAll_mk1 (shut_bool Try.underlying4 _), (trodAll_cons_mk (Below.trod laidOut (by kernel_rfl) (of_decide_eq_true (by kernel_rfl)) k0 bel (trod_places k0)) (trodAll_cons_mk (Below.trod laidOut (by kernel_rfl) (of_decide_eq_true (by kernel_rfl)) k1 bel (trod_places k1)) (trodAll_cons_mk (Below.trod laidOut (by kernel_rfl) (of_decide_eq_true (by kernel_rfl)) k2 bel (trod_places k2)) trodAll_mk0))), rfl, bel.frame _, fun h => by cases h⟩

theorem over_spaceCharges : Rows.spaceChargesRow.holds Try.pinned (OpenSpec.ofChange Rows.spaceChargesSpec) :=
  OpenClaim.holds_of_wide 3 Try.f3 rfl rfl rfl rfl rfl rfl rfl ⟨rfl, rfl, rfl, rfl, rfl⟩ rfl rfl rfl rfl rfl (by kernel_rfl) Try.func3 (by kernel_rfl)
    (of_decide_eq_true (by kernel_rfl)) (by unfold Func.isWrapper; first | (rw [if_pos (by decide +kernel)]; kernel_rfl) | (rw [if_neg (by decide +kernel)]; exact ⟨rfl, rfl⟩))
    (fun os started H enc _ => lifted_spaceCharges os started H enc)

/-- The statement. -/
theorem spaceCharges_holds : Rows.SpaceChargesSaid := over_spaceCharges
#print axioms spaceCharges_holds

end Go.Proofs.Ytbofnmlddpbfeaa

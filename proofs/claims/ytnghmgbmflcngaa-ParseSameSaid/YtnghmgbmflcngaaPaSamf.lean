/- ParseSame: which requests are the same. Conditions: none. -/
import Derived.Test.YtnghmgbmflcngaaPaSame
import Derived.Test.YtnghmgbmflcngaaClo
import Derived.Test.YtnghmgbmflcngaaOpen
namespace Go.Proofs.Ytnghmgbmflcngaa
set_option linter.unusedVariables false
open Go.ChangeShapes Go.WideShapes Go.ChangeAt Go.RowKit


set_option maxRecDepth 100000 in
theorem lifted_parseSame (os : Os) (started : os.Started) (H : Type) (enc : TypeId × Value → H) :
    ReturnsInHanded {} Try.checked os 7 .any (Rows.parseSameSpec.pre6 enc Try.prog Try.f7 Rows.parseSameRow.domain false) (Rows.parseSameSpec.post enc Try.prog Try.f7 false true false false) := by
  refine returnsInHanded_of_change_sized (C := Try.checked) own started (by kernel_rfl) Try.func7
    (ChangeSpec.witness6 (enc := enc) (C := Try.checked) false ⟨#[], #[.agg #[.int .i64 0, .bool false, .bool false, .int .i64 0, .int .u32 0, .slice none 0 0, .slice none 0 0, .int .u32 0, .int .u32 0, .int .u64 0, .int .u64 0, .int .u64 0], .agg #[.int .i64 0, .bool false, .bool false, .int .i64 0, .int .u32 0, .slice none 0 0, .slice none 0 0, .int .u32 0, .int .u32 0, .int .u64 0, .int .u64 0, .int .u64 0]], []⟩ 8 (by kernel_rfl) (by kernel_rfl) (by kernel_rfl) (by kernel_rfl)) ?_
  intro W base args ds gs before hval0 hW hcnd hsz0 _
  have hval : ∀ (j : Nat) t v, Try.f7.params[j]? = some t → args[j]? = some v → Value.okWide Try.prog W .any base t v := hval0
  have hsz : (DataW.weightsEach Try.prog (Try.f7.params.toList ++ Rows.parseSameSpec.plain.varTypes Try.prog) (ds ++ gs)).all (· ≤ reachBytes) = true := hsz0
  have hW' := hW
  obtain ⟨p, q, hA0, hV, rfl, hfz, hnd⟩ := hW
  have hA : DataW.TrodAll enc Try.prog W 0 (fun _ => true) true Try.f7.params.toList args.toList ds p := hA0
  rw [Try.params7] at hA hval hsz
  obtain ⟨v0, vs0, d0, ds0, p0, q0, hargs, rfl, rfl, h0, t0⟩ := trodAll_cons hA
  obtain ⟨v1, vs1, d1, ds1, p1, q1, rfl, rfl, rfl, h1, t1⟩ := trodAll_cons t0
  obtain ⟨rfl, rfl, rfl⟩ := trodAll_nil t1
  obtain rfl : args = #[v0, v1] := by cases args; simp_all
  obtain ⟨rfl, rfl⟩ := trodVars_none hV
  have k0 := h0
  obtain ⟨op0, qt0, fu0, bd0, oq0, fl0, ex0, cs0, dl0, ni0, K0, nk0, ck0, lk0, V0, nv0, cv0, lv0, rfl, r0, y0⟩ := open_req (hval 0 26 v0 rfl rfl) h0
  have s0 := y0 (weights_of hsz (j := 0) rfl rfl)
  have k1 := h1
  obtain ⟨op1, qt1, fu1, bd1, oq1, fl1, ex1, cs1, dl1, ni1, K1, nk1, ck1, lk1, V1, nv1, cv1, lv1, rfl, r1, y1⟩ := open_req (hval 1 26 v1 rfl rfl) h1
  have s1 := y1 (weights_of hsz (j := 1) rfl rfl)
  clear hA0 hval0
  refine (walk_parseSame op0 qt0 fu0 bd0 oq0 fl0 ex0 cs0 dl0 ni0 K0 nk0 ck0 lk0 V0 nv0 cv0 lv0 op1 qt1 fu1 bd1 oq1 fl1 ex1 cs1 dl1 ni1 K1 nk1 ck1 lk1 V1 nv1 cv1 lv1 W r0 s0 r1 s1).mono fun e W' ⟨he, bel⟩ => ?_
  subst he
  exact ⟨_, rfl, _, _, _, [], _, [], hW', trodAll_mk1 (shut_bool Try.underlying4 _), (trodAll_cons_mk (Below.trod laidOut (by kernel_rfl) (of_decide_eq_true (by kernel_rfl)) k0 bel (trod_places k0)) (trodAll_cons_mk (Below.trod laidOut (by kernel_rfl) (of_decide_eq_true (by kernel_rfl)) k1 bel (trod_places k1)) trodAll_mk0)), rfl, bel.frame _, fun h => by cases h⟩

theorem closed_parseSame : joinedFacts Try.pinned.checked.prog 7 Try.f7 Rows.parseSameSpec Rows.parseSameRow = true := by
  unfold joinedFacts
  rw [clo_heard, clo_may, clo_lifts, clo_make]
  kernel_rfl
theorem over_parseSame : Rows.parseSameRow.holds Try.pinned (OpenSpec.ofChange Rows.parseSameSpec) :=
  OpenClaim.holds_of_wide 7 Try.f7 rfl rfl rfl rfl rfl rfl rfl ⟨rfl, rfl, rfl, rfl, rfl⟩ rfl rfl rfl rfl rfl (by kernel_rfl) Try.func7 closed_parseSame
    (of_decide_eq_true (by kernel_rfl)) (by unfold Func.isWrapper; first | (rw [if_pos (by decide +kernel)]; kernel_rfl) | (rw [if_neg (by decide +kernel)]; exact ⟨rfl, rfl⟩))
    (fun os started H enc _ => lifted_parseSame os started H enc)

/-- The statement. -/
theorem parseSame_holds : Rows.ParseSameSaid := over_parseSame
#print axioms parseSame_holds

end Go.Proofs.Ytnghmgbmflcngaa

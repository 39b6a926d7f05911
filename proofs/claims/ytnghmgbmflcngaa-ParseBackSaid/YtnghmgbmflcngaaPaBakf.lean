/- ParseBack: requests that are put as frames are told again. Conditions: none. -/
import Derived.Test.YtnghmgbmflcngaaPaBak
import Derived.Test.YtnghmgbmflcngaaClo
namespace Go.Proofs.Ytnghmgbmflcngaa
set_option linter.unusedVariables false
open Go.ChangeShapes Go.WideShapes Go.ChangeAt Go.RowKit


set_option maxRecDepth 100000 in
theorem lifted_parseBack (os : Os) (started : os.Started) (H : Type) (enc : TypeId × Value → H) :
    ReturnsInHanded {} Try.checked os 13 .any (Rows.parseBackSpec.pre6 enc Try.prog Try.f13 Rows.parseBackRow.domain false) (Rows.parseBackSpec.post enc Try.prog Try.f13 false true false false) := by
  refine returnsInHanded_of_change_sized (C := Try.checked) own started (by kernel_rfl) Try.func13
    (ChangeSpec.witness6 (enc := enc) (C := Try.checked) false ⟨#[], #[.slice none 0 0, .slice none 0 0], []⟩ 8 (by kernel_rfl) (by kernel_rfl) (by kernel_rfl) (by kernel_rfl)) ?_
  intro W base args ds gs before hval0 hW hcnd hsz0 _
  have hval : ∀ (j : Nat) t v, Try.f13.params[j]? = some t → args[j]? = some v → Value.okWide Try.prog W .any base t v := hval0
  have hsz : (DataW.weightsEach Try.prog (Try.f13.params.toList ++ Rows.parseBackSpec.plain.varTypes Try.prog) (ds ++ gs)).all (· ≤ reachBytes) = true := hsz0
  have hW' := hW
  obtain ⟨p, q, hA0, hV, rfl, hfz, hnd⟩ := hW
  have hA : DataW.TrodAll enc Try.prog W 0 (fun _ => true) true Try.f13.params.toList args.toList ds p := hA0
  rw [Try.params13] at hA hval hsz
  obtain ⟨v0, vs0, d0, ds0, p0, q0, hargs, rfl, rfl, h0, t0⟩ := trodAll_cons hA
  obtain ⟨v1, vs1, d1, ds1, p1, q1, rfl, rfl, rfl, h1, t1⟩ := trodAll_cons t0
  obtain ⟨rfl, rfl, rfl⟩ := trodAll_nil t1
  obtain rfl : args = #[v0, v1] := by cases args; simp_all
  obtain ⟨rfl, rfl⟩ := trodVars_none hV
  have k0 := h0
  obtain ⟨A0, n0, c0, qs0, L0, rfl, r0, y0⟩ := open_reqs (hval 0 75 v0 rfl rfl) h0
  have s0 := y0 (weights_of hsz (j := 0) rfl rfl)
  have k1 := h1
  obtain ⟨A1, n1, c1, l1, rfl, r1, y1⟩ := open_bytes (hval 1 23 v1 rfl rfl) h1
  have s1 := y1 (weights_of hsz (j := 1) rfl rfl)
  clear hA0 hval0
  refine (walk_parseBack A0 n0 c0 qs0 L0 A1 n1 c1 l1 W r0 s0 r1 s1).mono fun e W' ⟨he, bel⟩ => ?_
  subst he
  exact ⟨_, rfl, _, _, _, [], _, [], hW', trodAll_mk1 (shut_bool Try.underlying4 _), (trodAll_cons_mk (Below.trod laidOut (by kernel_rfl) (of_decide_eq_true (by kernel_rfl)) k0 bel (trod_places k0)) (trodAll_cons_mk (Below.trod laidOut (by kernel_rfl) (of_decide_eq_true (by kernel_rfl)) k1 bel (trod_places k1)) trodAll_mk0)), rfl, bel.frame _, fun h => by cases h⟩

theorem closed_parseBack : joinedFacts Try.pinned.checked.prog 13 Try.f13 Rows.parseBackSpec Rows.parseBackRow = true := by
  unfold joinedFacts
  rw [clo_heard, clo_may, clo_lifts, clo_make]
  kernel_rfl
theorem over_parseBack : Rows.parseBackRow.holds Try.pinned (OpenSpec.ofChange Rows.parseBackSpec) :=
  OpenClaim.holds_of_wide 13 Try.f13 rfl rfl rfl rfl rfl rfl rfl ⟨rfl, rfl, rfl, rfl, rfl⟩ rfl rfl rfl rfl rfl (by kernel_rfl) Try.func13 closed_parseBack
    (of_decide_eq_true (by kernel_rfl)) (by unfold Func.isWrapper; first | (rw [if_pos (by decide +kernel)]; kernel_rfl) | (rw [if_neg (by decide +kernel)]; exact ⟨rfl, rfl⟩))
    (fun os started H enc _ => lifted_parseBack os started H enc)

/-- The statement. -/
theorem parseBack_holds : Rows.ParseBackSaid := over_parseBack
#print axioms parseBack_holds

end Go.Proofs.Ytnghmgbmflcngaa

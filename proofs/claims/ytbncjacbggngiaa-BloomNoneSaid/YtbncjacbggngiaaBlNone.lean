/- BloomNone: a nil filter holds nothing. Conditions: none. -/
import Derived.Test.YtbncjacbggngiaaBlw
namespace Go.Proofs.Ytbncjacbggngiaa
set_option linter.unusedVariables false
open Go.ChangeShapes Go.WideShapes Go.ChangeAt Go.RowKit

set_option maxHeartbeats 1000000 in
theorem walk_bloomNone (x0 : Nat) (w : World) (m0 : (x0 : Int) ≤ 18446744073709551615) :
    Calls Try.prog 7 #[.int .u64 x0] w fun e w' => e = .returned (.bool true) ∧ Below w.heap.size w w' := by
  have b := Below.refl w.heap.size w
  have hx : x0 < 18446744073709551616 := by omega
  go_enter Try.func7, Try.ntmps7
  go_wp2_with fail
  refine (wakes04 _).mono ?_
  rintro e w1 ⟨rfl, b1⟩
  replace b := below_step b b1
  clear b1
  go_wp2_with fail
  refine (new_ok 1 (by decide) (by decide) 8 (by decide) _).mono ?_
  rintro e w2 ⟨g, rfl, f2, b2⟩
  have bb := below_step b b2
  go_wp2_with fail
  refine (add_nil x0 _).mono ?_
  rintro e w3 ⟨rfl, hq⟩
  subst hq
  go_wp2_with fail
  refine (may_nil x0 _).mono ?_
  rintro e w4 ⟨rfl, hq⟩
  subst hq
  go_wp2_with fail
  refine (join_nil1 _ _).mono ?_
  rintro e w5 ⟨rfl, hq⟩
  subst hq
  go_wp2_with fail
  refine (join_nil2 g _).mono ?_
  rintro e w6 ⟨rfl, hq⟩
  subst hq
  go_wp2_with fail
  refine (join_nil1 _ _).mono ?_
  rintro e w7 ⟨rfl, hq⟩
  subst hq
  go_wp2_with fail
  refine (bits_nil _).mono ?_
  rintro e w8 ⟨rfl, hq⟩
  subst hq
  go_wp2_with fail
  refine (set_nil _).mono ?_
  rintro e w9 ⟨rfl, hq⟩
  subst hq
  go_wp2_with fail
  refine (clear_nil _).mono ?_
  rintro e w10 ⟨rfl, hq⟩
  subst hq
  go_wp2_with fail
  refine (bytes_nil _).mono ?_
  rintro e w11 ⟨rfl, hq⟩
  subst hq
  go_wp2_with fail
  go_ret
  exact ⟨rfl, bb⟩


set_option maxRecDepth 100000 in
theorem lifted_bloomNone (os : Os) (started : os.Started) (H : Type) (enc : TypeId × Value → H) :
    ReturnsInHanded {} Try.checked os 7 .any (Rows.bloomNoneSpec.pre6 enc Try.prog Try.f7 Rows.bloomNoneRow.domain false) (Rows.bloomNoneSpec.post enc Try.prog Try.f7 false true false false) := by
  refine returnsInHanded_of_change_sized (C := Try.checked) own started (by kernel_rfl) Try.func7
    (ChangeSpec.witness6 (enc := enc) (C := Try.checked) false ⟨#[], #[.int .u64 0], []⟩ 8 (by kernel_rfl) (by kernel_rfl) (by kernel_rfl) (by kernel_rfl)) ?_
  intro W base args ds gs before hval0 hW hcnd hsz0 _
  have hval : ∀ (j : Nat) t v, Try.f7.params[j]? = some t → args[j]? = some v → Value.okWide Try.prog W .any base t v := hval0
  have hsz : (DataW.weightsEach Try.prog (Try.f7.params.toList ++ Rows.bloomNoneSpec.plain.varTypes Try.prog) (ds ++ gs)).all (· ≤ reachBytes) = true := hsz0
  have hW' := hW
  obtain ⟨p, q, hA0, hV, rfl, hfz, hnd⟩ := hW
  have hA : DataW.TrodAll enc Try.prog W 0 (fun _ => true) true Try.f7.params.toList args.toList ds p := hA0
  rw [Try.params7] at hA hval hsz
  obtain ⟨v0, vs0, d0, ds0, p0, q0, hargs, rfl, rfl, h0, t0⟩ := trodAll_cons hA
  obtain ⟨rfl, rfl, rfl⟩ := trodAll_nil t0
  obtain rfl : args = #[v0] := by cases args; simp_all
  obtain ⟨rfl, rfl⟩ := trodVars_none hV
  have k0 := h0
  obtain ⟨z0, rfl, rfl, rfl, wf0⟩ := open_int Try.underlying22 (hval 0 22 v0 rfl rfl) h0
  obtain ⟨x0, rfl, m0⟩ := wf_nat (M := 18446744073709551615) wf0 rfl rfl
  clear hA0 hval0
  refine (walk_bloomNone x0 W m0).mono fun e W' ⟨he, bel⟩ => ?_
  subst he
  exact ⟨_, rfl, _, _, _, [], _, [], hW', trodAll_mk1 (shut_bool Try.underlying4 _), (trodAll_cons_mk (Below.trod laidOut (by kernel_rfl) (of_decide_eq_true (by kernel_rfl)) k0 bel (trod_places k0)) trodAll_mk0), rfl, bel.frame _, fun h => by cases h⟩

theorem over_bloomNone : Rows.bloomNoneRow.holds Try.pinned (OpenSpec.ofChange Rows.bloomNoneSpec) :=
  OpenClaim.holds_of_wide 7 Try.f7 rfl rfl rfl rfl rfl rfl rfl ⟨rfl, rfl, rfl, rfl, rfl⟩ rfl rfl rfl rfl rfl (by kernel_rfl) Try.func7 (by kernel_rfl)
    (of_decide_eq_true (by kernel_rfl)) (by unfold Func.isWrapper; first | (rw [if_pos (by decide +kernel)]; kernel_rfl) | (rw [if_neg (by decide +kernel)]; exact ⟨rfl, rfl⟩))
    (fun os started H enc _ => lifted_bloomNone os started H enc)

/-- The statement. -/
theorem bloomNone_holds : Rows.BloomNoneSaid := over_bloomNone
#print axioms bloomNone_holds

end Go.Proofs.Ytbncjacbggngiaa

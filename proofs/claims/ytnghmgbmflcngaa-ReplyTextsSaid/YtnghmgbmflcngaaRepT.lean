/- ReplyTexts: the texts of whatever statuses are the document's, and what answers bytes that are no request. Conditions: none. -/
import Derived.Test.YtnghmgbmflcngaaZrep
import Derived.Test.YtnghmgbmflcngaaRbs
import Derived.Test.YtnghmgbmflcngaaOpen
import Derived.Test.YtnghmgbmflcngaaClo
namespace Go.Proofs.Ytnghmgbmflcngaa
set_option linter.unusedVariables false
open Go.ChangeShapes Go.WideShapes Go.ChangeAt Go.RowKit

theorem mal_is : rspB (codeB 0 false false) 0 (allP 0 false 4 0 0 0 [] [] []) = malB := by kernel_rfl
set_option maxRecDepth 100000 in
set_option maxHeartbeats 1000000 in
theorem walk_replyTexts (st : Int) (w : World) (hst : -9223372036854775808 ≤ st ∧ st ≤ 9223372036854775807) :
    Calls Try.prog 4 #[.int .i64 st] w fun e w' => e = .returned (.bool true) ∧ Below w.heap.size w w' := by
  have HB : Hid (∀ W, Calls Try.prog 28 #[.agg #[.int .i64 0, .bool false, .bool false, .int .i64 0, .int .u32 0, .slice none 0 0, .slice none 0 0, .int .u32 0, .int .u32 0, .int .u64 0, .int .u64 0, .int .u64 0], .agg #[.int .i64 4, .slice none 0 0, .int .u32 0, .int .u64 0, .int .u64 0, .slice none 0 0, .bool false]] W (RbQ malB true W)) := Lib.hid (fun W => (rbytes21_any 0 false false 0 0 (by decide) none 0 0 [] (.slice none 0 0) 0 0 0 0 0 4 none 0 0 [] 0 0 0 none 0 0 [] false W (Rd.nil _ _) (Rd.nil _ _) (Rz.nil _ _ _) rfl (by decide) (by decide) (by decide) (by decide) (by decide) (by decide) (fun p hp => by cases hp)).mono (fun e w' h => by rw [mal_is] at h; exact h))
  have HT := Lib.hid (fun W => text_any st W)
  have HR := Lib.hid (fun W => rtext_any st W)
  have he : (textB st == textB st) = true := by
    generalize textB st = x
    obtain ⟨d⟩ := x
    exact beq_self_eq_true (α := Array UInt8) d
  go_enter Try.func4, Try.ntmps4
  go_wp2_with fail
  refine (wakes21 _).mono ?_
  rintro e w1 ⟨rfl, b⟩
  go_wp2_with fail
  refine (HB.out _).mono ?_
  rintro e w2 ⟨A2, N2, c2, rfl, o2, b2⟩
  replace b := below_step b b2
  clear b2
  go_wp2_with fail
  refine (HT.out _).mono ?_
  rintro e w3 ⟨rfl, rfl⟩
  go_wp2_with fail
  refine (HR.out _).mono ?_
  rintro e w3 ⟨rfl, rfl⟩
  go_wp2_with fail
  refine (mal_any _).mono ?_
  rintro e w3 ⟨N3, A3, c3, rfl, o3, b3⟩
  have r2 := o2.rd.step b3
  have r3 := o3.rd
  replace b := below_step b b3
  clear b3 o2 o3
  have HS := Lib.hid (same_any A3 A2 N3 c3 N2 c2 w3.heap.size _ _ w3 r3 r2)
  go_wp2_with fail
  refine HS.out.mono ?_
  rintro e w4 ⟨rfl, hq⟩
  have b4 := quiet_self hq
  have h1 : eqB malB malB = true := decide_eq_true rfl
  rw [h1]
  replace b := below_step b b4
  clear b4 hq HS r2 r3
  go_wp2_with fail
  go_ret
  exact ⟨rfl, b⟩


set_option maxRecDepth 100000 in
theorem lifted_replyTexts (os : Os) (started : os.Started) (H : Type) (enc : TypeId × Value → H) :
    ReturnsInHanded {} Try.checked os 4 .any (Rows.replyTextsSpec.pre6 enc Try.prog Try.f4 Rows.replyTextsRow.domain false) (Rows.replyTextsSpec.post enc Try.prog Try.f4 false true false false) := by
  refine returnsInHanded_of_change_sized (C := Try.checked) own started (by kernel_rfl) Try.func4
    (ChangeSpec.witness6 (enc := enc) (C := Try.checked) false ⟨#[], #[.int .i64 0], []⟩ 8 (by kernel_rfl) (by kernel_rfl) (by kernel_rfl) (by kernel_rfl)) ?_
  intro W base args ds gs before hval0 hW hcnd hsz0 _
  have hval : ∀ (j : Nat) t v, Try.f4.params[j]? = some t → args[j]? = some v → Value.okWide Try.prog W .any base t v := hval0
  have hsz : (DataW.weightsEach Try.prog (Try.f4.params.toList ++ Rows.replyTextsSpec.plain.varTypes Try.prog) (ds ++ gs)).all (· ≤ reachBytes) = true := hsz0
  have hW' := hW
  obtain ⟨p, q, hA0, hV, rfl, hfz, hnd⟩ := hW
  have hA : DataW.TrodAll enc Try.prog W 0 (fun _ => true) true Try.f4.params.toList args.toList ds p := hA0
  rw [Try.params4] at hA hval hsz
  obtain ⟨v0, vs0, d0, ds0, p0, q0, hargs, rfl, rfl, h0, t0⟩ := trodAll_cons hA
  obtain ⟨rfl, rfl, rfl⟩ := trodAll_nil t0
  obtain rfl : args = #[v0] := by cases args; simp_all
  obtain ⟨rfl, rfl⟩ := trodVars_none hV
  have k0 := h0
  obtain ⟨x0, rfl, rfl, rfl, wf0⟩ := open_int Try.underlying3 (hval 0 3 v0 rfl rfl) h0
  have m0 := wf_int wf0
  clear hA0 hval0
  refine (walk_replyTexts x0 W m0).mono fun e W' ⟨he, bel⟩ => ?_
  subst he
  exact ⟨_, rfl, _, _, _, [], _, [], hW', trodAll_mk1 (shut_bool Try.underlying4 _), (trodAll_cons_mk (Below.trod laidOut (by kernel_rfl) (of_decide_eq_true (by kernel_rfl)) k0 bel (trod_places k0)) trodAll_mk0), rfl, bel.frame _, fun h => by cases h⟩

theorem closed_replyTexts : joinedFacts Try.pinned.checked.prog 4 Try.f4 Rows.replyTextsSpec Rows.replyTextsRow = true := by
  unfold joinedFacts
  rw [clo_heard, clo_may, clo_lifts, clo_make]
  kernel_rfl
theorem over_replyTexts : Rows.replyTextsRow.holds Try.pinned (OpenSpec.ofChange Rows.replyTextsSpec) :=
  OpenClaim.holds_of_wide 4 Try.f4 rfl rfl rfl rfl rfl rfl rfl ⟨rfl, rfl, rfl, rfl, rfl⟩ rfl rfl rfl rfl rfl (by kernel_rfl) Try.func4 closed_replyTexts
    (of_decide_eq_true (by kernel_rfl)) (by unfold Func.isWrapper; first | (rw [if_pos (by decide +kernel)]; kernel_rfl) | (rw [if_neg (by decide +kernel)]; exact ⟨rfl, rfl⟩))
    (fun os started H enc _ => lifted_replyTexts os started H enc)

/-- The statement. -/
theorem replyTexts_holds : Rows.ReplyTextsSaid := over_replyTexts
#print axioms replyTexts_holds

end Go.Proofs.Ytnghmgbmflcngaa

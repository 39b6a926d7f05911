/- ParseNone: a parser that is not there tells nothing. Conditions: none. -/
import Derived.Test.YtnghmgbmflcngaaWk20
import Derived.Test.YtnghmgbmflcngaaPrs
import Derived.Test.YtnghmgbmflcngaaOpen
namespace Go.Proofs.Ytnghmgbmflcngaa
set_option linter.unusedVariables false
open Go.ChangeShapes Go.WideShapes Go.ChangeAt Go.RowKit

set_option maxRecDepth 100000 in
set_option maxHeartbeats 1000000 in
theorem walk_parseNone (A : Option Addr) (n c : Nat) (l : List UInt8) (w : World) (r : Rd w w.heap.size A n c l) (s : c ≤ 140737488351232) :
    Calls Try.prog 9 #[.slice A n c] w fun e w' => e = .returned (.bool true) ∧ Below w.heap.size w w' := by
  have HS : Hid (∀ W, Calls Try.prog 45 #[.agg #[.int .i64 0, .bool false, .bool false, .int .i64 0, .int .u32 0, .slice none 0 0, .slice none 0 0, .int .u32 0, .int .u32 0, .int .u64 0, .int .u64 0, .int .u64 0], .agg #[.int .i64 0, .bool false, .bool false, .int .i64 0, .int .u32 0, .slice none 0 0, .slice none 0 0, .int .u32 0, .int .u32 0, .int .u64 0, .int .u64 0, .int .u64 0]] W (PSame true W)) := Lib.hid (fun W => rqsame_any 0 0 0 0 false false false false 0 0 0 0 0 0 0 0 0 0 0 0 none none none none 0 0 0 0 0 0 0 0 [] [] [] [] W (Rd.nil _ _) (Rd.nil _ _) (Rd.nil _ _) (Rd.nil _ _))
  have HN : Hid (∀ W, Calls Try.prog 49 #[.pointer none] W fun e w' => e = .returned (.tuple #[.agg #[.int .i64 0, .bool false, .bool false, .int .i64 0, .int .u32 0, .slice none 0 0, .slice none 0 0, .int .u32 0, .int .u32 0, .int .u64 0, .int .u64 0, .int .u64 0], .bool false, .int .i64 1]) ∧ Below W.heap.size W w') := Lib.hid next_nil
  go_enter Try.func9, Try.ntmps9
  go_wp2_with fail
  refine (wakes20 _).mono ?_
  rintro e w1 ⟨rfl, b⟩
  clear r
  go_wp2_with fail
  refine (HN.out _).mono ?_
  rintro e w2 ⟨rfl, b2⟩
  replace b := below_step b b2
  clear b2
  go_upto_region 5 with fail
  have k4 := Blk.new w2 #[.int .i64 0, .bool false, .bool false, .int .i64 0, .int .u32 0, .slice none 0 0, .slice none 0 0, .int .u32 0, .int .u32 0, .int .u64 0, .int .u64 0, .int .u64 0] 26
  have b1 := below_a1' (Below.refl w2.heap.size w2) (.cells #[.int .i64 0, .bool false, .bool false, .int .i64 0, .int .u32 0, .slice none 0 0, .slice none 0 0, .int .u32 0, .int .u32 0, .int .u64 0, .int .u64 0, .int .u64 0] 26)
  replace b := below_step b b1
  clear b1
  generalize w2.alloc (.cells #[.int .i64 0, .bool false, .bool false, .int .i64 0, .int .u32 0, .slice none 0 0, .slice none 0 0, .int .u32 0, .int .u32 0, .int .u64 0, .int .u64 0, .int .u64 0] 26) = W5 at b k4 ⊢
  obtain ⟨p0, p1, p2, p3, p4, p5, p6, p7, p8, p9, p10, p11⟩ := box12 k4
  go_wp2_with fail
  refine (feed_nil _ _ _ W5).mono ?_
  rintro e w6 ⟨rfl, rfl⟩
  go_wp2_with fail
  refine (HS.out _).mono ?_
  rintro e w7 ⟨rfl, b7⟩
  replace b := below_step b b7
  clear b7 p0 p1 p2 p3 p4 p5 p6 p7 p8 p9 p10 p11 k4
  go_wp2_with fail
  refine (held_nil _).mono ?_
  rintro e w8 ⟨rfl, rfl⟩
  go_wp2_with fail
  go_ret
  exact ⟨rfl, b⟩


set_option maxRecDepth 100000 in
theorem lifted_parseNone (os : Os) (started : os.Started) (H : Type) (enc : TypeId × Value → H) :
    ReturnsInHanded {} Try.checked os 9 .any (Rows.parseNoneSpec.pre6 enc Try.prog Try.f9 Rows.parseNoneRow.domain false) (Rows.parseNoneSpec.post enc Try.prog Try.f9 false true false false) := by
  refine returnsInHanded_of_change_sized (C := Try.checked) own started (by kernel_rfl) Try.func9
    (ChangeSpec.witness6 (enc := enc) (C := Try.checked) false ⟨#[], #[.slice none 0 0], []⟩ 8 (by kernel_rfl) (by kernel_rfl) (by kernel_rfl) (by kernel_rfl)) ?_
  intro W base args ds gs before hval0 hW hcnd hsz0 _
  have hval : ∀ (j : Nat) t v, Try.f9.params[j]? = some t → args[j]? = some v → Value.okWide Try.prog W .any base t v := hval0
  have hsz : (DataW.weightsEach Try.prog (Try.f9.params.toList ++ Rows.parseNoneSpec.plain.varTypes Try.prog) (ds ++ gs)).all (· ≤ reachBytes) = true := hsz0
  have hW' := hW
  obtain ⟨p, q, hA0, hV, rfl, hfz, hnd⟩ := hW
  have hA : DataW.TrodAll enc Try.prog W 0 (fun _ => true) true Try.f9.params.toList args.toList ds p := hA0
  rw [Try.params9] at hA hval hsz
  obtain ⟨v0, vs0, d0, ds0, p0, q0, hargs, rfl, rfl, h0, t0⟩ := trodAll_cons hA
  obtain ⟨rfl, rfl, rfl⟩ := trodAll_nil t0
  obtain rfl : args = #[v0] := by cases args; simp_all
  obtain ⟨rfl, rfl⟩ := trodVars_none hV
  have k0 := h0
  obtain ⟨A0, n0, c0, l0, rfl, r0, y0⟩ := open_bytes (hval 0 23 v0 rfl rfl) h0
  have s0 := y0 (weights_of hsz (j := 0) rfl rfl)
  clear hA0 hval0
  refine (walk_parseNone A0 n0 c0 l0 W r0 s0).mono fun e W' ⟨he, bel⟩ => ?_
  subst he
  exact ⟨_, rfl, _, _, _, [], _, [], hW', trodAll_mk1 (shut_bool Try.underlying4 _), (trodAll_cons_mk (Below.trod laidOut (by kernel_rfl) (of_decide_eq_true (by kernel_rfl)) k0 bel (trod_places k0)) trodAll_mk0), rfl, bel.frame _, fun h => by cases h⟩

theorem over_parseNone : Rows.parseNoneRow.holds Try.pinned (OpenSpec.ofChange Rows.parseNoneSpec) :=
  OpenClaim.holds_of_wide 9 Try.f9 rfl rfl rfl rfl rfl rfl rfl ⟨rfl, rfl, rfl, rfl, rfl⟩ rfl rfl rfl rfl rfl (by kernel_rfl) Try.func9 (by kernel_rfl)
    (of_decide_eq_true (by kernel_rfl)) (by unfold Func.isWrapper; first | (rw [if_pos (by decide +kernel)]; kernel_rfl) | (rw [if_neg (by decide +kernel)]; exact ⟨rfl, rfl⟩))
    (fun os started H enc _ => lifted_parseNone os started H enc)

/-- The statement. -/
theorem parseNone_holds : Rows.ParseNoneSaid := over_parseNone
#print axioms parseNone_holds

end Go.Proofs.Ytnghmgbmflcngaa

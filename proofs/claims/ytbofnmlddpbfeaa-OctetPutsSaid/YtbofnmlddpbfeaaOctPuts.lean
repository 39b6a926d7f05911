/- OctetPuts: numbers stand as their bytes, the highest first, behind whatever bytes. Conditions: none. -/
import Derived.Test.YtbofnmlddpbfeaaWake01
import Derived.Test.YtbofnmlddpbfeaaOpen
namespace Go.Proofs.Ytbofnmlddpbfeaa
set_option linter.unusedVariables false
open Go.ChangeShapes Go.WideShapes Go.ChangeAt Go.RowKit

theorem eqB_same {a b : List UInt8} (h : a = b) : eqB a b = true := decide_eq_true h
theorem highB2 (x : Nat) : highB (x % 65536) 2 = highB x 2 := highB_mod 2 x 2 (Nat.le_refl _)
theorem highB4 (x : Nat) : highB (x % 4294967296) 4 = highB x 4 := highB_mod 4 x 4 (Nat.le_refl _)

set_option maxHeartbeats 400000 in
theorem walk_octetPuts (A0 : Option Addr) (n0 c0 : Nat) (l0 : List UInt8) (x1 : Nat) (w : World) (r0 : Rd w w.heap.size A0 n0 c0 l0) (s0 : c0 ≤ 140737488351232) (m1 : (x1 : Int) ≤ 18446744073709551615) :
    Calls Try.prog 10 #[.slice A0 n0 c0, .int .u64 x1] w fun e w' => e = .returned (.bool true) ∧ Below w.heap.size w w' := by
  have hcap := r0.cap
  have b := Below.refl w.heap.size w
  have hx : x1 < 18446744073709551616 := by omega
  go_enter Try.func10, Try.ntmps10
  go_wp2_with fail
  refine (wakes01 _).mono ?_
  rintro e w1 ⟨rfl, b1⟩
  replace r0 := r0.step b1
  replace b := below_step b b1
  clear b1
  go_wp2_with fail
  refine (both_any A0 none n0 c0 0 0 _ l0 [] _ r0 (Rd.nil _ _) (Nat.le_refl _) (by omega)).mono ?_
  rintro e w2 ⟨A2, c2, rfl, o2, b2⟩
  have r2 := o2.rd
  replace r0 := r0.step b2
  replace b := below_step b b2
  clear b2
  rw [List.append_nil] at r2
  go_wp2_with fail
  rw [wrapu16]
  refine (put16_any A0 n0 c0 _ (x1 % 65536) (by omega) l0 _ r0 (Nat.le_refl _) (by omega)).mono ?_
  rintro e w3 ⟨A3, c3, rfl, o3, b3⟩
  have r3 := o3.rd
  replace r0 := r0.step b3
  replace r2 := r2.step b3
  replace b := below_step b b3
  clear b3
  go_wp2_with fail
  rw [modu32]
  refine (put32_any A0 n0 c0 _ (x1 % 4294967296) (by omega) l0 _ r0 (Nat.le_refl _) (by omega)).mono ?_
  rintro e w4 ⟨A4, c4, rfl, o4, b4⟩
  have r4 := o4.rd
  replace r0 := r0.step b4
  replace r2 := r2.step b4
  replace r3 := r3.step b4
  replace b := below_step b b4
  clear b4
  go_wp2_with fail
  refine (put64_any A0 n0 c0 _ x1 hx l0 _ r0 (Nat.le_refl _) (by omega)).mono ?_
  rintro e w5 ⟨A5, c5, rfl, o5, b5⟩
  have r5 := o5.rd
  replace r0 := r0.step b5
  replace r2 := r2.step b5
  replace r3 := r3.step b5
  replace r4 := r4.step b5
  replace b := below_step b b5
  clear b5
  go_wp2_with fail
  refine (high_any x1 2 hx (by omega) _).mono ?_
  rintro e w6 ⟨A6, c6, rfl, o6, b6⟩
  have r6 := o6.rd
  replace r0 := r0.step b6
  replace r2 := r2.step b6
  replace r3 := r3.step b6
  replace r4 := r4.step b6
  replace r5 := r5.step b6
  replace b := below_step b b6
  clear b6
  go_wp2_with fail
  refine (both_any _ _ _ _ _ _ _ _ _ _ r2 r6 (Nat.le_refl _) (by omega)).mono ?_
  rintro e w7 ⟨A7, c7, rfl, o7, b7⟩
  have r7 := o7.rd
  replace r0 := r0.step b7
  replace r2 := r2.step b7
  replace r3 := r3.step b7
  replace r4 := r4.step b7
  replace r5 := r5.step b7
  replace b := below_step b b7
  clear b7
  go_wp2_with fail
  refine (same_any _ _ _ _ _ _ _ _ _ _ r3 r7).mono ?_
  rintro e w8 ⟨rfl, hq⟩
  have b8 := quiet_self hq
  clear hq
  replace r0 := r0.step b8
  replace r2 := r2.step b8
  replace r4 := r4.step b8
  replace r5 := r5.step b8
  replace b := below_step b b8
  clear b8
  rw [eqB_same (by rw [highB2])]
  go_wp2_with fail
  refine (high_any x1 4 hx (by omega) _).mono ?_
  rintro e w9 ⟨A9, c9, rfl, o9, b9⟩
  have r9 := o9.rd
  replace r0 := r0.step b9
  replace r2 := r2.step b9
  replace r4 := r4.step b9
  replace r5 := r5.step b9
  replace b := below_step b b9
  clear b9
  go_wp2_with fail
  refine (both_any _ _ _ _ _ _ _ _ _ _ r2 r9 (Nat.le_refl _) (by omega)).mono ?_
  rintro e w10 ⟨A10, c10, rfl, o10, b10⟩
  have r10 := o10.rd
  replace r0 := r0.step b10
  replace r2 := r2.step b10
  replace r4 := r4.step b10
  replace r5 := r5.step b10
  replace b := below_step b b10
  clear b10
  go_wp2_with fail
  refine (same_any _ _ _ _ _ _ _ _ _ _ r4 r10).mono ?_
  rintro e w11 ⟨rfl, hq⟩
  have b11 := quiet_self hq
  clear hq
  replace r0 := r0.step b11
  replace r2 := r2.step b11
  replace r5 := r5.step b11
  replace b := below_step b b11
  clear b11
  rw [eqB_same (by rw [highB4])]
  go_wp2_with fail
  refine (high_any x1 8 hx (by omega) _).mono ?_
  rintro e w12 ⟨A12, c12, rfl, o12, b12⟩
  have r12 := o12.rd
  replace r0 := r0.step b12
  replace r2 := r2.step b12
  replace r5 := r5.step b12
  replace b := below_step b b12
  clear b12
  go_wp2_with fail
  refine (both_any _ _ _ _ _ _ _ _ _ _ r2 r12 (Nat.le_refl _) (by omega)).mono ?_
  rintro e w13 ⟨A13, c13, rfl, o13, b13⟩
  have r13 := o13.rd
  replace r0 := r0.step b13
  replace r2 := r2.step b13
  replace r5 := r5.step b13
  replace b := below_step b b13
  clear b13
  go_wp2_with fail
  refine (same_any _ _ _ _ _ _ _ _ _ _ r5 r13).mono ?_
  rintro e w14 ⟨rfl, hq⟩
  have b14 := quiet_self hq
  clear hq
  replace r0 := r0.step b14
  replace r2 := r2.step b14
  replace b := below_step b b14
  clear b14
  rw [eqB_same rfl]
  go_wp2_with fail
  refine (same_any _ _ _ _ _ _ _ _ _ _ r0 r2).mono ?_
  rintro e w15 ⟨rfl, hq⟩
  have b15 := quiet_self hq
  clear hq
  replace r0 := r0.step b15
  replace b := below_step b b15
  clear b15
  rw [eqB_same rfl]
  go_wp2_with fail
  go_ret
  exact ⟨rfl, b⟩


set_option maxRecDepth 100000 in
theorem lifted_octetPuts (os : Os) (started : os.Started) (H : Type) (enc : TypeId × Value → H) :
    ReturnsInHanded {} Try.checked os 10 .any (Rows.octetPutsSpec.pre6 enc Try.prog Try.f10 Rows.octetPutsRow.domain false) (Rows.octetPutsSpec.post enc Try.prog Try.f10 false true false false) := by
  refine returnsInHanded_of_change_sized (C := Try.checked) own started (by kernel_rfl) Try.func10
    (ChangeSpec.witness6 (enc := enc) (C := Try.checked) false ⟨#[], #[.slice none 0 0, .int .u64 0], []⟩ 8 (by kernel_rfl) (by kernel_rfl) (by kernel_rfl) (by kernel_rfl)) ?_
  intro W base args ds gs before hval0 hW hcnd hsz0 _
  have hval : ∀ (j : Nat) t v, Try.f10.params[j]? = some t → args[j]? = some v → Value.okWide Try.prog W .any base t v := hval0
  have hsz : (DataW.weightsEach Try.prog (Try.f10.params.toList ++ Rows.octetPutsSpec.plain.varTypes Try.prog) (ds ++ gs)).all (· ≤ reachBytes) = true := hsz0
  have hW' := hW
  obtain ⟨p, q, hA0, hV, rfl, hfz, hnd⟩ := hW
  have hA : DataW.TrodAll enc Try.prog W 0 (fun _ => true) true Try.f10.params.toList args.toList ds p := hA0
  rw [Try.params10] at hA hval hsz
  obtain ⟨v0, vs0, d0, ds0, p0, q0, hargs, rfl, rfl, h0, t0⟩ := trodAll_cons hA
  obtain ⟨v1, vs1, d1, ds1, p1, q1, rfl, rfl, rfl, h1, t1⟩ := trodAll_cons t0
  obtain ⟨rfl, rfl, rfl⟩ := trodAll_nil t1
  obtain rfl : args = #[v0, v1] := by cases args; simp_all
  obtain ⟨rfl, rfl⟩ := trodVars_none hV
  have k0 := h0
  obtain ⟨A0, n0, c0, l0, rfl, r0, y0⟩ := open_bytes (hval 0 22 v0 rfl rfl) h0
  have s0 := y0 (weights_of hsz (j := 0) rfl rfl)
  have k1 := h1
  obtain ⟨z1, rfl, rfl, rfl, wf1⟩ := open_int Try.underlying24 (hval 1 24 v1 rfl rfl) h1
  obtain ⟨x1, rfl, m1⟩ := wf_nat (M := 18446744073709551615) wf1 rfl rfl
  clear hA0 hval0
  refine (walk_octetPuts A0 n0 c0 l0 x1 W r0 s0 m1).mono fun e W' ⟨he, bel⟩ => ?_
  subst he
  exact ⟨_, rfl, _, _, _, [], _, [], hW', trodAll_mk1 (shut_bool Try.underlying4 _), (trodAll_cons_mk (Below.trod laidOut (by kernel_rfl) (of_decide_eq_true (by kernel_rfl)) k0 bel (trod_places k0)) (trodAll_cons_mk (Below.trod laidOut (by kernel_rfl) (of_decide_eq_true (by kernel_rfl)) k1 bel (trod_places k1)) trodAll_mk0)), rfl, bel.frame _, fun h => by cases h⟩

theorem over_octetPuts : Rows.octetPutsRow.holds Try.pinned (OpenSpec.ofChange Rows.octetPutsSpec) :=
  OpenClaim.holds_of_wide 10 Try.f10 rfl rfl rfl rfl rfl rfl rfl ⟨rfl, rfl, rfl, rfl, rfl⟩ rfl rfl rfl rfl rfl (by kernel_rfl) Try.func10 (by kernel_rfl)
    (of_decide_eq_true (by kernel_rfl)) (by unfold Func.isWrapper; first | (rw [if_pos (by decide +kernel)]; kernel_rfl) | (rw [if_neg (by decide +kernel)]; exact ⟨rfl, rfl⟩))
    (fun os started H enc _ => lifted_octetPuts os started H enc)

/-- The statement. -/
theorem octetPuts_holds : Rows.OctetPutsSaid := over_octetPuts
#print axioms octetPuts_holds

end Go.Proofs.Ytbofnmlddpbfeaa

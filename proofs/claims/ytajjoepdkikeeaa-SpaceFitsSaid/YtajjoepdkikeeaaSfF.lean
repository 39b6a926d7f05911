/- SpaceFits: whether whatever items fit into whatever plan is told as the document says, or refused. Conditions: none. -/
import Derived.Test.YtajjoepdkikeeaaSfR
namespace Go.Proofs.Ytajjoepdkikeeaa
set_option linter.unusedVariables false
open Go.ChangeShapes Go.WideShapes Go.ChangeAt Go.RowKit

theorem RowI.upto {W : World} {B B' : Nat} {A : Option Addr} {n c : Nat} {its : List IT} (h : RowI W B A n c its) (hB : B ≤ B') : RowI W B' A n c its := by
  obtain ⟨L, h1, ⟨h2, h3⟩, h4⟩ := h
  refine ⟨L, h1.more hB, ⟨h2, fun j t cs e1 e2 => ?_⟩, h4⟩
  obtain ⟨AK, nk, ck, AV, nv, cv, e, r1, r2⟩ := h3 j t cs e1 e2
  exact ⟨AK, nk, ck, AV, nv, cv, e, r1.more hB, r2.more hB⟩
set_option maxRecDepth 100000 in
set_option maxHeartbeats 4000000 in
theorem walk_spaceFits (s n k p c : Int) (A : Option Addr) (m cc : Nat) (its : List IT) (w : World) (hp : in64 s ∧ in64 n ∧ in64 k ∧ in64 p ∧ in64 c) (sp : True) (h : RowI w w.heap.size A m cc its) (sh : True) :
    Calls Try.prog 3 #[planV s n k p c, .slice A m cc] w fun e w' => e = .returned (.bool true) ∧ Below w.heap.size w w' := by
  have HPF : Hid (m ≤ 200 → ∀ W, Below w.heap.size w W → Calls Try.prog 5 #[planV s n k p c, .slice A m cc] W (FitQ (fitsR s n k p c its) W)) := Lib.hid (fun hm W b => fits_any s n k p c hp.2.2.1 A m cc its W ((h.below b).upto b.size) hm)
  have HRF : Hid (m ≤ 200 → ∀ W, Below w.heap.size w W → Calls Try.prog 6 #[planV s n k p c, .slice A m cc] W (FitQ (fitsR s n k p c its) W)) := Lib.hid (fun hm W b => rfits_any s n k p c A m cc its W ((h.below b).upto b.size) hm)
  generalize fitsR s n k p c its = R at HPF HRF
  obtain ⟨rb, re⟩ := R
  unfold planV at HPF HRF ⊢
  have k1 := Blk.new w #[.int .i64 s, .int .i64 n, .int .i64 k, .int .i64 p, .int .i64 c] 23
  have b := below_a1' (Below.refl w.heap.size w) (.cells #[.int .i64 s, .int .i64 n, .int .i64 k, .int .i64 p, .int .i64 c] 23)
  clear hp sp h sh
  go_enter Try.func3, Try.ntmps3
  go_upto_region 1 with fail
  generalize w.alloc (.cells #[.int .i64 s, .int .i64 n, .int .i64 k, .int .i64 p, .int .i64 c] 23) = W0 at k1 b ⊢
  go_wp2_with fail
  refine (wakes25 W0).mono ?_
  rintro e w1 ⟨rfl, b1⟩
  replace k1 := k1.step b1
  replace b := below_step b b1
  clear b1
  by_cases hm : 200 < m
  · have hm' : ((200 : Int) < (m : Int)) = True := eq_true (by omega)
    go_wp2_with fail
    go_ret
    exact ⟨rfl, b⟩
  have hm' : ((200 : Int) < (m : Int)) = False := eq_false (by omega)
  have HP1 := Lib.hid (HPF.out (by omega))
  have HR1 := Lib.hid (HRF.out (by omega))
  clear hm HPF HRF
  obtain ⟨q0, q1, q2, q3, q4⟩ := box5 k1
  go_wp2_with fail
  refine (HP1.out w1 b).mono ?_
  rintro e w2 ⟨rfl, b2⟩
  clear q0 q1 q2 q3 q4
  replace k1 := k1.step b2
  replace b := below_step b b2
  clear b2
  obtain ⟨q0, q1, q2, q3, q4⟩ := box5 k1
  go_wp2_with fail
  refine (HR1.out w2 b).mono ?_
  rintro e w3 ⟨rfl, b3⟩
  have HB := Lib.hid (below_step b b3)
  clear q0 q1 q2 q3 q4 k1 b b3
  have e1 : (rb == rb) = true := beq_self_eq_true _
  have e2 : (re == re) = true := beq_self_eq_true _
  go_wp2_with fail
  go_ret
  exact ⟨rfl, HB.out⟩

set_option maxRecDepth 100000 in
theorem lifted_spaceFits (os : Os) (started : os.Started) (H : Type) (enc : TypeId × Value → H) :
    ReturnsInHanded {} Try.checked os 3 .any (Rows.spaceFitsSpec.pre6 enc Try.prog Try.f3 Rows.spaceFitsRow.domain false) (Rows.spaceFitsSpec.post enc Try.prog Try.f3 false true false false) := by
  refine returnsInHanded_of_change_sized (C := Try.checked) own started (by kernel_rfl) Try.func3
    (ChangeSpec.witness6 (enc := enc) (C := Try.checked) false ⟨#[], #[.agg #[.int .i64 0, .int .i64 0, .int .i64 0, .int .i64 0, .int .i64 0], .slice none 0 0], []⟩ 8 (by kernel_rfl) (by kernel_rfl) (by kernel_rfl) (by kernel_rfl)) ?_
  intro W base args ds gs before hval0 hW hcnd hsz0 _
  have hval : ∀ (j : Nat) t v, Try.f3.params[j]? = some t → args[j]? = some v → Value.okWide Try.prog W .any base t v := hval0
  have hsz : (DataW.weightsEach Try.prog (Try.f3.params.toList ++ Rows.spaceFitsSpec.plain.varTypes Try.prog) (ds ++ gs)).all (· ≤ reachBytes) = true := hsz0
  have hW' := hW
  obtain ⟨p, q, hA0, hV, rfl, hfz, hnd⟩ := hW
  have hA : DataW.TrodAll enc Try.prog W 0 (fun _ => true) true Try.f3.params.toList args.toList ds p := hA0
  rw [Try.params3] at hA hval hsz
  obtain ⟨v0, vs0, d0, ds0, p0, q0, hargs, rfl, rfl, h0, t0⟩ := trodAll_cons hA
  obtain ⟨v1, vs1, d1, ds1, p1, q1, rfl, rfl, rfl, h1, t1⟩ := trodAll_cons t0
  obtain ⟨rfl, rfl, rfl⟩ := trodAll_nil t1
  obtain rfl : args = #[v0, v1] := by cases args; simp_all
  obtain ⟨rfl, rfl⟩ := trodVars_none hV
  have k0 := h0
  obtain ⟨zs0, zn0, zk0, zp0, zc0, rfl, r0, y0⟩ := open_plan (hval 0 23 v0 rfl rfl) h0
  have s0 := y0 (weights_of hsz (j := 0) rfl rfl)
  have k1 := h1
  obtain ⟨A1, zm1, zd1, its1, rfl, r1, y1⟩ := open_items (hval 1 24 v1 rfl rfl) h1
  have s1 := y1 (weights_of hsz (j := 1) rfl rfl)
  clear hA0 hval0
  refine (walk_spaceFits zs0 zn0 zk0 zp0 zc0 A1 zm1 zd1 its1 W r0 s0 r1 s1).mono fun e W' ⟨he, bel⟩ => ?_
  subst he
  exact ⟨_, rfl, _, _, _, [], _, [], hW', trodAll_mk1 (shut_bool Try.underlying4 _), (trodAll_cons_mk (Below.trod laidOut (by kernel_rfl) (of_decide_eq_true (by kernel_rfl)) k0 bel (trod_places k0)) (trodAll_cons_mk (Below.trod laidOut (by kernel_rfl) (of_decide_eq_true (by kernel_rfl)) k1 bel (trod_places k1)) trodAll_mk0)), rfl, bel.frame _, fun h => by cases h⟩

theorem over_spaceFits : Rows.spaceFitsRow.holds Try.pinned (OpenSpec.ofChange Rows.spaceFitsSpec) :=
  OpenClaim.holds_of_wide 3 Try.f3 rfl rfl rfl rfl rfl rfl rfl ⟨rfl, rfl, rfl, rfl, rfl⟩ rfl rfl rfl rfl rfl (by kernel_rfl) Try.func3 (by kernel_rfl)
    (of_decide_eq_true (by kernel_rfl)) (by unfold Func.isWrapper; first | (rw [if_pos (by decide +kernel)]; kernel_rfl) | (rw [if_neg (by decide +kernel)]; exact ⟨rfl, rfl⟩))
    (fun os started H enc _ => lifted_spaceFits os started H enc)

/-- The statement. -/
theorem spaceFits_holds : Rows.SpaceFitsSaid := over_spaceFits
#print axioms spaceFits_holds

end Go.Proofs.Ytajjoepdkikeeaa

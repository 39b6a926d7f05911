/- FramePuts: whatever frame is told in bytes as the document says, or refused. Conditions: none. -/
import Derived.Test.YtbmlpeomcagcjaaFrp
namespace Go.Proofs.Ytbmlpeomcagcjaa
set_option linter.unusedVariables false
open Go.ChangeShapes Go.WideShapes Go.ChangeAt Go.RowKit

def PutsQ (w : World) (e : Ending) (w' : World) : Prop := e = .returned (.bool true) ∧ Below w.heap.size w w'
theorem neInt {x : Int} (h : x ≠ 0) : (x != 0) = true := by rw [bne_iff_ne]; exact h
set_option maxRecDepth 20000 in
set_option maxHeartbeats 4000000 in
theorem puts_no (mg op kl el ty st bl oq cas : Nat) (hf : HdF mg op kl el ty st bl oq cas) (X K V : Option Addr) (nx cx nk ck nv cv : Nat) (hn : nx + nk + nv ≤ 9223372036854775807) (hw : wrongE mg kl el bl nx nk nv ≠ 0) (w : World) :
    Calls Try.prog 3 #[frV mg op kl el ty st bl oq cas (.slice X nx cx) (.slice K nk ck) (.slice V nv cv)] w (PutsQ w) := by
  have k0 : Blk _ _ (frC mg op kl el ty st bl oq cas (.slice X nx cx) (.slice K nk ck) (.slice V nv cv)) _ := Blk.new w _ 29
  have b : Below w.heap.size w (w.alloc (.cells (frC mg op kl el ty st bl oq cas (.slice X nx cx) (.slice K nk ck) (.slice V nv cv)) 29)) := below_a1' (Below.refl _ _) _
  have hP := fun W => put_no mg op kl el ty st bl oq cas hf X K V nx cx nk ck nv cv hn hw W
  have hW := fun W => wrong19_any mg op kl el ty st bl oq cas hf X K V nx cx nk ck nv cv hn W
  have tn := neInt hw
  generalize wrongE mg kl el bl nx nk nv = er at hP hW tn
  unfold frV frC at hP hW
  have HP := Lib.hid hP
  have HW := Lib.hid hW
  clear hP hW hf hw
  unfold frV
  unfold frC at *
  go_enter Try.func3, Try.ntmps3
  go_wp2_with fail
  refine (wakes19 _).mono ?_
  rintro e w1 ⟨rfl, b1⟩
  replace k0 := k0.step b1
  replace b := below_step b b1
  obtain ⟨q0, q1, q2, q3, q4, q5, q6, q7, q8, q9, q10, q11⟩ := box12 k0
  go_wp2_with fail
  refine (HP.out _).mono ?_
  rintro e w2 ⟨rfl, b2⟩
  replace k0 := k0.step b2
  replace b := below_step b b2
  clear q0 q1 q2 q3 q4 q5 q6 q7 q8 q9 q10 q11 b1 b2
  obtain ⟨q0, q1, q2, q3, q4, q5, q6, q7, q8, q9, q10, q11⟩ := box12 k0
  go_wp2_with fail
  refine (HW.out _).mono ?_
  rintro e w3 ⟨rfl, b3⟩
  replace b := below_step b b3
  go_wp2_with fail
  go_ret
  exact ⟨rfl, b⟩
set_option maxRecDepth 20000 in
set_option maxHeartbeats 4000000 in
theorem puts_ok (mg op kl el ty st bl oq cas : Nat) (hf : HdF mg op kl el ty st bl oq cas) (X K V : Option Addr) (nx cx nk ck nv cv : Nat) (hn : nx + nk + nv ≤ 9223372036854775807) (h0 : mayB mg kl el bl = true) (h1 : nx = el) (h2 : nk = kl) (h3 : nx + nk + nv = bl) (h4 : ¬ 2048 < bl)
    (lx lk lv : List UInt8) (w : World) (rx : Rd w w.heap.size X nx cx lx) (rk : Rd w w.heap.size K nk ck lk) (rv : Rd w w.heap.size V nv cv lv) :
    Calls Try.prog 3 #[frV mg op kl el ty st bl oq cas (.slice X nx cx) (.slice K nk ck) (.slice V nv cv)] w (PutsQ w) := by
  have k0 : Blk _ _ (frC mg op kl el ty st bl oq cas (.slice X nx cx) (.slice K nk ck) (.slice V nv cv)) _ := Blk.new w _ 29
  have b : Below w.heap.size w (w.alloc (.cells (frC mg op kl el ty st bl oq cas (.slice X nx cx) (.slice K nk ck) (.slice V nv cv)) 29)) := below_a1' (Below.refl _ _) _
  have hP := fun W r1 r2 r3 => put_O mg op kl el ty st bl oq cas hf X K V nx cx nk ck nv cv hn h0 h1 h2 h3 h4 lx lk lv W r1 r2 r3
  have hW := fun W => wrong19_any mg op kl el ty st bl oq cas hf X K V nx cx nk ck nv cv hn W
  rw [show wrongE mg kl el bl nx nk nv = 0 from by unfold wrongE; rw [if_pos ⟨h0, h1, h2, h3⟩, if_neg h4]] at hW
  have hB := fun W r1 r2 r3 => rbytes19 mg op kl el ty st bl oq cas hf X K V nx cx nk ck nv cv (by omega) lx lk lv W r1 r2 r3
  have el1 : 24 + nx + nk + nv = 24 + nx + (nk + nv) := by omega
  rw [el1, List.append_assoc (hdB mg op kl el ty st bl oq cas ++ lx)] at hP
  generalize hdB mg op kl el ty st bl oq cas ++ lx ++ (lk ++ lv) = ll at hP hB
  generalize 24 + nx + (nk + nv) = nn at hP hB
  unfold frV frC at hP hW hB
  have HP := Lib.hid hP
  have HW := Lib.hid hW
  have HB := Lib.hid hB
  clear hP hW hB hf h0 h1 h2 h3 h4 el1
  unfold frV
  unfold frC at *
  go_enter Try.func3, Try.ntmps3
  go_wp2_with fail
  refine (wakes19 _).mono ?_
  rintro e w1 ⟨rfl, b1⟩
  replace k0 := k0.step b1
  replace b := below_step b b1
  obtain ⟨q0, q1, q2, q3, q4, q5, q6, q7, q8, q9, q10, q11⟩ := box12 k0
  go_wp2_with fail
  refine (HP.out _ ((rx.below b).more b.size) ((rk.below b).more b.size) ((rv.below b).more b.size)).mono ?_
  rintro e w2 ⟨A2, c2, rfl, o2, b2⟩
  replace k0 := k0.step b2
  replace b := below_step b b2
  clear q0 q1 q2 q3 q4 q5 q6 q7 q8 q9 q10 q11 b1 b2
  obtain ⟨q0, q1, q2, q3, q4, q5, q6, q7, q8, q9, q10, q11⟩ := box12 k0
  go_wp2_with fail
  refine (HW.out _).mono ?_
  rintro e w3 ⟨rfl, b3⟩
  replace k0 := k0.step b3
  replace b := below_step b b3
  replace o2 := o2.step b3
  clear q0 q1 q2 q3 q4 q5 q6 q7 q8 q9 q10 q11 b3
  obtain ⟨q0, q1, q2, q3, q4, q5, q6, q7, q8, q9, q10, q11⟩ := box12 k0
  go_wp2_with fail
  refine (HB.out _ ((rx.below b).more b.size) ((rk.below b).more b.size) ((rv.below b).more b.size)).mono ?_
  rintro e w4 ⟨A4, c4, rfl, o4, b4⟩
  replace b := below_step b b4
  replace o2 := o2.step b4
  clear q0 q1 q2 q3 q4 q5 q6 q7 q8 q9 q10 q11 b4
  go_wp2_with fail
  refine (same_any A2 A4 nn c2 nn c4 w4.heap.size ll ll _ o2.rd o4.rd).mono ?_
  rintro e w5 ⟨rfl, hq⟩
  replace b := below_step b (quiet_self hq)
  rw [eqB_rfl]
  clear hq
  go_wp2_with fail
  go_ret
  exact ⟨rfl, b⟩

theorem walk_framePuts (mg op kl el ty st bl oq cas : Nat) (AX : Option Addr) (nx cx : Nat) (lx : List UInt8) (AK : Option Addr) (nk ck : Nat) (lk : List UInt8) (AV : Option Addr) (nv cv : Nat) (lv : List UInt8) (w : World)
    (r0 : Frm w mg op kl el ty st bl oq cas AX nx cx lx AK nk ck lk AV nv cv lv) (s0 : cx ≤ 140737488351232 ∧ ck ≤ 140737488351232 ∧ cv ≤ 140737488351232) :
    Calls Try.prog 3 #[frV mg op kl el ty st bl oq cas (.slice AX nx cx) (.slice AK nk ck) (.slice AV nv cv)] w fun e w' => e = .returned (.bool true) ∧ Below w.heap.size w w' := by
  obtain ⟨hf, rx, rk, rv⟩ := r0
  have e1 := rx.cap
  have e2 := rk.cap
  have e3 := rv.cap
  obtain ⟨s1, s2, s3⟩ := s0
  by_cases hw : wrongE mg kl el bl nx nk nv = 0
  · have hc : mayB mg kl el bl = true ∧ nx = el ∧ nk = kl ∧ nx + nk + nv = bl := by
      by_cases h : mayB mg kl el bl = true ∧ nx = el ∧ nk = kl ∧ nx + nk + nv = bl
      · exact h
      · unfold wrongE at hw; rw [if_neg h] at hw; omega
    have h4 : ¬ 2048 < bl := fun h => by unfold wrongE at hw; rw [if_pos hc, if_pos h] at hw; omega
    exact (puts_ok mg op kl el ty st bl oq cas hf AX AK AV nx cx nk ck nv cv (by omega) hc.1 hc.2.1 hc.2.2.1 hc.2.2.2 h4 lx lk lv w rx rk rv).mono fun _ _ h => h
  · exact (puts_no mg op kl el ty st bl oq cas hf AX AK AV nx cx nk ck nv cv (by omega) hw w).mono fun _ _ h => h


set_option maxRecDepth 100000 in
theorem lifted_framePuts (os : Os) (started : os.Started) (H : Type) (enc : TypeId × Value → H) :
    ReturnsInHanded {} Try.checked os 3 .any (Rows.framePutsSpec.pre6 enc Try.prog Try.f3 Rows.framePutsRow.domain false) (Rows.framePutsSpec.post enc Try.prog Try.f3 false true false false) := by
  refine returnsInHanded_of_change_sized (C := Try.checked) own started (by kernel_rfl) Try.func3
    (ChangeSpec.witness6 (enc := enc) (C := Try.checked) false ⟨#[], #[.agg #[.int .u8 0, .int .u8 0, .int .u16 0, .int .u8 0, .int .u8 0, .int .u16 0, .int .u32 0, .int .u32 0, .int .u64 0, .slice none 0 0, .slice none 0 0, .slice none 0 0]], []⟩ 8 (by kernel_rfl) (by kernel_rfl) (by kernel_rfl) (by kernel_rfl)) ?_
  intro W base args ds gs before hval0 hW hcnd hsz0 _
  have hval : ∀ (j : Nat) t v, Try.f3.params[j]? = some t → args[j]? = some v → Value.okWide Try.prog W .any base t v := hval0
  have hsz : (DataW.weightsEach Try.prog (Try.f3.params.toList ++ Rows.framePutsSpec.plain.varTypes Try.prog) (ds ++ gs)).all (· ≤ reachBytes) = true := hsz0
  have hW' := hW
  obtain ⟨p, q, hA0, hV, rfl, hfz, hnd⟩ := hW
  have hA : DataW.TrodAll enc Try.prog W 0 (fun _ => true) true Try.f3.params.toList args.toList ds p := hA0
  rw [Try.params3] at hA hval hsz
  obtain ⟨v0, vs0, d0, ds0, p0, q0, hargs, rfl, rfl, h0, t0⟩ := trodAll_cons hA
  obtain ⟨rfl, rfl, rfl⟩ := trodAll_nil t0
  obtain rfl : args = #[v0] := by cases args; simp_all
  obtain ⟨rfl, rfl⟩ := trodVars_none hV
  have k0 := h0
  obtain ⟨mg0, op0, kl0, el0, ty0, st0, bl0, oq0, cas0, AX0, nx0, cx0, lx0, AK0, nk0, ck0, lk0, AV0, nv0, cv0, lv0, rfl, r0, y0⟩ := open_frame (hval 0 29 v0 rfl rfl) h0
  have s0 := y0 (weights_of hsz (j := 0) rfl rfl)
  clear hA0 hval0
  refine (walk_framePuts mg0 op0 kl0 el0 ty0 st0 bl0 oq0 cas0 AX0 nx0 cx0 lx0 AK0 nk0 ck0 lk0 AV0 nv0 cv0 lv0 W r0 s0).mono fun e W' ⟨he, bel⟩ => ?_
  subst he
  exact ⟨_, rfl, _, _, _, [], _, [], hW', trodAll_mk1 (shut_bool Try.underlying4 _), (trodAll_cons_mk (Below.trod laidOut (by kernel_rfl) (of_decide_eq_true (by kernel_rfl)) k0 bel (trod_places k0)) trodAll_mk0), rfl, bel.frame _, fun h => by cases h⟩

theorem over_framePuts : Rows.framePutsRow.holds Try.pinned (OpenSpec.ofChange Rows.framePutsSpec) :=
  OpenClaim.holds_of_wide 3 Try.f3 rfl rfl rfl rfl rfl rfl rfl ⟨rfl, rfl, rfl, rfl, rfl⟩ rfl rfl rfl rfl rfl (by kernel_rfl) Try.func3 (by kernel_rfl)
    (of_decide_eq_true (by kernel_rfl)) (by unfold Func.isWrapper; first | (rw [if_pos (by decide +kernel)]; kernel_rfl) | (rw [if_neg (by decide +kernel)]; exact ⟨rfl, rfl⟩))
    (fun os started H enc _ => lifted_framePuts os started H enc)

/-- The statement. -/
theorem framePuts_holds : Rows.FramePutsSaid := over_framePuts
#print axioms framePuts_holds

end Go.Proofs.Ytbmlpeomcagcjaa

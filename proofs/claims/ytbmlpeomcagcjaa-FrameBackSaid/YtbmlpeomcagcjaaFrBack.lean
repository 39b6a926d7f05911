/- FrameBack: a frame that was put is got, whatever stands behind it; with a byte less it is too short. Conditions: those of the given row alone. -/
import Derived.Test.YtbmlpeomcagcjaaFrv
namespace Go.Proofs.Ytbmlpeomcagcjaa
set_option linter.unusedVariables false
open Go.RowKit Go.ChangeShapes Go.WideShapes Go.ChangeAt

def BackQ (w : World) (e : Ending) (w' : World) : Prop := e = .returned (.bool true) ∧ Below w.heap.size w w'
set_option maxRecDepth 20000 in
set_option maxHeartbeats 4000000 in
theorem back_no (mg op oq : Nat) (AX : Option Addr) (nx cx : Nat) (AK : Option Addr) (nk ck : Nat) (AV : Option Addr) (nv cv : Nat) (AT : Option Addr) (nt ct : Nat) (w : World) (err : Int) (he : err ≠ 0)
    (hM : ∀ w, Calls Try.prog 20 #[.int .u8 mg, .int .u8 op, .int .u32 oq, .slice AX nx cx, .slice AK nk ck, .slice AV nv cv] w (MakeE err w)) :
    Calls Try.prog 13 #[mdV mg op oq (.slice AX nx cx) (.slice AK nk ck) (.slice AV nv cv), .slice AT nt ct] w (BackQ w) := by
  have k0 := Blk.new w #[.int .u8 (mg : Nat), .int .u8 (op : Nat), .int .u32 (oq : Nat), .slice AX nx cx, .slice AK nk ck, .slice AV nv cv] 39
  have b : Below w.heap.size w (w.alloc (.cells #[.int .u8 (mg : Nat), .int .u8 (op : Nat), .int .u32 (oq : Nat), .slice AX nx cx, .slice AK nk ck, .slice AV nv cv] 39)) := below_a1' (Below.refl _ _) _
  have HM := Lib.hid hM
  have tn := neInt' he
  clear hM he
  unfold mdV
  go_enter Try.func13, Try.ntmps13
  go_wp2_with fail
  refine (wakes19 _).mono ?_
  rintro e w1 ⟨rfl, b1⟩
  replace k0 := k0.step b1
  replace b := below_step b b1
  obtain ⟨q0, q1, q2, q3, q4, q5⟩ := box6 k0
  go_wp2_with fail
  refine (HM.out _).mono ?_
  rintro e w2 ⟨rfl, b2⟩
  replace b := below_step b b2
  unfold zeroFr
  go_wp2_with fail
  go_ret
  exact ⟨rfl, below_a1' b _⟩
set_option maxRecDepth 20000 in
set_option maxHeartbeats 8000000 in
theorem back_ok (mg op kl el ty st bl oq cas nv N : Nat) (AX : Option Addr) (cx : Nat) (AK : Option Addr) (ck : Nat) (AV : Option Addr) (cv : Nat) (lx lk lv lt L : List UInt8) (AT : Option Addr) (nt ct : Nat) (w : World)
    (rx : Rd w w.heap.size AX el cx lx) (rk : Rd w w.heap.size AK kl ck lk) (rv : Rd w w.heap.size AV nv cv lv) (rt : Rd w w.heap.size AT nt ct lt) (hct : ct ≤ 140737488351232) (hN1 : 1 ≤ N) (hN2 : N ≤ 3000)
    (hM : ∀ w, Rd w w.heap.size AX el cx lx → Rd w w.heap.size AK kl ck lk → Rd w w.heap.size AV nv cv lv → Calls Try.prog 20 #[.int .u8 mg, .int .u8 op, .int .u32 oq, .slice AX el cx, .slice AK kl ck, .slice AV nv cv] w fun e w' =>
      ∃ (X K V : Option Addr) (cx ck cv : Nat), e = .returned (.tuple #[frV mg op kl el ty st bl oq cas (.slice X el cx) (.slice K kl ck) (.slice V nv cv), .int .i64 0]) ∧ Rd w' w'.heap.size X el cx lx ∧ Rd w' w'.heap.size K kl ck lk ∧ Rd w' w'.heap.size V nv cv lv ∧ Below w.heap.size w w')
    (hP : ∀ X K V cx ck cv w, Rd w w.heap.size X el cx lx → Rd w w.heap.size K kl ck lk → Rd w w.heap.size V nv cv lv → Calls Try.prog 16 #[frV mg op kl el ty st bl oq cas (.slice X el cx) (.slice K kl ck) (.slice V nv cv)] w (PutOk N L w))
    (hG : ∀ A n c w, Rd w w.heap.size A n c (L ++ lt) → Calls Try.prog 40 #[.slice A n c] w (GetM mg op kl el ty st bl oq cas el kl nv lx lk lv N w))
    (hS : ∀ A c w, Rd w w.heap.size A (N - 1) c (L.take (N - 1)) → Calls Try.prog 40 #[.slice A (N - 1) c] w (GetNo 9 w)) :
    Calls Try.prog 13 #[mdV mg op oq (.slice AX el cx) (.slice AK kl ck) (.slice AV nv cv), .slice AT nt ct] w (BackQ w) := by
  have k0 := Blk.new w #[.int .u8 (mg : Nat), .int .u8 (op : Nat), .int .u32 (oq : Nat), .slice AX el cx, .slice AK kl ck, .slice AV nv cv] 39
  have b : Below w.heap.size w (w.alloc (.cells #[.int .u8 (mg : Nat), .int .u8 (op : Nat), .int .u32 (oq : Nat), .slice AX el cx, .slice AK kl ck, .slice AV nv cv] 39)) := below_a1' (Below.refl _ _) _
  have HM := Lib.hid hM
  have HP := Lib.hid hP
  have HG := Lib.hid hG
  have HS := Lib.hid hS
  have hcap := rt.cap
  clear hM hP hG hS
  unfold mdV
  go_enter Try.func13, Try.ntmps13
  go_wp2_with fail
  refine (wakes19 _).mono ?_
  rintro e w1 ⟨rfl, b1⟩
  replace k0 := k0.step b1
  replace b := below_step b b1
  obtain ⟨q0, q1, q2, q3, q4, q5⟩ := box6 k0
  go_wp2_with fail
  refine (HM.out _ ((rx.below b).more b.size) ((rk.below b).more b.size) ((rv.below b).more b.size)).mono ?_
  rintro e w2 ⟨X, K, V, cx', ck', cv', rfl, rX, rK, rV, b2⟩
  replace k0 := k0.step b2
  replace b := below_step b b2
  clear q0 q1 q2 q3 q4 q5 b1 b2
  have kF := Blk.new w2 #[.int .u8 (mg : Nat), .int .u8 (op : Nat), .int .u16 (kl : Nat), .int .u8 (el : Nat), .int .u8 (ty : Nat), .int .u16 (st : Nat), .int .u32 (bl : Nat), .int .u32 (oq : Nat), .int .u64 (cas : Nat), .slice X el cx', .slice K kl ck', .slice V nv cv'] 29
  have ba := below_a1' (Below.refl w2.heap.size w2) (.cells #[.int .u8 (mg : Nat), .int .u8 (op : Nat), .int .u16 (kl : Nat), .int .u8 (el : Nat), .int .u8 (ty : Nat), .int .u16 (st : Nat), .int .u32 (bl : Nat), .int .u32 (oq : Nat), .int .u64 (cas : Nat), .slice X el cx', .slice K kl ck', .slice V nv cv'] 29)
  replace b := below_step b ba
  replace k0 := k0.step ba
  have HPW := Lib.hid (HP.out X K V cx' ck' cv' _ ((rX.below ba).more ba.size) ((rK.below ba).more ba.size) ((rV.below ba).more ba.size))
  clear ba rX rK rV HP HM
  unfold frV frC at *
  go_wp2_with fail
  refine HPW.out.mono ?_
  rintro e w3 ⟨C, cc, rfl, oC, b3⟩
  replace k0 := k0.step b3
  replace kF := kF.step b3
  replace b := below_step b b3
  have rC := oC.rd
  have hcC := rC.max
  clear HPW b3 oC
  go_wp2_with (at_builtin; refine wpList_app8 _ rfl _ _ rfl w3.heap.size (some ⟨w3.heap.size, 0, none⟩) 0 0 [] rfl (Own.empty w3 _ (Nat.le_refl _)) w3.heap.size C N cc L rfl (rC.alloc (Nat.le_refl _) _) (by omega) (by simp) ?_)
  intro A4 c4 w4 o4 b4
  have b4' : Below w3.heap.size w3 w4 := ((Below.refl _ _).alloc (Nat.le_refl _) _).trans b4
  go_wp2_with (at_builtin; refine wpList_app8 _ rfl _ _ rfl w3.heap.size A4 N c4 L rfl o4 w.heap.size AT nt ct lt rfl (rt.below (below_step b b4')) (by omega) b4'.size ?_)
  intro A5 c5 w5 o5 b5
  have b5' := b4'.trans b5
  replace k0 := k0.step b5'
  replace kF := kF.step b5'
  replace rC := (rC.below b5').more b5'.size
  replace b := below_step b b5'
  clear b4 b4' b5 b5' o4
  go_wp2_with fail
  refine (HG.out A5 (N + nt) c5 _ o5.rd).mono ?_
  rintro e w6 ⟨X2, cx2, K2, ck2, V2, cv2, rfl, rX, rK, rV, b6⟩
  replace k0 := k0.step b6
  replace kF := kF.step b6
  replace rC := (rC.below b6).more b6.size
  replace b := below_step b b6
  have kG := Blk.new w6 #[.int .u8 (mg : Nat), .int .u8 (op : Nat), .int .u16 (kl : Nat), .int .u8 (el : Nat), .int .u8 (ty : Nat), .int .u16 (st : Nat), .int .u32 (bl : Nat), .int .u32 (oq : Nat), .int .u64 (cas : Nat), .slice X2 el cx2, .slice K2 kl ck2, .slice V2 nv cv2] 29
  have ba := below_a1' (Below.refl w6.heap.size w6) (.cells #[.int .u8 (mg : Nat), .int .u8 (op : Nat), .int .u16 (kl : Nat), .int .u8 (el : Nat), .int .u8 (ty : Nat), .int .u16 (st : Nat), .int .u32 (bl : Nat), .int .u32 (oq : Nat), .int .u64 (cas : Nat), .slice X2 el cx2, .slice K2 kl ck2, .slice V2 nv cv2] 29)
  replace k0 := k0.step ba
  replace kF := kF.step ba
  replace rC := (rC.below ba).more ba.size
  replace rX := (rX.below ba).more ba.size
  replace rK := (rK.below ba).more ba.size
  replace rV := (rV.below ba).more ba.size
  replace b := below_step b ba
  obtain ⟨S, cs, HSl, hSr⟩ := slc_h rC (N - 1) ((N : Int) - 1) (by omega) (by omega)
  have HSW := Lib.hid (HS.out S cs _ (hSr _ _ rC))
  clear ba b6 HG HS o5 hSr
  unfold frV frC
  go_wp2_with fail
  refine HSW.out.mono ?_
  rintro e w7 ⟨rfl, b7⟩
  have bz := b7.trans ((below_a1' (Below.refl w7.heap.size w7) (.cells #[.int .u8 0, .int .u8 0, .int .u16 0, .int .u8 0, .int .u8 0, .int .u16 0, .int .u32 0, .int .u32 0, .int .u64 0, .slice none 0 0, .slice none 0 0, .slice none 0 0] 29)).mono b7.size)
  clear HSW b7
  replace k0 := k0.step bz
  replace kF := kF.step bz
  replace kG := kG.step bz
  replace rX := (rX.below bz).more bz.size
  replace rK := (rK.below bz).more bz.size
  replace rV := (rV.below bz).more bz.size
  replace b := below_step b bz
  have rx' := (rx.below b).more b.size
  have rk' := (rk.below b).more b.size
  have rv' := (rv.below b).more b.size
  obtain ⟨q0, q1, q2, q3, q4, q5⟩ := box6 k0
  obtain ⟨y0, y1, y2, y3, y4, y5, y6, y7, y8, y9, y10, y11⟩ := box12 kF
  obtain ⟨z0, z1, z2, z3, z4, z5, z6, z7, z8, z9, z10, z11⟩ := box12 kG
  unfold zeroFr
  clear bz rC
  go_wp2_with fail
  refine (equal_any X2 AX el cx2 el cx _ lx lx _ rX rx').mono ?_
  rintro e w8 ⟨rfl, hq⟩
  rw [eqB_rfl]
  have bq := quiet_self hq
  clear hq q0 q1 q2 q3 q4 q5 y0 y1 y2 y3 y4 y5 y6 y7 y8 y9 y10 y11 z0 z1 z2 z3 z4 z5 z6 z7 z8 z9 z10 z11
  replace k0 := k0.step bq
  replace kF := kF.step bq
  replace kG := kG.step bq
  replace rX := (rX.below bq).more bq.size
  replace rK := (rK.below bq).more bq.size
  replace rV := (rV.below bq).more bq.size
  replace rx' := (rx'.below bq).more bq.size
  replace rk' := (rk'.below bq).more bq.size
  replace rv' := (rv'.below bq).more bq.size
  replace b := below_step b bq
  clear bq
  obtain ⟨q0, q1, q2, q3, q4, q5⟩ := box6 k0
  obtain ⟨y0, y1, y2, y3, y4, y5, y6, y7, y8, y9, y10, y11⟩ := box12 kF
  obtain ⟨z0, z1, z2, z3, z4, z5, z6, z7, z8, z9, z10, z11⟩ := box12 kG
  go_wp2_with fail
  refine (equal_any K2 AK kl ck2 kl ck _ lk lk _ rK rk').mono ?_
  rintro e w9 ⟨rfl, hq⟩
  rw [eqB_rfl]
  have bq := quiet_self hq
  clear hq q0 q1 q2 q3 q4 q5 y0 y1 y2 y3 y4 y5 y6 y7 y8 y9 y10 y11 z0 z1 z2 z3 z4 z5 z6 z7 z8 z9 z10 z11
  replace k0 := k0.step bq
  replace kF := kF.step bq
  replace kG := kG.step bq
  replace rX := (rX.below bq).more bq.size
  replace rK := (rK.below bq).more bq.size
  replace rV := (rV.below bq).more bq.size
  replace rx' := (rx'.below bq).more bq.size
  replace rk' := (rk'.below bq).more bq.size
  replace rv' := (rv'.below bq).more bq.size
  replace b := below_step b bq
  clear bq
  obtain ⟨q0, q1, q2, q3, q4, q5⟩ := box6 k0
  obtain ⟨y0, y1, y2, y3, y4, y5, y6, y7, y8, y9, y10, y11⟩ := box12 kF
  obtain ⟨z0, z1, z2, z3, z4, z5, z6, z7, z8, z9, z10, z11⟩ := box12 kG
  go_wp2_with fail
  refine (equal_any V2 AV nv cv2 nv cv _ lv lv _ rV rv').mono ?_
  rintro e w10 ⟨rfl, hq⟩
  rw [eqB_rfl]
  have bq := quiet_self hq
  clear hq q0 q1 q2 q3 q4 q5 y0 y1 y2 y3 y4 y5 y6 y7 y8 y9 y10 y11 z0 z1 z2 z3 z4 z5 z6 z7 z8 z9 z10 z11
  replace k0 := k0.step bq
  replace kF := kF.step bq
  replace kG := kG.step bq
  replace rX := (rX.below bq).more bq.size
  replace rK := (rK.below bq).more bq.size
  replace rV := (rV.below bq).more bq.size
  replace rx' := (rx'.below bq).more bq.size
  replace rk' := (rk'.below bq).more bq.size
  replace rv' := (rv'.below bq).more bq.size
  replace b := below_step b bq
  clear bq
  obtain ⟨q0, q1, q2, q3, q4, q5⟩ := box6 k0
  obtain ⟨y0, y1, y2, y3, y4, y5, y6, y7, y8, y9, y10, y11⟩ := box12 kF
  obtain ⟨z0, z1, z2, z3, z4, z5, z6, z7, z8, z9, z10, z11⟩ := box12 kG
  go_wp2_with fail
  go_ret
  exact ⟨rfl, b⟩
theorem walk_frameBack (mg op oq : Nat) (AX : Option Addr) (nx cx : Nat) (lx : List UInt8) (AK : Option Addr) (nk ck : Nat) (lk : List UInt8) (AV : Option Addr) (nv cv : Nat) (lv : List UInt8) (AT : Option Addr) (nt ct : Nat) (lt : List UInt8) (w : World)
    (r0 : Mad w mg op oq AX nx cx lx AK nk ck lk AV nv cv lv) (s0 : cx ≤ 140737488351232 ∧ ck ≤ 140737488351232 ∧ cv ≤ 140737488351232) (rt : Rd w w.heap.size AT nt ct lt) (st : ct ≤ 140737488351232) :
    Calls Try.prog 13 #[mdV mg op oq (.slice AX nx cx) (.slice AK nk ck) (.slice AV nv cv), .slice AT nt ct] w fun e w' => e = .returned (.bool true) ∧ Below w.heap.size w w' := by
  obtain ⟨h1, h2, h3, rx, rk, rv⟩ := r0
  have e1 := rx.cap
  have e2 := rk.cap
  have e3 := rv.cap
  have l1 := rx.len
  have l2 := rk.len
  have l3 := rv.len
  obtain ⟨s1, s2, s3⟩ := s0
  by_cases hA : mg = 128 ∨ mg = 129
  · by_cases hl : tooLong nx nk nv
    · exact back_no mg op oq AX nx cx AK nk ck AV nv cv AT nt ct w 3 (by decide) fun w => make_L mg op oq hA AX AK AV nx cx nk ck nv cv (by omega) hl w
    · have hl' := hl
      unfold tooLong at hl'
      have hf : HdF mg op nk nx 0 0 (nx + nk + nv) oq 0 := ⟨h1, h2, by omega, by omega, by decide, by decide, by omega, h3, by decide⟩
      have hm : mayB mg nk nx (nx + nk + nv) = true := by rw [mayB_yes hA]; exact decide_eq_true (by omega)
      refine back_ok mg op nk nx 0 0 (nx + nk + nv) oq 0 nv (24 + nx + nk + nv) AX cx AK ck AV cv lx lk lv lt (hdB mg op nk nx 0 0 (nx + nk + nv) oq 0 ++ lx ++ lk ++ lv) AT nt ct w rx rk rv rt st (by omega) (by omega) ?_ ?_ ?_ ?_
      · intro w r1 r2 r3
        rcases hA with rfl | rfl
        · exact make_Oa op oq h2 h3 AX AK AV nx cx nk ck nv cv hl lx lk lv w r1 r2 r3
        · exact make_Ob op oq h2 h3 AX AK AV nx cx nk ck nv cv hl lx lk lv w r1 r2 r3
      · intro X K V cx ck cv w r1 r2 r3
        exact put_O mg op nk nx 0 0 (nx + nk + nv) oq 0 hf X K V nx cx nk ck nv cv (by omega) hm rfl rfl rfl (by omega) lx lk lv w r1 r2 r3
      · intro A n c w r
        exact get_made mg op nk nx 0 0 (nx + nk + nv) oq 0 hf hm (by omega) lx lk lv lt nv (24 + nx + nk + nv) l1 l2 l3 rfl (by omega) A n c w r
      · intro A c w r
        rw [List.append_assoc, List.append_assoc] at r
        exact get_cut mg op nk nx 0 0 (nx + nk + nv) oq 0 hf hm (by omega) (lx ++ (lk ++ lv)) (24 + nx + nk + nv) (by rw [List.length_append, List.length_append]; omega) (by omega) A c w r
  · have := not_or.1 hA
    exact back_no mg op oq AX nx cx AK nk ck AV nv cv AT nt ct w 290 (by decide) fun w => make_M mg op oq this.1 this.2 AX AK AV nx cx nk ck nv cv w


set_option maxRecDepth 100000 in
theorem lifted_frameBack (os : Os) (started : os.Started) (H : Type) (enc : TypeId × Value → H) :
    ReturnsInHanded {} Try.checked os 13 .any (Rows.frameBackSpec.pre6 enc Try.prog Try.f13 Rows.frameBackRow.domain false) (Rows.frameBackSpec.post enc Try.prog Try.f13 false true false false) := by
  refine returnsInHanded_of_change_sized (C := Try.checked) own started (by kernel_rfl) Try.func13
    (ChangeSpec.witness6 (enc := enc) (C := Try.checked) false ⟨#[], #[.agg #[.int .u8 0, .int .u8 0, .int .u32 0, .slice none 0 0, .slice none 0 0, .slice none 0 0], .slice none 0 0], []⟩ 8 (by kernel_rfl) (by kernel_rfl) (by kernel_rfl) (by kernel_rfl)) ?_
  intro W base args ds gs before hval0 hW hcnd hsz0 _
  have hval : ∀ (j : Nat) t v, Try.f13.params[j]? = some t → args[j]? = some v → Value.okWide Try.prog W .any base t v := hval0
  have hsz : (DataW.weightsEach Try.prog (Try.f13.params.toList ++ Rows.frameBackSpec.plain.varTypes Try.prog) (ds ++ gs)).all (· ≤ reachBytes) = true := hsz0
  have hW' := hW
  obtain ⟨p, q, hA0, hV, rfl, hfz, hnd⟩ := hW
  have hA : DataW.TrodAll enc Try.prog W 0 (fun _ => true) true Try.f13.params.toList args.toList ds p := hA0
  rw [Try.params13] at hA hval hsz
  obtain ⟨v0, vs0, d0, ds0, p0, q0, hargs, rfl, rfl, h0, t0⟩ := trodAll_cons hA
  obtain ⟨v1, vs1, d1, ds1, p1, q1, rfl, rfl, rfl, h1, t1⟩ := trodAll_cons t0
  obtain ⟨rfl, rfl, rfl⟩ := trodAll_nil t1
  obtain rfl : args = #[v0, v1] := by cases args; simp_all
  obtain ⟨rfl, rfl⟩ := trodVars_none hV
  have k0 := h0
  obtain ⟨mg0, op0, oq0, AX0, nx0, cx0, lx0, AK0, nk0, ck0, lk0, AV0, nv0, cv0, lv0, rfl, r0, y0⟩ := open_made (hval 0 39 v0 rfl rfl) h0
  have s0 := y0 (weights_of hsz (j := 0) rfl rfl)
  have k1 := h1
  obtain ⟨A1, n1, c1, l1, rfl, r1, y1⟩ := open_bytes (hval 1 27 v1 rfl rfl) h1
  have s1 := y1 (weights_of hsz (j := 1) rfl rfl)
  clear hA0 hval0
  refine (walk_frameBack mg0 op0 oq0 AX0 nx0 cx0 lx0 AK0 nk0 ck0 lk0 AV0 nv0 cv0 lv0 A1 n1 c1 l1 W r0 s0 r1 s1).mono fun e W' ⟨he, bel⟩ => ?_
  subst he
  exact ⟨_, rfl, _, _, _, [], _, [], hW', trodAll_mk1 (shut_bool Try.underlying4 _), (trodAll_cons_mk (Below.trod laidOut (by kernel_rfl) (of_decide_eq_true (by kernel_rfl)) k0 bel (trod_places k0)) (trodAll_cons_mk (Below.trod laidOut (by kernel_rfl) (of_decide_eq_true (by kernel_rfl)) k1 bel (trod_places k1)) trodAll_mk0)), rfl, bel.frame _, fun h => by cases h⟩

theorem over_frameBack : Rows.frameBackRow.holds Try.pinned (OpenSpec.ofChange Rows.frameBackSpec) :=
  OpenClaim.holds_of_wide 13 Try.f13 rfl rfl rfl rfl rfl rfl rfl ⟨rfl, rfl, rfl, rfl, rfl⟩ rfl rfl rfl rfl rfl (by kernel_rfl) Try.func13 (by kernel_rfl)
    (of_decide_eq_true (by kernel_rfl)) (by unfold Func.isWrapper; first | (rw [if_pos (by decide +kernel)]; kernel_rfl) | (rw [if_neg (by decide +kernel)]; exact ⟨rfl, rfl⟩))
    (fun os started H enc _ => lifted_frameBack os started H enc)

/-- The statement. -/
theorem frameBack_holds : Rows.FrameBackSaid := over_frameBack
#print axioms frameBack_holds


end Go.Proofs.Ytbmlpeomcagcjaa

/- FrameGets: whatever bytes are read as a frame, frame.Get and frame.Need say what the document says. Conditions: those of the given row alone. -/
import Derived.Test.YtbmlpeomcagcjaaFru
namespace Go.Proofs.Ytbmlpeomcagcjaa
set_option linter.unusedVariables false
open Go.RowKit Go.ChangeShapes Go.WideShapes Go.ChangeAt

set_option maxRecDepth 20000 in
set_option maxHeartbeats 4000000 in
theorem walk_frameGets (A : Option Addr) (n c : Nat) (l : List UInt8) (w : World) (r : Rd w w.heap.size A n c l) (hc : c ≤ 140737488351232) :
    Calls Try.prog 12 #[.slice A n c] w fun e w' => e = .returned (.bool true) ∧ Below w.heap.size w w' := by
  obtain ⟨mg, op, kl, el, ty, st, bl, oq, cas, nx, nk, nv, lx, lk, lv, N, err, hG, hR⟩ := gets_any l
  have hNd := fun A n c W (r : Rd W W.heap.size A n c l) => need_any A n c l W r
  have hRn := fun A n c W (r : Rd W W.heap.size A n c l) => rneed_any A n c l W r
  generalize needN l = nN at hNd hRn
  generalize needE l = eN at hNd hRn
  have HG := Lib.hid hG
  have HR := Lib.hid hR
  have HN := Lib.hid hNd
  have HRN := Lib.hid hRn
  have hcap := r.cap
  clear hG hR hNd hRn
  go_enter Try.func12, Try.ntmps12
  go_wp2_with fail
  refine (wakes19 _).mono ?_
  rintro e w1 ⟨rfl, b⟩
  go_wp2_with (at_builtin; refine wpList_app8 _ rfl _ _ rfl w1.heap.size (some ⟨w1.heap.size, 0, none⟩) 0 0 [] rfl (Own.empty w1 _ (Nat.le_refl _)) w.heap.size A n c l rfl ((r.below b).alloc b.size _) (by omega) (by simp) ?_)
  intro A2 c2 w2 o2 b2
  have b2' : Below w1.heap.size w1 w2 := ((Below.refl _ _).alloc (Nat.le_refl _) _).trans b2
  replace b := below_step b b2'
  clear b2 b2'
  go_wp2_with fail
  refine (HG.out A2 n c2 _ o2.rd).mono ?_
  rintro e w3 ⟨X, cx, K, ck, V, cv, rfl, rX, rK, rV, b3⟩
  replace b := below_step b b3
  have kf : Blk _ _ (frC mg op kl el ty st bl oq cas (.slice X nx cx) (.slice K nk ck) (.slice V nv cv)) _ := Blk.new w3 _ 29
  have ba := below_a1' (Below.refl w3.heap.size w3) (.cells (frC mg op kl el ty st bl oq cas (.slice X nx cx) (.slice K nk ck) (.slice V nv cv)) 29)
  replace b := below_step b ba
  replace rX := (rX.below ba).more ba.size
  replace rK := (rK.below ba).more ba.size
  replace rV := (rV.below ba).more ba.size
  clear ba b3 o2 HG
  unfold frV
  unfold frC at *
  go_wp2_with fail
  refine (HR.out A n c _ ((r.below b).more b.size)).mono ?_
  rintro e w4 ⟨X', cx', K', ck', V', cv', rfl, sX, sK, sV, b4⟩
  replace b := below_step b b4
  replace kf := kf.step b4
  replace rX := (rX.below b4).more b4.size
  replace rK := (rK.below b4).more b4.size
  replace rV := (rV.below b4).more b4.size
  have kg : Blk _ _ (frC mg op kl el ty st bl oq cas (.slice X' nx cx') (.slice K' nk ck') (.slice V' nv cv')) _ := Blk.new w4 _ 29
  have ba := below_a1' (Below.refl w4.heap.size w4) (.cells (frC mg op kl el ty st bl oq cas (.slice X' nx cx') (.slice K' nk ck') (.slice V' nv cv')) 29)
  replace b := below_step b ba
  replace kf := kf.step ba
  replace rX := (rX.below ba).more ba.size
  replace rK := (rK.below ba).more ba.size
  replace rV := (rV.below ba).more ba.size
  replace sX := (sX.below ba).more ba.size
  replace sK := (sK.below ba).more ba.size
  replace sV := (sV.below ba).more ba.size
  unfold frV
  unfold frC at *
  clear HR b4 ba
  go_wp2_with (at_builtin; refine wpList_app8 _ rfl _ _ rfl (w4.heap.size + 1) (some ⟨w4.heap.size + 1, 0, none⟩) 0 0 [] rfl (Own.emptyK _ _ _ (by simp) (Nat.le_refl _)) w.heap.size A n c l rfl ((r.below b).alloc b.size _) (by omega) (by simp) ?_)
  intro A5 c5 w5 o5 b5
  have b5' : Below (w4.alloc (.cells #[.int .u8 (mg : Nat), .int .u8 (op : Nat), .int .u16 (kl : Nat), .int .u8 (el : Nat), .int .u8 (ty : Nat), .int .u16 (st : Nat), .int .u32 (bl : Nat), .int .u32 (oq : Nat), .int .u64 (cas : Nat), .slice X' nx cx', .slice K' nk ck', .slice V' nv cv'] 29)).heap.size (w4.alloc (.cells #[.int .u8 (mg : Nat), .int .u8 (op : Nat), .int .u16 (kl : Nat), .int .u8 (el : Nat), .int .u8 (ty : Nat), .int .u16 (st : Nat), .int .u32 (bl : Nat), .int .u32 (oq : Nat), .int .u64 (cas : Nat), .slice X' nx cx', .slice K' nk ck', .slice V' nv cv'] 29)) w5 := ((Below.refl _ _).alloc (Nat.le_refl _) _).trans (b5.mono (by simp))
  replace b := below_step b b5'
  replace kf := kf.step b5'
  replace kg := kg.step b5'
  replace rX := (rX.below b5').more b5'.size
  replace rK := (rK.below b5').more b5'.size
  replace rV := (rV.below b5').more b5'.size
  replace sX := (sX.below b5').more b5'.size
  replace sK := (sK.below b5').more b5'.size
  replace sV := (sV.below b5').more b5'.size
  clear b5 b5'
  go_wp2_with fail
  refine (HN.out A5 n c5 _ o5.rd).mono ?_
  rintro e w6 ⟨rfl, b6⟩
  replace b := below_step b b6
  replace kf := kf.step b6
  replace kg := kg.step b6
  replace rX := (rX.below b6).more b6.size
  replace rK := (rK.below b6).more b6.size
  replace rV := (rV.below b6).more b6.size
  replace sX := (sX.below b6).more b6.size
  replace sK := (sK.below b6).more b6.size
  replace sV := (sV.below b6).more b6.size
  clear b6 o5
  go_wp2_with fail
  refine (HRN.out A n c _ ((r.below b).more b.size)).mono ?_
  rintro e w7 ⟨rfl, b7⟩
  replace b := below_step b b7
  replace kf := kf.step b7
  replace kg := kg.step b7
  replace rX := (rX.below b7).more b7.size
  replace rK := (rK.below b7).more b7.size
  replace rV := (rV.below b7).more b7.size
  replace sX := (sX.below b7).more b7.size
  replace sK := (sK.below b7).more b7.size
  replace sV := (sV.below b7).more b7.size
  clear b7
  obtain ⟨q0, q1, q2, q3, q4, q5, q6, q7, q8, q9, q10, q11⟩ := box12 kf
  obtain ⟨y0, y1, y2, y3, y4, y5, y6, y7, y8, y9, y10, y11⟩ := box12 kg
  have HS := Lib.hid (fsame_yes mg op kl el ty st bl oq cas X K V X' K' V' nx cx nk ck nv cv nx cx' nk ck' nv cv' lx lk lv _ rX rK rV sX sK sV)
  unfold frV frC at HS
  clear kf kg rX rK rV sX sK sV HN HRN
  go_wp2_with fail
  refine HS.out.mono ?_
  rintro e w8 ⟨rfl, b8⟩
  replace b := below_step b b8
  go_wp2_with fail
  go_ret
  exact ⟨rfl, b⟩


set_option maxRecDepth 100000 in
theorem lifted_frameGets (os : Os) (started : os.Started) (H : Type) (enc : TypeId × Value → H) :
    ReturnsInHanded {} Try.checked os 12 .any (Rows.frameGetsSpec.pre6 enc Try.prog Try.f12 Rows.frameGetsRow.domain false) (Rows.frameGetsSpec.post enc Try.prog Try.f12 false true false false) := by
  refine returnsInHanded_of_change_sized (C := Try.checked) own started (by kernel_rfl) Try.func12
    (ChangeSpec.witness6 (enc := enc) (C := Try.checked) false ⟨#[], #[.slice none 0 0], []⟩ 8 (by kernel_rfl) (by kernel_rfl) (by kernel_rfl) (by kernel_rfl)) ?_
  intro W base args ds gs before hval0 hW hcnd hsz0 _
  have hval : ∀ (j : Nat) t v, Try.f12.params[j]? = some t → args[j]? = some v → Value.okWide Try.prog W .any base t v := hval0
  have hsz : (DataW.weightsEach Try.prog (Try.f12.params.toList ++ Rows.frameGetsSpec.plain.varTypes Try.prog) (ds ++ gs)).all (· ≤ reachBytes) = true := hsz0
  have hW' := hW
  obtain ⟨p, q, hA0, hV, rfl, hfz, hnd⟩ := hW
  have hA : DataW.TrodAll enc Try.prog W 0 (fun _ => true) true Try.f12.params.toList args.toList ds p := hA0
  rw [Try.params12] at hA hval hsz
  obtain ⟨v0, vs0, d0, ds0, p0, q0, hargs, rfl, rfl, h0, t0⟩ := trodAll_cons hA
  obtain ⟨rfl, rfl, rfl⟩ := trodAll_nil t0
  obtain rfl : args = #[v0] := by cases args; simp_all
  obtain ⟨rfl, rfl⟩ := trodVars_none hV
  have k0 := h0
  obtain ⟨A0, n0, c0, l0, rfl, r0, y0⟩ := open_bytes (hval 0 27 v0 rfl rfl) h0
  have s0 := y0 (weights_of hsz (j := 0) rfl rfl)
  clear hA0 hval0
  refine (walk_frameGets A0 n0 c0 l0 W r0 s0).mono fun e W' ⟨he, bel⟩ => ?_
  subst he
  exact ⟨_, rfl, _, _, _, [], _, [], hW', trodAll_mk1 (shut_bool Try.underlying4 _), (trodAll_cons_mk (Below.trod laidOut (by kernel_rfl) (of_decide_eq_true (by kernel_rfl)) k0 bel (trod_places k0)) trodAll_mk0), rfl, bel.frame _, fun h => by cases h⟩

theorem over_frameGets : Rows.frameGetsRow.holds Try.pinned (OpenSpec.ofChange Rows.frameGetsSpec) :=
  OpenClaim.holds_of_wide 12 Try.f12 rfl rfl rfl rfl rfl rfl rfl ⟨rfl, rfl, rfl, rfl, rfl⟩ rfl rfl rfl rfl rfl (by kernel_rfl) Try.func12 (by kernel_rfl)
    (of_decide_eq_true (by kernel_rfl)) (by unfold Func.isWrapper; first | (rw [if_pos (by decide +kernel)]; kernel_rfl) | (rw [if_neg (by decide +kernel)]; exact ⟨rfl, rfl⟩))
    (fun os started H enc _ => lifted_frameGets os started H enc)

/-- The statement. -/
theorem frameGets_holds : Rows.FrameGetsSaid := over_frameGets
#print axioms frameGets_holds

end Go.Proofs.Ytbmlpeomcagcjaa

/- RecordCut: a record that is cut off is never taken for another one, and its head says how long it is. Conditions: those of the given row alone. -/
import Derived.Test.YtkdkmdjfimnkaaaRpl
namespace Go.Proofs.Ytkdkmdjfimnkaaa
set_option linter.unusedVariables false
open Go.ChangeShapes Go.WideShapes Go.ChangeAt Go.RowKit

def CutQ (w : World) (e : Ending) (w' : World) : Prop := e = .returned (.bool true) ∧ Below w.heap.size w w'
set_option maxRecDepth 20000 in
set_option maxHeartbeats 4000000 in
theorem cut_no (kind : Int) (fl ex sq : Nat) (AK : Option Addr) (nk ck : Nat) (lk : List UInt8) (AV : Option Addr) (nv cv : Nat) (lv : List UInt8) (at_ : Int) (mk mv : Nat) (mlk mlv : List UInt8) (w : World) (rk : Rd w w.heap.size AK nk ck lk) (rv : Rd w w.heap.size AV nv cv lv)
    (hSh : ∀ W, Rd W W.heap.size AK nk ck lk → Rd W W.heap.size AV nv cv lv → Calls Try.prog 11 #[.agg #[.int .i64 kind, .int .u32 (fl : Nat), .int .u32 (ex : Nat), .int .u64 (sq : Nat), .slice AK nk ck, .slice AV nv cv]] W fun e w' => ∃ g1 c1 g2 c2, e = .returned (.agg #[.int .i64 kind, .int .u32 (fl : Nat), .int .u32 (ex : Nat), .int .u64 (sq : Nat), .slice (some ⟨g1, 0, none⟩) mk c1, .slice (some ⟨g2, 0, none⟩) mv c2]) ∧ g1 ≠ g2 ∧
      Own w' W.heap.size (some ⟨g1, 0, none⟩) (mk + 1) c1 (mlk ++ [7]) ∧ Own w' W.heap.size (some ⟨g2, 0, none⟩) (mv + 1) c2 (mlv ++ [7]) ∧ Below W.heap.size W w')
    (hEn : ∀ g1 c1 g2 c2 W, Rd W W.heap.size (some ⟨g1, 0, none⟩) mk c1 mlk → Rd W W.heap.size (some ⟨g2, 0, none⟩) mv c2 mlv → Calls Try.prog 16 #[.agg #[.int .i64 kind, .int .u32 (fl : Nat), .int .u32 (ex : Nat), .int .u64 (sq : Nat), .slice (some ⟨g1, 0, none⟩) mk c1, .slice (some ⟨g2, 0, none⟩) mv c2]] W fun e w' => e = .returned (.tuple #[.slice none 0 0, .int .i64 160]) ∧ Below W.heap.size W w') :
    Calls Try.prog 7 #[recV kind fl ex sq (.slice AK nk ck) (.slice AV nv cv), .int .i64 at_] w (CutQ w) := by
  have HA := Lib.hid hSh
  have HE := Lib.hid hEn
  clear hSh hEn
  have k1' := Blk.new w #[.int .i64 kind, .int .u32 (fl : Nat), .int .u32 (ex : Nat), .int .u64 (sq : Nat), .slice AK nk ck, .slice AV nv cv] 26
  have b : Below w.heap.size w (w.alloc (.cells #[.int .i64 kind, .int .u32 (fl : Nat), .int .u32 (ex : Nat), .int .u64 (sq : Nat), .slice AK nk ck, .slice AV nv cv] 26)) := below_a1' (Below.refl _ _) _
  unfold recV
  go_enter Try.func7, Try.ntmps7
  go_wp2_with fail
  generalize w.alloc (.cells #[.int .i64 kind, .int .u32 (fl : Nat), .int .u32 (ex : Nat), .int .u64 (sq : Nat), .slice AK nk ck, .slice AV nv cv] 26) = W0 at k1' b ⊢
  refine (wakes06 _).mono ?_
  rintro e w1 ⟨rfl, b1⟩
  replace k1' := k1'.step b1
  replace b := below_step b b1
  have hlt := k1'.lt
  obtain ⟨q0, q1, q2, q3, q4, q5⟩ := box6 k1'
  clear b1
  go_wp2_with fail
  refine (HA.out _ ((rk.below b).more b.size) ((rv.below b).more b.size)).mono ?_
  rintro e w2 ⟨g1, c1, g2, c2, rfl, hne, oK, oV, b2⟩
  replace k1' := k1'.step b2
  replace b := below_step b b2
  clear q0 q1 q2 q3 q4 q5 b2
  obtain ⟨q0, q1, q2, q3, q4, q5⟩ := box6 k1'
  have x0 := k1'.frozen 0
  have x1 := k1'.frozen 1
  have x2 := k1'.frozen 2
  have x3 := k1'.frozen 3
  have x4 := k1'.frozen 4
  have x5 := k1'.frozen 5
  have kf := blk_set6 k1' (.int .i64 kind) (.int .u32 (fl : Nat)) (.int .u32 (ex : Nat)) (.int .u64 (sq : Nat)) (.slice (some ⟨g1, 0, none⟩) mk c1) (.slice (some ⟨g2, 0, none⟩) mv c2)
  have hg := grown_set6 w2 w.heap.size (.int .i64 kind) (.int .u32 (fl : Nat)) (.int .u32 (ex : Nat)) (.int .u64 (sq : Nat)) (.slice (some ⟨g1, 0, none⟩) mk c1) (.slice (some ⟨g2, 0, none⟩) mv c2)
  have bf := b.trans (below_grown hg (Nat.le_refl _) k1'.lt)
  have pK := own_fore (oK.kept hg hlt)
  have pV := own_fore (oV.kept hg hlt)
  have HEW := Lib.hid (HE.out g1 c1 g2 c2 _ pK pV)
  obtain ⟨t0, t1, t2, t3, t4, t5⟩ := box6 kf
  clear kf hg b oK oV pK pV k1' hlt HA HE
  go_wp2_with fail
  refine HEW.out.mono ?_
  rintro e w3 ⟨rfl, b3⟩
  replace bf := below_step bf b3
  go_wp2_with fail
  go_ret
  exact ⟨rfl, bf⟩
set_option maxRecDepth 20000 in
set_option maxHeartbeats 4000000 in
theorem cut_ok (kd : Nat) (fl ex sq : Nat) (AK : Option Addr) (nk ck : Nat) (lk : List UInt8) (AV : Option Addr) (nv cv : Nat) (lv : List UInt8) (at_ : Int) (mk mv : Nat) (mlk mlv : List UInt8) (w : World) (rk : Rd w w.heap.size AK nk ck lk) (rv : Rd w w.heap.size AV nv cv lv) (L : List UInt8) (u p N : Nat) (ea : IntKind.u64.wrap at_ = (u : Int)) (eb : IntKind.u64.wrap (N : Int) = (N : Int)) (ec : (u : Int).tmod (N : Int) = (p : Int)) (ed : (u : Int) % (N : Int) = (p : Int)) (ee : IntKind.u64.wrap (p : Int) = (p : Int)) (ef : IntKind.i64.wrap (p : Int) = (p : Int)) (eg : (N : Int) ≠ 0) (eh : (p : Int) < (N : Int)) (ei : N ≤ 1000)
    (hSh : ∀ W, Rd W W.heap.size AK nk ck lk → Rd W W.heap.size AV nv cv lv → Calls Try.prog 11 #[.agg #[.int .i64 (kd : Nat), .int .u32 (fl : Nat), .int .u32 (ex : Nat), .int .u64 (sq : Nat), .slice AK nk ck, .slice AV nv cv]] W fun e w' => ∃ g1 c1 g2 c2, e = .returned (.agg #[.int .i64 (kd : Nat), .int .u32 (fl : Nat), .int .u32 (ex : Nat), .int .u64 (sq : Nat), .slice (some ⟨g1, 0, none⟩) mk c1, .slice (some ⟨g2, 0, none⟩) mv c2]) ∧ g1 ≠ g2 ∧
      Own w' W.heap.size (some ⟨g1, 0, none⟩) (mk + 1) c1 (mlk ++ [7]) ∧ Own w' W.heap.size (some ⟨g2, 0, none⟩) (mv + 1) c2 (mlv ++ [7]) ∧ Below W.heap.size W w')
    (hEn : ∀ g1 c1 g2 c2 W, Rd W W.heap.size (some ⟨g1, 0, none⟩) mk c1 mlk → Rd W W.heap.size (some ⟨g2, 0, none⟩) mv c2 mlv → Calls Try.prog 16 #[.agg #[.int .i64 (kd : Nat), .int .u32 (fl : Nat), .int .u32 (ex : Nat), .int .u64 (sq : Nat), .slice (some ⟨g1, 0, none⟩) mk c1, .slice (some ⟨g2, 0, none⟩) mv c2]] W (EncQ N L W))
    (hDe : ∀ A c W, Rd W W.heap.size A p c (L.take p) → Calls Try.prog 15 #[.slice A p c] W (DecNo 9 W))
    (hNe : ∀ A c W, Rd W W.heap.size A p c (L.take p) → (p < 21 → Calls Try.prog 23 #[.slice A p c] W (NeedQ 0 9 W)) ∧ (21 ≤ p → Calls Try.prog 23 #[.slice A p c] W (NeedQ (N : Nat) 0 W))) :
    Calls Try.prog 7 #[recV (kd : Nat) fl ex sq (.slice AK nk ck) (.slice AV nv cv), .int .i64 at_] w (CutQ w) := by
  have HA := Lib.hid hSh
  have HE := Lib.hid hEn
  have HD := Lib.hid hDe
  have HN := Lib.hid hNe
  clear hSh hEn hDe hNe
  have k1' := Blk.new w #[.int .i64 (kd : Nat), .int .u32 (fl : Nat), .int .u32 (ex : Nat), .int .u64 (sq : Nat), .slice AK nk ck, .slice AV nv cv] 26
  have b : Below w.heap.size w (w.alloc (.cells #[.int .i64 (kd : Nat), .int .u32 (fl : Nat), .int .u32 (ex : Nat), .int .u64 (sq : Nat), .slice AK nk ck, .slice AV nv cv] 26)) := below_a1' (Below.refl _ _) _
  unfold recV
  go_enter Try.func7, Try.ntmps7
  go_wp2_with fail
  generalize w.alloc (.cells #[.int .i64 (kd : Nat), .int .u32 (fl : Nat), .int .u32 (ex : Nat), .int .u64 (sq : Nat), .slice AK nk ck, .slice AV nv cv] 26) = W0 at k1' b ⊢
  refine (wakes06 _).mono ?_
  rintro e w1 ⟨rfl, b1⟩
  replace k1' := k1'.step b1
  replace b := below_step b b1
  have hlt := k1'.lt
  obtain ⟨q0, q1, q2, q3, q4, q5⟩ := box6 k1'
  clear b1
  go_wp2_with fail
  refine (HA.out _ ((rk.below b).more b.size) ((rv.below b).more b.size)).mono ?_
  rintro e w2 ⟨g1, c1, g2, c2, rfl, hne, oK, oV, b2⟩
  replace k1' := k1'.step b2
  replace b := below_step b b2
  clear q0 q1 q2 q3 q4 q5 b2
  obtain ⟨q0, q1, q2, q3, q4, q5⟩ := box6 k1'
  have x0 := k1'.frozen 0
  have x1 := k1'.frozen 1
  have x2 := k1'.frozen 2
  have x3 := k1'.frozen 3
  have x4 := k1'.frozen 4
  have x5 := k1'.frozen 5
  have kf := blk_set6 k1' (.int .i64 (kd : Nat)) (.int .u32 (fl : Nat)) (.int .u32 (ex : Nat)) (.int .u64 (sq : Nat)) (.slice (some ⟨g1, 0, none⟩) mk c1) (.slice (some ⟨g2, 0, none⟩) mv c2)
  have hg := grown_set6 w2 w.heap.size (.int .i64 (kd : Nat)) (.int .u32 (fl : Nat)) (.int .u32 (ex : Nat)) (.int .u64 (sq : Nat)) (.slice (some ⟨g1, 0, none⟩) mk c1) (.slice (some ⟨g2, 0, none⟩) mv c2)
  have bf := b.trans (below_grown hg (Nat.le_refl _) k1'.lt)
  have pK := own_fore (oK.kept hg hlt)
  have pV := own_fore (oV.kept hg hlt)
  have HEW := Lib.hid (HE.out g1 c1 g2 c2 _ pK pV)
  obtain ⟨t0, t1, t2, t3, t4, t5⟩ := box6 kf
  clear kf hg b oK oV pK pV k1' hlt HA HE
  go_wp2_with fail
  refine HEW.out.mono ?_
  rintro e w3 ⟨C, cc, rfl, oC, b3⟩
  replace bf := below_step bf b3
  obtain ⟨S, cs, HSl, hSr⟩ := slc_h oC.rd p (p : Int) rfl (by omega)
  have rS := hSr _ _ oC.rd
  have HDW := Lib.hid (HD.out S cs _ rS)
  clear b3 oC hSr HEW HD t0 t1 t2 t3 t4 t5 x0 x1 x2 x3 x4 x5 q0 q1 q2 q3 q4 q5
  go_wp2_with fail
  refine HDW.out.mono ?_
  rintro e w4 ⟨rfl, b4⟩
  have rS4 := (rS.below b4).more b4.size
  replace bf := below_step bf b4
  have ba := below_a1' (Below.refl w4.heap.size w4) (.cells #[.int .i64 0, .int .u32 0, .int .u32 0, .int .u64 0, .slice none 0 0, .slice none 0 0] 26)
  have k4 := Blk.new w4 #[.int .i64 0, .int .u32 0, .int .u32 0, .int .u64 0, .slice none 0 0, .slice none 0 0] 26
  have rS5 := (rS4.below ba).more ba.size
  replace bf := below_step bf ba
  clear HDW b4 ba rS rS4
  unfold zeroRec
  by_cases h21 : p < 21
  · have HNW := Lib.hid ((HN.out S cs _ rS5).1 h21)
    have h21' : (p : Int) < 21 := by omega
    clear HN rS5
    go_wp2_with fail
    refine HNW.out.mono ?_
    rintro e w5 ⟨rfl, b5⟩
    replace k4 := k4.step b5
    obtain ⟨q0, q1, q2, q3, q4, q5⟩ := box6 k4
    replace bf := below_step bf b5
    go_wp2_with fail
    go_ret
    exact ⟨rfl, bf⟩
  · have HNW := Lib.hid ((HN.out S cs _ rS5).2 (by omega))
    have h21' : (21 : Int) ≤ (p : Int) := by omega
    clear HN rS5
    go_wp2_with fail
    refine HNW.out.mono ?_
    rintro e w5 ⟨rfl, b5⟩
    replace k4 := k4.step b5
    obtain ⟨q0, q1, q2, q3, q4, q5⟩ := box6 k4
    replace bf := below_step bf b5
    go_wp2_with fail
    go_ret
    exact ⟨rfl, bf⟩
theorem walk_recordCut (kind : Int) (fl ex sq : Nat) (AK : Option Addr) (nk ck : Nat) (lk : List UInt8) (AV : Option Addr) (nv cv : Nat) (lv : List UInt8) (at_ : Int) (w : World) (r0 : Rcd w w.heap.size kind fl ex sq AK nk ck lk AV nv cv lv) (z0 : ck ≤ 140737488351232 ∧ cv ≤ 140737488351232)
    (m1 : -9223372036854775808 ≤ at_ ∧ at_ ≤ 9223372036854775807) :
    Calls Try.prog 7 #[recV kind fl ex sq (.slice AK nk ck) (.slice AV nv cv), .int .i64 at_] w fun e w' => e = .returned (.bool true) ∧ Below w.heap.size w w' := by
  obtain ⟨rk, rv, b1, b2, b3⟩ := r0
  have hlk := rk.len
  have hlv := rv.len
  cases hr : rightR kind fl ex sq (min nk 600) (min nv 600)
  · exact cut_no kind fl ex sq AK nk ck lk AV nv cv lv at_ (min nk 600) (min nv 600) (lk.take (min nk 600)) (lv.take (min nv 600)) w rk rv (fun W r r' => short_any kind fl ex sq AK AV nk ck nv cv lk lv W r r')
      (fun g1 c1 g2 c2 W r r' => enc_no kind fl ex sq _ _ _ c1 _ c2 W hr)
  · obtain ⟨kd, rfl, hkd, hmk, hmv⟩ := right_kd hr
    have hf : RcF kd fl ex sq (min nk 600) (min nv 600) := ⟨hkd, by omega, by omega, by omega, by omega, by omega⟩
    have e1 : (lk.take (min nk 600)).length = min nk 600 := by rw [List.length_take]; omega
    have e2 : (lv.take (min nv 600)).length = min nv 600 := by rw [List.length_take]; omega
    generalize hmk' : min nk 600 = mk at *
    generalize hmv' : min nv 600 = mv at *
    have hu : (at_ % 18446744073709551616).toNat % (21 + mk + mv) < 21 + mk + mv := Nat.mod_lt _ (by omega)
    generalize hU : (at_ % 18446744073709551616).toNat = u at hu
    generalize hP : u % (21 + mk + mv) = p at hu
    have ed : (u : Int) % ((21 + mk + mv : Nat) : Int) = (p : Int) := by rw [← hP]; rfl
    refine cut_ok kd fl ex sq AK nk ck lk AV nv cv lv at_ mk mv (lk.take mk) (lv.take mv) w rk rv (recB kd fl ex sq (lk.take mk) (lv.take mv)) u p (21 + mk + mv) (by rw [IntKind.wrap_u64]; omega) (IntWalk.u64_in _ (by omega)) (by rw [IntWalk.rem_in _ _ (by omega)]; exact ed) ed (IntWalk.u64_in _ (by omega)) (IntWalk.i64_in _ (by omega)) (by omega) (by omega) (by omega) ?_ ?_ ?_ ?_
    · intro W r r'
      have := short_any (kd : Int) fl ex sq AK AV nk ck nv cv lk lv W r r'
      rw [hmk', hmv'] at this
      exact this
    · intro g1 c1 g2 c2 W r r'
      exact enc_ok kd fl ex sq hkd (by omega) (by omega) (by omega) _ _ mk c1 mv c2 _ _ W r r' hr
    · intro A c W r
      exact dec_cut hf hr _ _ e1 e2 A p c W hu (by omega) r
    · intro A c W r
      exact need_cut hf hr _ _ e1 e2 A p c W (by omega) r


set_option maxRecDepth 100000 in
theorem lifted_recordCut (os : Os) (started : os.Started) (H : Type) (enc : TypeId × Value → H) :
    ReturnsInHanded {} Try.checked os 7 .any (Rows.recordCutSpec.pre6 enc Try.prog Try.f7 Rows.recordCutRow.domain false) (Rows.recordCutSpec.post enc Try.prog Try.f7 false true false false) := by
  refine returnsInHanded_of_change_sized (C := Try.checked) own started (by kernel_rfl) Try.func7
    (ChangeSpec.witness6 (enc := enc) (C := Try.checked) false ⟨#[], #[.agg #[.int .i64 0, .int .u32 0, .int .u32 0, .int .u64 0, .slice none 0 0, .slice none 0 0], .int .i64 0], []⟩ 8 (by kernel_rfl) (by kernel_rfl) (by kernel_rfl) (by kernel_rfl)) ?_
  intro W base args ds gs before hval0 hW hcnd hsz0 _
  have hval : ∀ (j : Nat) t v, Try.f7.params[j]? = some t → args[j]? = some v → Value.okWide Try.prog W .any base t v := hval0
  have hsz : (DataW.weightsEach Try.prog (Try.f7.params.toList ++ Rows.recordCutSpec.plain.varTypes Try.prog) (ds ++ gs)).all (· ≤ reachBytes) = true := hsz0
  have hW' := hW
  obtain ⟨p, q, hA0, hV, rfl, hfz, hnd⟩ := hW
  have hA : DataW.TrodAll enc Try.prog W 0 (fun _ => true) true Try.f7.params.toList args.toList ds p := hA0
  rw [Try.params7] at hA hval hsz
  obtain ⟨v0, vs0, d0, ds0, p0, q0, hargs, rfl, rfl, h0, t0⟩ := trodAll_cons hA
  obtain ⟨v1, vs1, d1, ds1, p1, q1, rfl, rfl, rfl, h1, t1⟩ := trodAll_cons t0
  obtain ⟨rfl, rfl, rfl⟩ := trodAll_nil t1
  obtain rfl : args = #[v0, v1] := by cases args; simp_all
  obtain ⟨rfl, rfl⟩ := trodVars_none hV
  have k0 := h0
  obtain ⟨kind0, fl0, ex0, sq0, AK0, nk0, ck0, lk0, AV0, nv0, cv0, lv0, rfl, r0, y0⟩ := open_rec (hval 0 26 v0 rfl rfl) h0
  have s0 := y0 (weights_of hsz (j := 0) rfl rfl)
  have k1 := h1
  obtain ⟨x1, rfl, rfl, rfl, wf1⟩ := open_int Try.underlying3 (hval 1 3 v1 rfl rfl) h1
  have m1 := wf_int wf1
  clear hA0 hval0
  refine (walk_recordCut kind0 fl0 ex0 sq0 AK0 nk0 ck0 lk0 AV0 nv0 cv0 lv0 x1 W r0 s0 m1).mono fun e W' ⟨he, bel⟩ => ?_
  subst he
  exact ⟨_, rfl, _, _, _, [], _, [], hW', trodAll_mk1 (shut_bool Try.underlying4 _), (trodAll_cons_mk (Below.trod laidOut (by kernel_rfl) (of_decide_eq_true (by kernel_rfl)) k0 bel (trod_places k0)) (trodAll_cons_mk (Below.trod laidOut (by kernel_rfl) (of_decide_eq_true (by kernel_rfl)) k1 bel (trod_places k1)) trodAll_mk0)), rfl, bel.frame _, fun h => by cases h⟩

theorem over_recordCut : Rows.recordCutRow.holds Try.pinned (OpenSpec.ofChange Rows.recordCutSpec) :=
  OpenClaim.holds_of_wide 7 Try.f7 rfl rfl rfl rfl rfl rfl rfl ⟨rfl, rfl, rfl, rfl, rfl⟩ rfl rfl rfl rfl rfl (by kernel_rfl) Try.func7 (by kernel_rfl)
    (of_decide_eq_true (by kernel_rfl)) (by unfold Func.isWrapper; first | (rw [if_pos (by decide +kernel)]; kernel_rfl) | (rw [if_neg (by decide +kernel)]; exact ⟨rfl, rfl⟩))
    (fun os started H enc _ => lifted_recordCut os started H enc)

/-- The statement. -/
theorem recordCut_holds : Rows.RecordCutSaid := over_recordCut
#print axioms recordCut_holds

end Go.Proofs.Ytkdkmdjfimnkaaa

/- RecordTombs: the tombstone of a key, for every key and sequence. Conditions: those of the given row alone. -/
import Derived.Test.YtkdkmdjfimnkaaaTom
namespace Go.Proofs.Ytkdkmdjfimnkaaa
set_option linter.unusedVariables false
open Go.RowKit Go.ChangeShapes Go.WideShapes Go.ChangeAt

def TombsQ (w : World) (e : Ending) (w' : World) : Prop := e = .returned (.bool true) ∧ Below w.heap.size w w'
set_option maxRecDepth 20000 in
set_option maxHeartbeats 8000000 in
theorem tombs_ok (A : Option Addr) (n c : Nat) (l : List UInt8) (sq : Nat) (w : World) (r : Rd w w.heap.size A n c l)
    (hT : ∀ A c W, Rd W W.heap.size A (min n 400) c (l.take (min n 400)) → Calls Try.prog 19 #[.slice A (min n 400) c, .int .u64 sq] W (TombOk (min n 400) (l.take (min n 400)) sq W))
    (hRi : ∀ A c W, Calls Try.prog 20 #[.agg #[.int .i64 2, .int .u32 0, .int .u32 0, .int .u64 (sq : Nat), .slice A (min n 400) c, .slice none 0 0]] W fun e w' => e = .returned (.bool true) ∧ Below W.heap.size W w') :
    Calls Try.prog 5 #[.slice A n c, .int .u64 sq] w (TombsQ w) := by
  have HT := Lib.hid hT
  have HR := Lib.hid hRi
  have rb := rd_pre r (Nat.min_le_left n 400)
  have hm4 : min n 400 ≤ 400 := Nat.min_le_right _ _
  have hcap := r.cap
  clear hT hRi
  go_enter Try.func5, Try.ntmps5
  go_wp2_with fail
  refine (wakes06 _).mono ?_
  rintro e w1 ⟨rfl, b⟩
  go_upto_region 3 with fail
  go_cut [0] (fun s wx => s = .slice A (min n 400) c ∧ w1 = wx)
  case first =>
    by_cases h9 : n ≤ 400
    · have hmn := Lib.hid (Nat.min_eq_left h9)
      go_wp2_with fail
      all_goals
        go_meet
        exact ⟨by rw [hmn.out], rfl⟩
    · have hmn := Lib.hid (Nat.min_eq_right (show 400 ≤ n by omega))
      go_wp2_with fail
      all_goals
        go_meet
        exact ⟨by rw [hmn.out], rfl⟩
  case rest =>
    obtain ⟨rfl, rfl⟩ := hcut
    clear hcap r
    generalize min n 400 = m at rb HT HR hm4 ⊢
    generalize l.take m = l' at rb HT
    have hl' := rb.len
    have HL := Lib.hid hl'
    clear hl'
    go_wp2_with (at_make; refine wpList_mkc8 _ rfl _ _ rfl w1.heap.size (m + 2) _ rfl rfl (by omega) (by omega) (Nat.le_refl _) ?_)
    intro w2 o2 b2
    go_wp2_with (at_builtin; refine wpList_app8 _ rfl _ _ rfl w1.heap.size _ 0 _ _ rfl o2 w.heap.size A m c l' rfl (rb.below (below_step b b2)) (by omega) b2.size ?_)
    intro A3 c3 w3 o3 b3
    have b23 := b2.trans b3
    have hb1 := b.size
    clear b2
    go_wp2_with (at_builtin; refine wpList_app8 _ rfl _ _ rfl w1.heap.size A3 m c3 l' rfl (o3.alloc _) _ (some ⟨w3.heap.size, 0, none⟩) 1 1 [7] rfl (Rd.one w3 _ _ rfl) (by omega) (by have := b23.size; simp; omega) ?_)
    intro A4 c4 w4 o4 b4
    have b34 : Below w1.heap.size w3 w4 := ((Below.refl _ _).alloc b23.size _).trans b4
    replace b := b.trans ((b23.trans b34).mono hb1)
    obtain ⟨gO, rfl, hO1, hO2⟩ := own_row o4
    have HSl := slc_own o4 m (m : Int) rfl (Nat.le_succ m)
    have HTW := Lib.hid (HT.out (some ⟨gO, 0, none⟩) c4 w4 (rd_fore7 o4.rd))
    clear b3 b4 b23 b34 o3
    go_wp2_with fail
    refine HTW.out.mono ?_
    rintro e w5 ⟨K, c', rfl, oK, b5⟩
    have hb4 := b5.size
    replace b := below_step b b5
    replace o4 := o4.below b5
    have ba := below_a1' (Below.refl w5.heap.size w5) (.cells #[.int .i64 2, .int .u32 0, .int .u32 0, .int .u64 (sq : Nat), .slice K m c', .slice none 0 0] 26)
    have k6 := Blk.new w5 #[.int .i64 2, .int .u32 0, .int .u32 0, .int .u64 (sq : Nat), .slice K m c', .slice none 0 0] 26
    replace b := below_step b ba
    replace o4 := o4.below ba
    replace oK := oK.below ba
    clear b5 HTW
    have hs5 : (w5.alloc (.cells #[.int .i64 2, .int .u32 0, .int .u32 0, .int .u64 (sq : Nat), .slice K m c', .slice none 0 0] 26)).heap.size = w5.heap.size + 1 := by simp
    go_wp2_with (at_builtin; refine wpList_app8 _ rfl _ _ rfl (w5.heap.size + 1) (some ⟨w5.heap.size + 1, 0, none⟩) 0 0 [] rfl (Own.emptyK _ _ _ (by simp) (Nat.le_refl _)) w.heap.size A m c l' rfl ((rb.below b).alloc b.size _) (by omega) (by simp) ?_)
    intro A7 c7 w7 o7 b7
    have b7' : Below (w5.alloc (.cells #[.int .i64 2, .int .u32 0, .int .u32 0, .int .u64 (sq : Nat), .slice K m c', .slice none 0 0] 26)).heap.size (w5.alloc (.cells #[.int .i64 2, .int .u32 0, .int .u32 0, .int .u64 (sq : Nat), .slice K m c', .slice none 0 0] 26)) w7 := ((Below.refl _ _).alloc (Nat.le_refl _) _).trans (b7.mono (by simp))
    replace b := below_step b b7'
    replace o4 := o4.below b7'
    replace k6 := k6.step b7'
    replace oK := oK.below b7'
    have h75 : w5.heap.size < w7.heap.size := by have := b7'.size; omega
    clear b7 b7' ba hs5
    have bc := below_a1' (Below.refl w7.heap.size w7) (.cells #[.int .i64 2, .int .u32 0, .int .u32 0, .int .u64 (sq : Nat), .slice A7 m c7, .slice none 0 0] 26)
    have k8 := Blk.new w7 #[.int .i64 2, .int .u32 0, .int .u32 0, .int .u64 (sq : Nat), .slice A7 m c7, .slice none 0 0] 26
    replace b := below_step b bc
    replace o4 := o4.below bc
    replace k6 := k6.step bc
    replace o7 := o7.below bc
    have hs7 := bc.size
    replace oK := oK.below bc
    have u1 := seven_at o4.rd
    go_wp2_with fail
    refine (HR.out A7 c7 _).mono ?_
    rintro e w9 ⟨rfl, b9⟩
    replace b := below_step b b9
    replace o4 := o4.below b9
    replace k6 := k6.step b9
    replace k8 := k8.step b9
    replace o7 := o7.below b9
    replace oK := oK.below b9
    have hO9 : gO < w9.heap.size := o4.base.2
    clear b9 HR HT bc u1
    go_wp2_with fail
    go_loopw [57] (fun i wr => ∃ (k : Nat) (l2 : List UInt8), k ≤ m ∧ i = .int .i64 k ∧ Own wr w1.heap.size (some ⟨gO, 0, none⟩) (m + 1) c4 l2 ∧ w9.grownBy wr (some gO)) (fun i _ => m - (intOf i).toNat)
    case atStart => exact ⟨0, _, Nat.zero_le _, rfl, o4, World.grownBy.refl w9 _⟩
    case round =>
      obtain ⟨k, l2, hk, rfl, ho2, hg2⟩ := hrel
      clear o4
      by_cases hlt : k < m
      · obtain ⟨x1, hx1, hc1⟩ := ho2.cellAt (j := k) (by omega)
        have hf := ho2.frozenAt k
        clear hx1
        have hi1 : (k : Int) < (m : Int) + 1 := by omega
        have ho3 : Own (wr.setCell ⟨gO, k, none⟩ (.int .u8 238)) w1.heap.size (some ⟨gO, 0, none⟩) (m + 1) c4 (l2.set k 238) := ho2.stored k 238
        have hg3 := grown_trans hg2 (rdr_grown_set wr gO k (.int .u8 238))
        go_wp2
        go_roundw
        case rel => exact ⟨k + 1, _, by omega, by go_num, ho3, hg3⟩
        case measure => simp [intOf]; omega
      · have k6' := k6.left hg2 (by omega)
        have k8' := k8.left hg2 (by omega)
        have rK := (oK.kept hg2 (by omega)).rd
        have rW := (o7.kept hg2 (by omega)).rd
        have b' := b.trans (below_grown hg2 (by omega) hO9)
        have hS := Lib.hid (rsame_5 2 2 0 0 0 0 sq sq K none A7 none m c' 0 0 m c7 0 0 l' [] l' [] _ rK (Rd.nil _ _) rW (Rd.nil _ _) rfl rfl rfl (beq_self_eq_true _) (beq_self_eq_true _))
        have HSS : Hid (Calls Try.prog 13 #[.agg #[.int .i64 2, .int .u32 0, .int .u32 0, .int .u64 (sq : Nat), .slice K m c', .slice none 0 0], .agg #[.int .i64 2, .int .u32 0, .int .u32 0, .int .u64 (sq : Nat), .slice A7 m c7, .slice none 0 0]] wr (PSame true wr)) := hS
        obtain ⟨q0, q1, q2, q3, q4, q5⟩ := box6 k6'
        obtain ⟨y0, y1, y2, y3, y4, y5⟩ := box6 k8'
        clear hS rK rW k6 k8 oK o7 k6' k8' hg2 ho2
        go_wp2_with fail
        refine HSS.out.mono ?_
        rintro e wz ⟨rfl, bz⟩
        replace b' := below_step b' bz
        go_wp2_with fail
        go_ret
        exact ⟨rfl, b'⟩
set_option maxRecDepth 20000 in
set_option maxHeartbeats 8000000 in
theorem tombs_no (A : Option Addr) (n c : Nat) (l : List UInt8) (sq : Nat) (w : World) (r : Rd w w.heap.size A n c l)
    (hT : ∀ A c W, Rd W W.heap.size A (min n 400) c (l.take (min n 400)) → Calls Try.prog 19 #[.slice A (min n 400) c, .int .u64 sq] W (TombNo W))
    (hRi : ∀ A c W, Calls Try.prog 20 #[.agg #[.int .i64 2, .int .u32 0, .int .u32 0, .int .u64 (sq : Nat), .slice A (min n 400) c, .slice none 0 0]] W fun e w' => e = .returned (.bool false) ∧ Below W.heap.size W w') :
    Calls Try.prog 5 #[.slice A n c, .int .u64 sq] w (TombsQ w) := by
  have HT := Lib.hid hT
  have HR := Lib.hid hRi
  have rb := rd_pre r (Nat.min_le_left n 400)
  have hm4 : min n 400 ≤ 400 := Nat.min_le_right _ _
  have hcap := r.cap
  clear hT hRi
  go_enter Try.func5, Try.ntmps5
  go_wp2_with fail
  refine (wakes06 _).mono ?_
  rintro e w1 ⟨rfl, b⟩
  go_upto_region 3 with fail
  go_cut [0] (fun s wx => s = .slice A (min n 400) c ∧ w1 = wx)
  case first =>
    by_cases h9 : n ≤ 400
    · have hmn := Lib.hid (Nat.min_eq_left h9)
      go_wp2_with fail
      all_goals
        go_meet
        exact ⟨by rw [hmn.out], rfl⟩
    · have hmn := Lib.hid (Nat.min_eq_right (show 400 ≤ n by omega))
      go_wp2_with fail
      all_goals
        go_meet
        exact ⟨by rw [hmn.out], rfl⟩
  case rest =>
    obtain ⟨rfl, rfl⟩ := hcut
    clear hcap r
    generalize min n 400 = m at rb HT HR hm4 ⊢
    generalize l.take m = l' at rb HT
    have hl' := rb.len
    have HL := Lib.hid hl'
    clear hl'
    go_wp2_with (at_make; refine wpList_mkc8 _ rfl _ _ rfl w1.heap.size (m + 2) _ rfl rfl (by omega) (by omega) (Nat.le_refl _) ?_)
    intro w2 o2 b2
    go_wp2_with (at_builtin; refine wpList_app8 _ rfl _ _ rfl w1.heap.size _ 0 _ _ rfl o2 w.heap.size A m c l' rfl (rb.below (below_step b b2)) (by omega) b2.size ?_)
    intro A3 c3 w3 o3 b3
    have b23 := b2.trans b3
    have hb1 := b.size
    clear b2
    go_wp2_with (at_builtin; refine wpList_app8 _ rfl _ _ rfl w1.heap.size A3 m c3 l' rfl (o3.alloc _) _ (some ⟨w3.heap.size, 0, none⟩) 1 1 [7] rfl (Rd.one w3 _ _ rfl) (by omega) (by have := b23.size; simp; omega) ?_)
    intro A4 c4 w4 o4 b4
    have b34 : Below w1.heap.size w3 w4 := ((Below.refl _ _).alloc b23.size _).trans b4
    replace b := b.trans ((b23.trans b34).mono hb1)
    obtain ⟨gO, rfl, hO1, hO2⟩ := own_row o4
    have HSl := slc_own o4 m (m : Int) rfl (Nat.le_succ m)
    have HTW := Lib.hid (HT.out (some ⟨gO, 0, none⟩) c4 w4 (rd_fore7 o4.rd))
    clear b3 b4 b23 b34 o3
    go_wp2_with fail
    refine HTW.out.mono ?_
    rintro e w5 ⟨rfl, b5⟩
    have hb4 := b5.size
    replace b := below_step b b5
    replace o4 := o4.below b5
    unfold zeroRec
    have ba := below_a1' (Below.refl w5.heap.size w5) (.cells #[.int .i64 0, .int .u32 0, .int .u32 0, .int .u64 0, .slice none 0 0, .slice none 0 0] 26)
    have k6 := Blk.new w5 #[.int .i64 0, .int .u32 0, .int .u32 0, .int .u64 0, .slice none 0 0, .slice none 0 0] 26
    replace b := below_step b ba
    replace o4 := o4.below ba
    clear b5 HTW
    have hs5 : (w5.alloc (.cells #[.int .i64 0, .int .u32 0, .int .u32 0, .int .u64 0, .slice none 0 0, .slice none 0 0] 26)).heap.size = w5.heap.size + 1 := by simp
    go_wp2_with (at_builtin; refine wpList_app8 _ rfl _ _ rfl (w5.heap.size + 1) (some ⟨w5.heap.size + 1, 0, none⟩) 0 0 [] rfl (Own.emptyK _ _ _ (by simp) (Nat.le_refl _)) w.heap.size A m c l' rfl ((rb.below b).alloc b.size _) (by omega) (by simp) ?_)
    intro A7 c7 w7 o7 b7
    have b7' : Below (w5.alloc (.cells #[.int .i64 0, .int .u32 0, .int .u32 0, .int .u64 0, .slice none 0 0, .slice none 0 0] 26)).heap.size (w5.alloc (.cells #[.int .i64 0, .int .u32 0, .int .u32 0, .int .u64 0, .slice none 0 0, .slice none 0 0] 26)) w7 := ((Below.refl _ _).alloc (Nat.le_refl _) _).trans (b7.mono (by simp))
    replace b := below_step b b7'
    replace o4 := o4.below b7'
    replace k6 := k6.step b7'
    have h75 : w5.heap.size < w7.heap.size := by have := b7'.size; omega
    clear b7 b7' ba hs5
    have bc := below_a1' (Below.refl w7.heap.size w7) (.cells #[.int .i64 2, .int .u32 0, .int .u32 0, .int .u64 (sq : Nat), .slice A7 m c7, .slice none 0 0] 26)
    have k8 := Blk.new w7 #[.int .i64 2, .int .u32 0, .int .u32 0, .int .u64 (sq : Nat), .slice A7 m c7, .slice none 0 0] 26
    replace b := below_step b bc
    replace o4 := o4.below bc
    replace k6 := k6.step bc
    replace o7 := o7.below bc
    have hs7 := bc.size
    have u1 := seven_at o4.rd
    go_wp2_with fail
    refine (HR.out A7 c7 _).mono ?_
    rintro e w9 ⟨rfl, b9⟩
    replace b := below_step b b9
    replace o4 := o4.below b9
    replace k6 := k6.step b9
    replace k8 := k8.step b9
    replace o7 := o7.below b9
    have hO9 : gO < w9.heap.size := o4.base.2
    clear b9 HR HT bc u1
    have HSS : Hid (∀ W, Calls Try.prog 13 #[.agg #[.int .i64 0, .int .u32 0, .int .u32 0, .int .u64 0, .slice none 0 0, .slice none 0 0], .agg #[.int .i64 0, .int .u32 0, .int .u32 0, .int .u64 0, .slice none 0 0, .slice none 0 0]] W (PSame true W)) := Lib.hid (fun W => rsame_5 0 0 0 0 0 0 0 0 none none none none 0 0 0 0 0 0 0 0 [] [] [] [] W (Rd.nil _ _) (Rd.nil _ _) (Rd.nil _ _) (Rd.nil _ _) rfl rfl rfl rfl rfl)
    obtain ⟨q0, q1, q2, q3, q4, q5⟩ := box6 k6
    go_wp2_with fail
    refine (HSS.out _).mono ?_
    rintro e wz ⟨rfl, bz⟩
    replace b := below_step b bz
    go_wp2_with fail
    go_ret
    exact ⟨rfl, b⟩
theorem walk_recordTombs (A : Option Addr) (n c : Nat) (l : List UInt8) (sq : Nat) (w : World) (r : Rd w w.heap.size A n c l) (hc : c ≤ 140737488351232) (hsq : (sq : Int) ≤ 18446744073709551615) :
    Calls Try.prog 5 #[.slice A n c, .int .u64 sq] w fun e w' => e = .returned (.bool true) ∧ Below w.heap.size w w' := by
  have hm := Nat.min_le_right n 400
  have hRi := fun A c W => rright_any 2 0 0 sq A none (min n 400) c 0 0 W
  unfold recV at hRi
  cases hr : rightR 2 0 0 sq (min n 400) 0
  · rw [hr] at hRi
    exact tombs_no A n c l sq w r (fun A c W rW => tomb_no A _ c _ sq W rW (by omega) hr) hRi
  · rw [hr] at hRi
    exact tombs_ok A n c l sq w r (fun A c W rW => tomb_ok A _ c _ sq W rW (by omega) hr) hRi


set_option maxRecDepth 100000 in
theorem lifted_recordTombs (os : Os) (started : os.Started) (H : Type) (enc : TypeId × Value → H) :
    ReturnsInHanded {} Try.checked os 5 .any (Rows.recordTombsSpec.pre6 enc Try.prog Try.f5 Rows.recordTombsRow.domain false) (Rows.recordTombsSpec.post enc Try.prog Try.f5 false true false false) := by
  refine returnsInHanded_of_change_sized (C := Try.checked) own started (by kernel_rfl) Try.func5
    (ChangeSpec.witness6 (enc := enc) (C := Try.checked) false ⟨#[], #[.slice none 0 0, .int .u64 0], []⟩ 8 (by kernel_rfl) (by kernel_rfl) (by kernel_rfl) (by kernel_rfl)) ?_
  intro W base args ds gs before hval0 hW hcnd hsz0 _
  have hval : ∀ (j : Nat) t v, Try.f5.params[j]? = some t → args[j]? = some v → Value.okWide Try.prog W .any base t v := hval0
  have hsz : (DataW.weightsEach Try.prog (Try.f5.params.toList ++ Rows.recordTombsSpec.plain.varTypes Try.prog) (ds ++ gs)).all (· ≤ reachBytes) = true := hsz0
  have hW' := hW
  obtain ⟨p, q, hA0, hV, rfl, hfz, hnd⟩ := hW
  have hA : DataW.TrodAll enc Try.prog W 0 (fun _ => true) true Try.f5.params.toList args.toList ds p := hA0
  rw [Try.params5] at hA hval hsz
  obtain ⟨v0, vs0, d0, ds0, p0, q0, hargs, rfl, rfl, h0, t0⟩ := trodAll_cons hA
  obtain ⟨v1, vs1, d1, ds1, p1, q1, rfl, rfl, rfl, h1, t1⟩ := trodAll_cons t0
  obtain ⟨rfl, rfl, rfl⟩ := trodAll_nil t1
  obtain rfl : args = #[v0, v1] := by cases args; simp_all
  obtain ⟨rfl, rfl⟩ := trodVars_none hV
  have k0 := h0
  obtain ⟨A0, n0, c0, l0, rfl, r0, y0⟩ := open_bytes (hval 0 24 v0 rfl rfl) h0
  have s0 := y0 (weights_of hsz (j := 0) rfl rfl)
  have k1 := h1
  obtain ⟨z1, rfl, rfl, rfl, wf1⟩ := open_int Try.underlying23 (hval 1 23 v1 rfl rfl) h1
  obtain ⟨x1, rfl, m1⟩ := wf_nat (M := 18446744073709551615) wf1 rfl rfl
  clear hA0 hval0
  refine (walk_recordTombs A0 n0 c0 l0 x1 W r0 s0 m1).mono fun e W' ⟨he, bel⟩ => ?_
  subst he
  exact ⟨_, rfl, _, _, _, [], _, [], hW', trodAll_mk1 (shut_bool Try.underlying4 _), (trodAll_cons_mk (Below.trod laidOut (by kernel_rfl) (of_decide_eq_true (by kernel_rfl)) k0 bel (trod_places k0)) (trodAll_cons_mk (Below.trod laidOut (by kernel_rfl) (of_decide_eq_true (by kernel_rfl)) k1 bel (trod_places k1)) trodAll_mk0)), rfl, bel.frame _, fun h => by cases h⟩

theorem over_recordTombs : Rows.recordTombsRow.holds Try.pinned (OpenSpec.ofChange Rows.recordTombsSpec) :=
  OpenClaim.holds_of_wide 5 Try.f5 rfl rfl rfl rfl rfl rfl rfl ⟨rfl, rfl, rfl, rfl, rfl⟩ rfl rfl rfl rfl rfl (by kernel_rfl) Try.func5 (by kernel_rfl)
    (of_decide_eq_true (by kernel_rfl)) (by unfold Func.isWrapper; first | (rw [if_pos (by decide +kernel)]; kernel_rfl) | (rw [if_neg (by decide +kernel)]; exact ⟨rfl, rfl⟩))
    (fun os started H enc _ => lifted_recordTombs os started H enc)

/-- The statement. -/
theorem recordTombs_holds : Rows.RecordTombsSaid := over_recordTombs
#print axioms recordTombs_holds

end Go.Proofs.Ytkdkmdjfimnkaaa

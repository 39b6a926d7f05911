/- BloomBytes: which bytes are a filter, and which one. Conditions: none. -/
import Derived.Test.YtbncjacbggngiaaBlDoes
import Derived.Test.YtbncjacbggngiaaBlv
import Derived.Deep.DeepCutAuto
namespace Go.Proofs.Ytbncjacbggngiaa
set_option linter.unusedVariables false
open Go.ChangeShapes Go.WideShapes Go.ChangeAt Go.RowKit

theorem run_strA {w : World} {B : Nat} {A : Option Addr} {n c : Nat} {l : List UInt8} (h : Rd w B A n c l) :
    (convert 41 9 (.slice A n c)).run Try.prog w = .ok (.string ⟨l.toArray⟩) w := by
  by_cases hn : 0 < n
  · exact run_str h hn
  · obtain rfl : n = 0 := by omega
    have hl : l = [] := List.eq_nil_of_length_eq_zero h.len
    subst hl
    cases A with
    | none =>
      obtain rfl : c = 0 := h.2.2.2.1 rfl
      rfl
    | some ad => exact run_convert_bytes_back w 41 9 5 ad c [] Try.underlying41 Try.underlying5 Try.underlying9 fun j hj => by simp at hj
set_option maxHeartbeats 400000 in
theorem bequal_all (A1 A2 : Option Addr) (n1 c1 n2 c2 B B2 : Nat) (l1 l2 : List UInt8) (w : World) (h1 : Rd w B A1 n1 c1 l1) (h2 : Rd w B2 A2 n2 c2 l2) (he : l1 = l2) :
    Calls Try.prog 21 #[.slice A1 n1 c1, .slice A2 n2 c2] w fun e w' => e = .returned (.bool true) ∧ w = w' := by
  have r1 := run_strA h1
  have r2 := run_strA h2
  subst he
  go_enter Try.func21, Try.ntmps21
  go_wp2
  go_ret
  exact ⟨rfl, rfl⟩
theorem Rd.pre {w : World} {B n c m : Nat} {A : Option Addr} {l : List UInt8} (h : Rd w B A n c l) (hm : m ≤ n) : Rd w B A m c (l.take m) := by
  have := Rv.pre h hm
  unfold Rd cbs at *
  rwa [← List.map_take] at this
theorem OnlyIn.one (w : World) (k j : Nat) (v : Value) : OnlyIn w (w.setCell ⟨k, j, none⟩ v) k (k + 1) := (OnlyIn.refl w k (k + 1)).setCell (p := ⟨k, j, none⟩) (Nat.le_refl _) (Nat.lt_succ_self _) v

set_option maxRecDepth 100000 in
set_option maxHeartbeats 8000000 in
theorem walk_bloomBytes (A0 : Option Addr) (n0 c0 : Nat) (l0 : List UInt8) (x1 : Nat) (w : World) (r0 : Rd w w.heap.size A0 n0 c0 l0) (s0 : c0 ≤ 140737488351232) (m1 : (x1 : Int) ≤ 18446744073709551615) :
    Calls Try.prog 8 #[.slice A0 n0 c0, .int .u64 x1] w fun e w' => e = .returned (.bool true) ∧ Below w.heap.size w w' := by
  have b := Below.refl w.heap.size w
  have hx : x1 < 18446744073709551616 := by omega
  have hcap := r0.cap
  have rb := Rd.pre r0 (Nat.min_le_left n0 9000)
  have hm9 : min n0 9000 ≤ 9000 := Nat.min_le_right _ _
  go_enter Try.func8, Try.ntmps8
  go_wp2_with fail
  refine (wakes04 _).mono ?_
  rintro e w1 ⟨rfl, b1⟩
  replace b := below_step b b1
  clear b1
  go_upto_region 3 with fail
  go_cut [0] (fun s wx => s = .slice A0 (min n0 9000) c0 ∧ w1 = wx)
  case first =>
    by_cases h9 : n0 ≤ 9000
    · have hmn := Lib.hid (Nat.min_eq_left h9)
      go_wp2_with fail
      go_meet
      exact ⟨by rw [hmn.out], rfl⟩
    · have hmn := Lib.hid (Nat.min_eq_right (show 9000 ≤ n0 by omega))
      go_wp2_with fail
      all_goals
        go_meet
        exact ⟨by rw [hmn.out], rfl⟩
  case rest =>
    obtain ⟨rfl, rfl⟩ := hcut
    clear hcap
    generalize hl : l0.take (min n0 9000) = l at rb
    generalize min n0 9000 = m at rb hm9 ⊢
    clear hl
    have hml := rb.len
    subst hml
    have HRB := Lib.hid rb
    clear rb r0
    go_wp2_with (at_make; refine wpList_mkc8 _ rfl _ _ rfl w1.heap.size (l.length + 2) _ rfl rfl (by omega) (by omega) (Nat.le_refl _) ?_)
    intro w2 o2 b2
    have bb2 := below_step b b2
    go_wp2_with (at_builtin; refine wpList_app8 _ rfl _ _ rfl w1.heap.size _ 0 _ _ rfl o2 _ _ l.length c0 l rfl (HRB.out.below bb2) (by omega) b2.size ?_)
    intro A3 c3 w3 o3 b3
    have b3' := b2.trans b3
    go_wp2_with (at_builtin; refine wpList_app8 _ rfl _ _ rfl w1.heap.size A3 _ c3 _ rfl (o3.alloc _) (w3.heap.size + 1) (some ⟨w3.heap.size, 0, none⟩) 1 1 [7] rfl (Rd.one w3 _ _ rfl) (by omega) (by simp; have := b3'.size; omega) ?_)
    intro A4 c4 w4 o4 b4
    have b4' := (b3'.alloc b3'.size _).trans b4
    have bb4 := below_step b b4'
    obtain ⟨k, rfl, hk1, hk2⟩ := o4.row (by omega)
    have ro4 := Rd.pre o4.rd (m := l.length) (by omega)
    rw [List.take_left] at ro4
    have rb4 := (HRB.out.below bb4).more bb4.size
    have hcap4 := o4.rd.cap
    have hmax4 := o4.rd.max
    unfold maxLen at hmax4
    have hk3 := bb4.size
    have hwk : w.heap.size ≤ k := Nat.le_trans b.size hk1
    clear o2 b2 bb2 o3 b3 b3' b4 b4' HRB
    by_cases hs : l.length < 4
    · go_wp2_with fail
      refine (of_short _ _ _ _ hs).mono ?_
      rintro e w5 ⟨rfl, rfl⟩
      go_wp2_with fail
      refine (rof_short _ _ _ _ hs).mono ?_
      rintro e w5 ⟨rfl, rfl⟩
      have c7 : w4.cell? ⟨k, l.length, none⟩ = some (.int .u8 7) := by
        obtain ⟨x, hx, hc⟩ := o4.cellAt (j := l.length) (by omega)
        rw [List.getElem?_append_right (Nat.le_refl _), Nat.sub_self] at hx
        obtain rfl : 7 = x := by simpa using hx
        exact hc
      go_wp2_with fail
      refine (bequal_all _ _ _ _ _ _ _ _ _ _ _ ro4 rb4 rfl).mono ?_
      rintro e w9 ⟨rfl, rfl⟩
      go_wp2_with fail
      clear c7
      go_ret
      exact ⟨rfl, bb4⟩
    by_cases hq : numB (l.take 4) < 8 ∨ 65536 < numB (l.take 4) ∨ numB (l.take 4) % 8 ≠ 0
    · have HQ := Lib.hid (hq)
      clear hq
      go_wp2_with fail
      refine (of_bits _ _ _ l _ ro4 (by omega) (by omega) HQ.out).mono ?_
      rintro e w5 ⟨rfl, b5⟩
      have ro5 := ro4.step b5
      have rb5 := rb4.step b5
      have o5 := o4.step b5
      have bb5 := below_step bb4 b5
      go_wp2_with fail
      refine (rof_bits _ _ _ l _ rb5 (by omega) HQ.out).mono ?_
      rintro e w6 ⟨rfl, b6⟩
      have ro6 := ro5.step b6
      have rb6 := rb5.step b6
      have o6 := o5.step b6
      have bb6 := below_step bb5 b6
      have c7 : w6.cell? ⟨k, l.length, none⟩ = some (.int .u8 7) := by
        obtain ⟨x, hx, hc⟩ := o6.cellAt (j := l.length) (by omega)
        rw [List.getElem?_append_right (Nat.le_refl _), Nat.sub_self] at hx
        obtain rfl : 7 = x := by simpa using hx
        exact hc
      go_wp2_with fail
      refine (bequal_all _ _ _ _ _ _ _ _ _ _ _ ro6 rb6 rfl).mono ?_
      rintro e w9 ⟨rfl, rfl⟩
      go_wp2_with fail
      clear c7
      go_ret
      exact ⟨rfl, bb6⟩
    obtain ⟨N, hN⟩ : ∃ N, numB (l.take 4) = 8 * N := ⟨numB (l.take 4) / 8, by omega⟩
    have hN1 : 1 ≤ N := by omega
    have hN2 : N ≤ 8192 := by omega
    clear hq
    by_cases hsz : l.length ≠ 4 + N
    · have HQ := Lib.hid (And.intro hN hsz)
      clear hN hsz
      go_wp2_with fail
      refine (of_size _ _ _ N l _ ro4 (by omega) (by omega) hN1 hN2 HQ.out.1 HQ.out.2).mono ?_
      rintro e w5 ⟨rfl, b5⟩
      have ro5 := ro4.step b5
      have rb5 := rb4.step b5
      have o5 := o4.step b5
      have bb5 := below_step bb4 b5
      go_wp2_with fail
      refine (rof_size _ _ _ N l _ rb5 (by omega) hN1 hN2 HQ.out.1 HQ.out.2).mono ?_
      rintro e w6 ⟨rfl, b6⟩
      have ro6 := ro5.step b6
      have rb6 := rb5.step b6
      have o6 := o5.step b6
      have bb6 := below_step bb5 b6
      have c7 : w6.cell? ⟨k, l.length, none⟩ = some (.int .u8 7) := by
        obtain ⟨x, hx, hc⟩ := o6.cellAt (j := l.length) (by omega)
        rw [List.getElem?_append_right (Nat.le_refl _), Nat.sub_self] at hx
        obtain rfl : 7 = x := by simpa using hx
        exact hc
      go_wp2_with fail
      refine (bequal_all _ _ _ _ _ _ _ _ _ _ _ ro6 rb6 rfl).mono ?_
      rintro e w9 ⟨rfl, rfl⟩
      go_wp2_with fail
      clear c7
      go_ret
      exact ⟨rfl, bb6⟩
    have hsz' : l.length = 4 + N := by omega
    have HQ := Lib.hid (And.intro hN hsz')
    have hld : (l.drop 4).length = N := by rw [List.length_drop]; omega
    have HLD := Lib.hid hld
    clear hN hsz hsz' hld
    go_wp2_with fail
    refine (of_ok _ _ _ N l _ ro4 hN1 hN2 HQ.out.1 HQ.out.2).mono ?_
    rintro e w5 ⟨g, rfl, f5, b5⟩
    have ro5 := ro4.step b5
    have rb5 := rb4.step b5
    have o5 := o4.step b5
    have bb5 := below_step bb4 b5
    go_wp2_with fail
    refine (rof_ok _ _ _ N l _ rb5 hN1 hN2 HQ.out.1 HQ.out.2).mono ?_
    rintro e w6 ⟨AL, cL, rfl, oL, b6⟩
    have ro6 := ro5.step b6
    have rb6 := rb5.step b6
    have o6 := o5.step b6
    have f6 := f5.step b6
    have bb6 := below_step bb5 b6
    have hs45 := b5.size
    generalize hB4 : w4.heap.size = B4 at f6 hk2 hs45
    generalize hB5 : w5.heap.size = B5 at f6 oL hs45
    clear hB4 hB5 ro4 rb4 ro5 rb5 o4 o5 f5
    have c7 : w6.cell? ⟨k, l.length, none⟩ = some (.int .u8 7) := by
      obtain ⟨x, hx, hc⟩ := o6.cellAt (j := l.length) (by omega)
      rw [List.getElem?_append_right (Nat.le_refl _), Nat.sub_self] at hx
      obtain rfl : 7 = x := by simpa using hx
      exact hc
    go_wp2_with fail
    refine (bequal_all _ _ _ _ _ _ _ _ _ _ _ ro6 rb6 rfl).mono ?_
    rintro e w9 ⟨rfl, rfl⟩
    go_wp2_with fail
    clear c7
    clear ro6 rb6
    go_loopw [10, 73] (fun y i wr => ∃ (j : Nat) (l' : List UInt8), j ≤ l.length ∧ i = .int .i64 j ∧ Own wr w1.heap.size (some ⟨k, 0, none⟩) (l.length + 1) c4 l' ∧ Flt wr B4 B5 g (l.drop 4) ∧ Ov wr B5 4 AL (8 * N) cL (bls (bitsL (l.drop 4))) ∧ Below w.heap.size w wr) (fun _ i _ => l.length - (intOf i).toNat)
    case atStart => exact ⟨0, _, Nat.zero_le _, rfl, o6, f6, oL, bb6⟩
    case round =>
      obtain ⟨j, l', hj, rfl, oj, fj, oLj, bj⟩ := hrel
      by_cases hlt : j < l.length
      · obtain ⟨x, hx, hcx⟩ := oj.cellAt (j := j) (by omega)
        have hfx := oj.frozenAt j
        have o3 := oj.stored j 238
        have e3 : cb 238 = .int .u8 238 := rfl
        rw [e3] at o3
        have n3 := OnlyIn.one wr k j (.int .u8 238)
        have f3 := fj.far n3 (Or.inr (by omega))
        have oL3 := oLj.only n3 (by omega)
        have b3 := bj.setCell (p := ⟨k, j, none⟩) hwk (.int .u8 238)
        clear hx e3
        go_wp2_with fail
        go_roundw
        case rel => exact ⟨j + 1, _, by omega, by go_num, o3, f3, oL3, b3⟩
        case measure => simp [intOf]; omega
      · go_wp2_with fail
        refine (agree_any _ _ g _ _ _ _ _ fj (Ov.rv oLj)).mono ?_
        rintro e w7 ⟨rfl, b7⟩
        have f7 := fj.step b7
        have oL7 := oLj.step b7
        have bb7 := below_step bj b7
        go_wp2_with fail
        refine (may_any _ _ g x1 _ _ f7 hx).mono ?_
        rintro e w8 ⟨rfl, b8⟩
        rw [HLD.out]
        have f8 := f7.step b8
        have oL8 := oL7.step b8
        have bb8 := below_step bb7 b8
        go_wp2_with fail
        refine (rmay_any _ (8 * N) _ x1 _ _ (Ov.rv oL8) (by omega) (by omega) hx).mono ?_
        rintro e w10 ⟨rfl, b10⟩
        have f10 := f8.step b10
        have oL10 := oL8.step b10
        have bb10 := below_step bb8 b10
        generalize allL (bitsL (l.drop 4)) (prbs x1 (8 * N)) = bb
        cases bb
        all_goals
          go_wp2_with fail
          refine (add_any _ _ g x1 _ _ f10 hx).mono ?_
          rintro e w11 ⟨rfl, f11, n11⟩
          rw [HLD.out] at f11
          have oL11 := oL10.only n11 (Nat.le_refl _)
          have bb11 := bb10.trans (n11.below (by omega) bb10.size)
          go_wp2_with fail
          refine (radd_any _ (8 * N) _ x1 _ _ (Ov.rv oL11) (by omega) (by omega) hx).mono ?_
          rintro e w12 ⟨A12, c12, rfl, o12, b12⟩
          rw [setsBits (by omega) (by rw [HLD.out])] at o12
          have f12 := f11.step b12
          have bb12 := below_step bb11 b12
          go_wp2_with fail
          refine (agree_any _ _ g _ _ _ _ _ f12 (Ov.rv o12)).mono ?_
          rintro e w13 ⟨rfl, b13⟩
          go_wp2_with fail
          go_ret
          exact ⟨rfl, below_step bb12 b13⟩


set_option maxRecDepth 100000 in
theorem lifted_bloomBytes (os : Os) (started : os.Started) (H : Type) (enc : TypeId × Value → H) :
    ReturnsInHanded {} Try.checked os 8 .any (Rows.bloomBytesSpec.pre6 enc Try.prog Try.f8 Rows.bloomBytesRow.domain false) (Rows.bloomBytesSpec.post enc Try.prog Try.f8 false true false false) := by
  refine returnsInHanded_of_change_sized (C := Try.checked) own started (by kernel_rfl) Try.func8
    (ChangeSpec.witness6 (enc := enc) (C := Try.checked) false ⟨#[], #[.slice none 0 0, .int .u64 0], []⟩ 8 (by kernel_rfl) (by kernel_rfl) (by kernel_rfl) (by kernel_rfl)) ?_
  intro W base args ds gs before hval0 hW hcnd hsz0 _
  have hval : ∀ (j : Nat) t v, Try.f8.params[j]? = some t → args[j]? = some v → Value.okWide Try.prog W .any base t v := hval0
  have hsz : (DataW.weightsEach Try.prog (Try.f8.params.toList ++ Rows.bloomBytesSpec.plain.varTypes Try.prog) (ds ++ gs)).all (· ≤ reachBytes) = true := hsz0
  have hW' := hW
  obtain ⟨p, q, hA0, hV, rfl, hfz, hnd⟩ := hW
  have hA : DataW.TrodAll enc Try.prog W 0 (fun _ => true) true Try.f8.params.toList args.toList ds p := hA0
  rw [Try.params8] at hA hval hsz
  obtain ⟨v0, vs0, d0, ds0, p0, q0, hargs, rfl, rfl, h0, t0⟩ := trodAll_cons hA
  obtain ⟨v1, vs1, d1, ds1, p1, q1, rfl, rfl, rfl, h1, t1⟩ := trodAll_cons t0
  obtain ⟨rfl, rfl, rfl⟩ := trodAll_nil t1
  obtain rfl : args = #[v0, v1] := by cases args; simp_all
  obtain ⟨rfl, rfl⟩ := trodVars_none hV
  have k0 := h0
  obtain ⟨A0, n0, c0, l0, rfl, r0, y0⟩ := open_bytes (hval 0 41 v0 rfl rfl) h0
  have s0 := y0 (weights_of hsz (j := 0) rfl rfl)
  have k1 := h1
  obtain ⟨z1, rfl, rfl, rfl, wf1⟩ := open_int Try.underlying22 (hval 1 22 v1 rfl rfl) h1
  obtain ⟨x1, rfl, m1⟩ := wf_nat (M := 18446744073709551615) wf1 rfl rfl
  clear hA0 hval0
  refine (walk_bloomBytes A0 n0 c0 l0 x1 W r0 s0 m1).mono fun e W' ⟨he, bel⟩ => ?_
  subst he
  exact ⟨_, rfl, _, _, _, [], _, [], hW', trodAll_mk1 (shut_bool Try.underlying4 _), (trodAll_cons_mk (Below.trod laidOut (by kernel_rfl) (of_decide_eq_true (by kernel_rfl)) k0 bel (trod_places k0)) (trodAll_cons_mk (Below.trod laidOut (by kernel_rfl) (of_decide_eq_true (by kernel_rfl)) k1 bel (trod_places k1)) trodAll_mk0)), rfl, bel.frame _, fun h => by cases h⟩

theorem over_bloomBytes : Rows.bloomBytesRow.holds Try.pinned (OpenSpec.ofChange Rows.bloomBytesSpec) :=
  OpenClaim.holds_of_wide 8 Try.f8 rfl rfl rfl rfl rfl rfl rfl ⟨rfl, rfl, rfl, rfl, rfl⟩ rfl rfl rfl rfl rfl (by kernel_rfl) Try.func8 (by kernel_rfl)
    (of_decide_eq_true (by kernel_rfl)) (by unfold Func.isWrapper; first | (rw [if_pos (by decide +kernel)]; kernel_rfl) | (rw [if_neg (by decide +kernel)]; exact ⟨rfl, rfl⟩))
    (fun os started H enc _ => lifted_bloomBytes os started H enc)

/-- The statement. -/
theorem bloomBytes_holds : Rows.BloomBytesSaid := over_bloomBytes
#print axioms bloomBytes_holds

end Go.Proofs.Ytbncjacbggngiaa

/- BloomSizes: how many bits a filter can have, for every number. Conditions: none. -/
import Derived.Test.YtbncjacbggngiaaBlw
namespace Go.Proofs.Ytbncjacbggngiaa
set_option linter.unusedVariables false
open Go.ChangeShapes Go.WideShapes Go.ChangeAt Go.RowKit

theorem right04_yes (b : Int) (h1 : 8 ≤ b) (h2 : b ≤ 65536) (h3 : b % 8 = 0) (w : World) :
    Calls Try.prog 12 #[.int .i64 b] w fun e w' => e = .returned (.bool true) ∧ w = w' := by
  have t : (b % 8 == 0) = true := by rw [beq_iff_eq]; exact h3
  clear h3
  go_enter Try.func12, Try.ntmps12
  go_wp2
  go_ret
  exact ⟨rfl, rfl⟩
theorem right04_no (b : Int) (h : b < 8 ∨ 65536 < b ∨ b % 8 ≠ 0) (w : World) :
    Calls Try.prog 12 #[.int .i64 b] w fun e w' => e = .returned (.bool false) ∧ w = w' := by
  by_cases h1 : b < 8
  · clear h
    go_enter Try.func12, Try.ntmps12
    go_wp2
    go_ret
    exact ⟨rfl, rfl⟩
  by_cases h2 : 65536 < b
  · clear h
    go_enter Try.func12, Try.ntmps12
    go_wp2
    go_ret
    exact ⟨rfl, rfl⟩
  have t : (b % 8 == 0) = false := by rw [beq_eq_false_iff_ne]; omega
  clear h
  go_enter Try.func12, Try.ntmps12
  go_wp2
  go_ret
  exact ⟨rfl, rfl⟩

theorem bitsL_zero : ∀ n : Nat, bitsL (List.replicate n 0) = List.replicate (8 * n) false
  | 0 => rfl
  | n + 1 => by
    rw [List.replicate_succ, bitsL_cons, bitsL_zero n, show bits8 0 = List.replicate 8 false from by decide, List.replicate_append_replicate]
    congr 1; omega
theorem allL_sets {L : List Bool} {ps : List Nat} (h : ∀ p ∈ ps, p < L.length) : allL (setsL L ps) ps = true := by
  unfold allL
  rw [List.all_eq_true]
  intro p hp
  rw [List.getD_eq_getElem?_getD, setsL_get ps L p (h p hp)]
  simp [hp]
theorem cntB_zero (n : Nat) : cntB (List.replicate n 0) = 0 := by
  rw [cntB_eq, bitsL_zero]; simp [cntL]
theorem sets_bits (l : List UInt8) (h : Nat) (hl : 1 ≤ l.length) : bitsL (setsB l (prbs h (8 * l.length))) = setsL (bitsL l) (prbs h (8 * l.length)) :=
  bitsL_setsB _ _ fun p hp => prbs_lt (by omega) hp
theorem eqNat {a b : Nat} (h : a = b) : ((a : Int) == (b : Int)) = true := by rw [beq_iff_eq, h]
theorem rv_mkB {w : World} {B g m : Nat} (h : w.ownsRow B 4 1 (.slice (some ⟨g, 0, none⟩) m m) m (madeCells (Value.bool false).cells (m * 1)).toList) : Rv w w.heap.size (some ⟨g, 0, none⟩) m m (bls (List.replicate m false)) := by
  have e : (madeCells (Value.bool false).cells (m * 1)).toList = bls (List.replicate m false) := by
    apply List.ext_getElem
    · simp [madeCells, bls]
    · intro i h3 h4
      simp [madeCells, bls, Value.cells, Nat.mod_one]
  rw [e] at h
  exact Ov.rv h
set_option maxHeartbeats 2000000 in
theorem walk_bloomSizes (x0 : Int) (x1 : Nat) (w : World) (m0 : -9223372036854775808 ≤ x0 ∧ x0 ≤ 9223372036854775807) (m1 : (x1 : Int) ≤ 18446744073709551615) :
    Calls Try.prog 3 #[.int .i64 x0, .int .u64 x1] w fun e w' => e = .returned (.bool true) ∧ Below w.heap.size w w' := by
  have b := Below.refl w.heap.size w
  have hx : x1 < 18446744073709551616 := by omega
  by_cases hr : 8 ≤ x0 ∧ x0 ≤ 65536 ∧ x0 % 8 = 0
  · obtain ⟨hr1, hr2, hr3⟩ := hr
    obtain ⟨n, hn⟩ : ∃ n : Nat, x0 = 8 * (n : Int) := ⟨(x0 / 8).toNat, by omega⟩
    subst hn
    have hn1 : 1 ≤ n := by omega
    have hn2 : n ≤ 8192 := by omega
    clear hr3 m0
    have hlz : (List.replicate n (0 : UInt8)).length = n := List.length_replicate
    have hsb := sets_bits (List.replicate n 0) x1 (by rw [hlz]; omega)
    rw [bitsL_zero, hlz] at hsb
    have e1 : allL (bitsL (setsB (List.replicate n 0) (prbs x1 (8 * n)))) (prbs x1 (8 * n)) = true := by
      rw [hsb]; exact allL_sets fun p hp => by rw [List.length_replicate]; exact prbs_lt (by omega) hp
    have e2 : cntB (setsB (List.replicate n 0) (prbs x1 (8 * n))) = cntL (setsL (List.replicate (8 * n) false) (prbs x1 (8 * n))) := by
      rw [cntB_eq, hsb]
    have E1 := Lib.hid e1
    have E2 := Lib.hid e2
    have HLZ := Lib.hid hlz
    clear hsb e1 e2 hlz
    go_enter Try.func3, Try.ntmps3
    go_wp2_with fail
    refine (wakes04 _).mono ?_
    rintro e w1 ⟨rfl, b1⟩
    replace b := below_step b b1
    clear b1
    go_wp2_with fail
    refine (new_ok n hn1 hn2 _ rfl _).mono ?_
    rintro e w2 ⟨g, rfl, f2, b2⟩
    have hs1 := b.size
    replace b := below_step b b2
    clear b2
    go_wp2_with fail
    refine (right04_yes _ hr1 hr2 (by omega) _).mono ?_
    rintro e w3 ⟨rfl, hq⟩
    subst hq
    go_wp2_with fail
    refine (bits_any _ _ g _ _ f2).mono ?_
    rintro e w3 ⟨rfl, rfl⟩
    rw [HLZ.out, Int.natCast_mul]
    go_wp2_with fail
    refine (set_any _ _ g _ _ f2).mono ?_
    rintro e w3 ⟨rfl, rfl⟩
    rw [cntB_zero]
    go_wp2_with fail
    refine (add_any _ _ g x1 _ _ f2 hx).mono ?_
    rintro e w4 ⟨rfl, f4, n4⟩
    rw [HLZ.out] at f4
    replace b := b.trans (n4.below hs1 b.size)
    go_wp2_with fail
    have f4d : Flt w4.drew _ _ g (setsB (List.replicate n 0) (prbs x1 (8 * n))) := f4.step (Below.refl _ _).drew
    have hl4 : (setsB (List.replicate n 0) (prbs x1 (8 * n))).length = n := by rw [length_setsB, HLZ.out]
    have HM : ∀ W, Flt W w1.heap.size w2.heap.size g (setsB (List.replicate n 0) (prbs x1 (8 * n))) → Calls Try.prog 16 #[.pointer (some ⟨g, 0, none⟩), .int .u64 x1] W (BoxB true W) := by
      intro W hW
      have := may_any _ _ g x1 _ W hW hx
      rw [hl4, E1.out] at this
      exact this
    have HMM := Lib.hid HM
    clear HM hl4
    go_region_held3 (fun _ => True) (trivial)
      (first
        | (go_at_call 16
           ((with_reducible refine (HMM.out _ f4d).mono ?_))
           rintro e w5 ⟨rfl, b5⟩
           have f5 := f4d.step b5
           obtain ⟨i0, hi0, hz0, hz1, hz2⟩ := info_parts boolinfo
           obtain ⟨w6, hmk, o6, g6⟩ := run_make_full (P := Try.prog) w5 w5.heap.size 33 4 i0 _ 1 Try.underlying33 hi0 hz0 hz1 .i64 .i64 (8 * n) (by rw [hz2]; omega) (by unfold maxLen; omega) (Nat.le_refl _)
           rw [show ((8 * n : Nat) : Int) = 8 * (n : Int) from by omega] at hmk
           have b6 := below_of_grown0 g6 (Nat.le_refl _)
           have f6 := f5.step b6
           have r6 := rv_mkB o6)
        | (go_at_call 14
           ((with_reducible refine (set_any _ _ g _ _ f5).mono ?_))
           rintro e w7 ⟨rfl, rfl⟩)
        | (go_at_call 14
           ((with_reducible refine (set_any _ _ g _ _ f6).mono ?_))
           rintro e w7 ⟨rfl, rfl⟩)
        | (go_at_call 18
           ((with_reducible refine (radd_any _ (8 * n) (8 * n) x1 _ _ r6 (by omega) (by omega) hx).mono ?_))
           rintro e w8 ⟨A8, c8, rfl, o8, b8⟩
           have r8 := Ov.rv o8)
        | (go_at_call 17
           ((with_reducible refine (rset_any _ _ _ _ _ _ r8).mono ?_))
           rintro e w9 ⟨rfl, rfl⟩
           have t9 := E2.out
           have t10 := eqNat t9)
        | fail)
    all_goals
      clear t9
      go_wp2_with fail
      go_ret
      exact ⟨rfl, below_step (below_step (below_step b.drew b5) b6) b8⟩
  · have hr' : x0 < 8 ∨ 65536 < x0 ∨ x0 % 8 ≠ 0 := by omega
    have HR := Lib.hid hr'
    clear hr hr'
    go_enter Try.func3, Try.ntmps3
    go_wp2_with fail
    refine (wakes04 _).mono ?_
    rintro e w1 ⟨rfl, b1⟩
    replace b := below_step b b1
    clear b1
    go_wp2_with fail
    refine (new_no x0 HR.out _).mono ?_
    rintro e w2 ⟨rfl, hq⟩
    subst hq
    go_wp2_with fail
    refine (right04_no x0 HR.out _).mono ?_
    rintro e w3 ⟨rfl, hq⟩
    subst hq
    go_wp2_with fail
    go_ret
    exact ⟨rfl, b⟩


set_option maxRecDepth 100000 in
theorem lifted_bloomSizes (os : Os) (started : os.Started) (H : Type) (enc : TypeId × Value → H) :
    ReturnsInHanded {} Try.checked os 3 .any (Rows.bloomSizesSpec.pre6 enc Try.prog Try.f3 Rows.bloomSizesRow.domain false) (Rows.bloomSizesSpec.post enc Try.prog Try.f3 false true false false) := by
  refine returnsInHanded_of_change_sized (C := Try.checked) own started (by kernel_rfl) Try.func3
    (ChangeSpec.witness6 (enc := enc) (C := Try.checked) false ⟨#[], #[.int .i64 0, .int .u64 0], []⟩ 8 (by kernel_rfl) (by kernel_rfl) (by kernel_rfl) (by kernel_rfl)) ?_
  intro W base args ds gs before hval0 hW hcnd hsz0 _
  have hval : ∀ (j : Nat) t v, Try.f3.params[j]? = some t → args[j]? = some v → Value.okWide Try.prog W .any base t v := hval0
  have hsz : (DataW.weightsEach Try.prog (Try.f3.params.toList ++ Rows.bloomSizesSpec.plain.varTypes Try.prog) (ds ++ gs)).all (· ≤ reachBytes) = true := hsz0
  have hW' := hW
  obtain ⟨p, q, hA0, hV, rfl, hfz, hnd⟩ := hW
  have hA : DataW.TrodAll enc Try.prog W 0 (fun _ => true) true Try.f3.params.toList args.toList ds p := hA0
  rw [Try.params3] at hA hval hsz
  obtain ⟨v0, vs0, d0, ds0, p0, q0, hargs, rfl, rfl, h0, t0⟩ := trodAll_cons hA
  obtain ⟨v1, vs1, d1, ds1, p1, q1, rfl, rfl, rfl, h1, t1⟩ := trodAll_cons t0
  obtain ⟨rfl, rfl, rfl⟩ := trodAll_nil t1
  obtain rfl : args = #[v0, v1] := by cases args; simp_all
  obtain ⟨rfl, rfl⟩ := trodVars_none hV
  have k0 := h0
  obtain ⟨x0, rfl, rfl, rfl, wf0⟩ := open_int Try.underlying3 (hval 0 3 v0 rfl rfl) h0
  have m0 := wf_int wf0
  have k1 := h1
  obtain ⟨z1, rfl, rfl, rfl, wf1⟩ := open_int Try.underlying22 (hval 1 22 v1 rfl rfl) h1
  obtain ⟨x1, rfl, m1⟩ := wf_nat (M := 18446744073709551615) wf1 rfl rfl
  clear hA0 hval0
  refine (walk_bloomSizes x0 x1 W m0 m1).mono fun e W' ⟨he, bel⟩ => ?_
  subst he
  exact ⟨_, rfl, _, _, _, [], _, [], hW', trodAll_mk1 (shut_bool Try.underlying4 _), (trodAll_cons_mk (Below.trod laidOut (by kernel_rfl) (of_decide_eq_true (by kernel_rfl)) k0 bel (trod_places k0)) (trodAll_cons_mk (Below.trod laidOut (by kernel_rfl) (of_decide_eq_true (by kernel_rfl)) k1 bel (trod_places k1)) trodAll_mk0)), rfl, bel.frame _, fun h => by cases h⟩

theorem over_bloomSizes : Rows.bloomSizesRow.holds Try.pinned (OpenSpec.ofChange Rows.bloomSizesSpec) :=
  OpenClaim.holds_of_wide 3 Try.f3 rfl rfl rfl rfl rfl rfl rfl ⟨rfl, rfl, rfl, rfl, rfl⟩ rfl rfl rfl rfl rfl (by kernel_rfl) Try.func3 (by kernel_rfl)
    (of_decide_eq_true (by kernel_rfl)) (by unfold Func.isWrapper; first | (rw [if_pos (by decide +kernel)]; kernel_rfl) | (rw [if_neg (by decide +kernel)]; exact ⟨rfl, rfl⟩))
    (fun os started H enc _ => lifted_bloomSizes os started H enc)

/-- The statement. -/
theorem bloomSizes_holds : Rows.BloomSizesSaid := over_bloomSizes
#print axioms bloomSizes_holds

end Go.Proofs.Ytbncjacbggngiaa

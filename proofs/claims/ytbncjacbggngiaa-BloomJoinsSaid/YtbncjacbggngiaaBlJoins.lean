/- BloomJoins: two filters of one size are joined, bit by bit, others are not. Conditions: none. -/
import Derived.Test.YtbncjacbggngiaaBlDoes
import Derived.Deep.DeepCutAuto
namespace Go.Proofs.Ytbncjacbggngiaa
set_option linter.unusedVariables false
open Go.ChangeShapes Go.WideShapes Go.ChangeAt Go.RowKit

theorem mkB_run (W : World) (m : Nat) (hm : m ≤ 8192) :
    ∃ W', (Instr.makeSlice 33 (.int .i64 (8 * (m : Int))) (.int .i64 (8 * (m : Int)))).run Try.prog W = .ok (.slice (some ⟨W.heap.size, 0, none⟩) (8 * m) (8 * m)) W' ∧
      Ov W' W.heap.size 4 (some ⟨W.heap.size, 0, none⟩) (8 * m) (8 * m) (bls (bitsL (List.replicate m 0))) ∧ Below W.heap.size W W' := by
  obtain ⟨i0, hi0, hz0, hz1, hz2⟩ := info_parts boolinfo
  obtain ⟨w6, hmk, o6, g6⟩ := run_make_full (P := Try.prog) W W.heap.size 33 4 i0 _ 1 Try.underlying33 hi0 hz0 hz1 .i64 .i64 (8 * m) (by rw [hz2]; omega) (by unfold maxLen; omega) (Nat.le_refl _)
  rw [show ((8 * m : Nat) : Int) = 8 * (m : Int) from by omega] at hmk
  have e : (madeCells (Value.bool false).cells (8 * m * 1)).toList = bls (List.replicate (8 * m) false) := by
    apply List.ext_getElem
    · simp [madeCells, bls]
    · intro i h3 h4
      simp [madeCells, bls, Value.cells, Nat.mod_one]
  rw [e, ← bitsL_zero] at o6
  exact ⟨w6, hmk, o6, below_of_grown0 g6 (Nat.le_refl _)⟩
theorem Flt.range {w : World} {B C g : Nat} {l : List UInt8} (h : Flt w B C g l) : B ≤ C := by
  obtain ⟨k, n, c, h⟩ := h; have := h.2.2.2.1; have := h.2.2.2.2.1; omega
theorem mod2t {j : Nat} (h : j % 2 = 0) : ((j : Int) % 2 == 0) = true := by rw [beq_iff_eq]; omega
theorem mod2f {j : Nat} (h : j % 2 ≠ 0) : ((j : Int) % 2 == 0) = false := by rw [beq_eq_false_iff_ne]; omega
set_option maxHeartbeats 4000000 in
theorem walk_bloomJoins (x0 x1 : Int) (A1 : Option Addr) (n1 c1 : Nat) (l1 : List Nat) (w : World) (m0 : -9223372036854775808 ≤ x0 ∧ x0 ≤ 9223372036854775807) (m1 : -9223372036854775808 ≤ x1 ∧ x1 ≤ 9223372036854775807)
    (r1 : Rv w w.heap.size A1 n1 c1 (cus .u64 l1) ∧ ∀ x ∈ l1, (x : Int) ≤ 18446744073709551615) (s1 : c1 * 8 ≤ 140737488351232) :
    Calls Try.prog 6 #[.int .i64 x0, .int .i64 x1, .slice A1 n1 c1] w fun e w' => e = .returned (.bool true) ∧ Below w.heap.size w w' := by
  obtain ⟨r1, hbd⟩ := r1
  have b := Below.refl w.heap.size w
  have hsz := szN_bd x0
  have hszm := szN_bd x1
  have rp := Rv.pre r1 (Nat.min_le_left n1 100)
  rw [cus_take] at rp
  have hLl : (l1.take (min n1 100)).length = min n1 100 := by have := rp.len; rwa [cus_length] at this
  have hLb : ∀ x ∈ l1.take (min n1 100), x < 18446744073709551616 := fun x hx => by have := hbd x (List.mem_of_mem_take hx); omega
  have hcap := r1.cap
  have hmax := r1.max
  have hm100 : min n1 100 ≤ 100 := Nat.min_le_right _ _
  have FEW1 := Lib.hid (fun W => few_any A1 n1 c1 W hcap hmax)
  have SZ0 := Lib.hid (fun W => size_any x0 W m0)
  have SZ1 := Lib.hid (fun W => size_any x1 W m1)
  generalize szN x0 = N at hsz SZ0
  generalize szN x1 = M at hszm SZ1
  clear r1 hbd hcap hmax s1
  generalize l1.take (min n1 100) = L at rp hLl hLb
  generalize min n1 100 = n at rp hLl hm100 FEW1
  subst hLl
  have HLB := Lib.hid hLb
  clear hLb
  go_enter Try.func6, Try.ntmps6
  go_wp2_with fail
  refine (wakes04 _).mono ?_
  rintro e w1 ⟨rfl, b1⟩
  replace b := below_step b b1
  clear b1
  go_wp2_with fail
  refine (SZ0.out _).mono ?_
  rintro e w2 ⟨rfl, rfl⟩
  go_wp2_with fail
  refine (new_ok N hsz.1 (by omega) _ rfl _).mono ?_
  rintro e w2 ⟨gf, rfl, ff, b2⟩
  have hs1 := b.size
  replace b := below_step b b2
  clear b2
  go_wp2_with fail
  refine (SZ1.out _).mono ?_
  rintro e w3 ⟨rfl, rfl⟩
  go_wp2_with fail
  refine (new_ok M hszm.1 (by omega) _ rfl _).mono ?_
  rintro e w3 ⟨gg, rfl, fg, b3⟩
  have hs2 := b.size
  replace ff := ff.step b3
  replace b := below_step b b3
  clear b3
  generalize hB1 : w1.heap.size = B1 at ff hs1
  generalize hB2 : w2.heap.size = B2 at ff fg hs2
  clear hB1 hB2
  have hN2 : N ≤ 8192 := by omega
  have hM2 : M ≤ 8192 := by omega
  go_upto_region 7 with fail
  go_cut [11, 12] (fun a c wx => ∃ (Aa : Option Addr) (ca : Nat) (Ab : Option Addr) (cb : Nat), a = .slice Aa (8 * N) ca ∧ c = .slice Ab (8 * M) cb ∧ Ov wx w3.heap.size 4 Aa (8 * N) ca (bls (bitsL (List.replicate N 0))) ∧ Ov wx w3.heap.size 4 Ab (8 * M) cb (bls (bitsL (List.replicate M 0))) ∧ Below w3.heap.size w3 wx)
  case first =>
    obtain ⟨WA, eA, oA, bA⟩ := mkB_run w3.drew N hN2
    obtain ⟨WB, eB, oB, bB⟩ := mkB_run w3.drew M hM2
    obtain ⟨WAB, eAB, oAB, bAB⟩ := mkB_run WA M hM2
    obtain ⟨WBA, eBA, oBA, bBA⟩ := mkB_run WB N hN2
    set_option maxRecDepth 20000 in
    go_region_held3 (fun _ => True) (trivial)
      (first
        | (go_at_call 19
           ((with_reducible refine (SZ0.out _).mono ?_))
           rintro e w7 ⟨rfl, rfl⟩)
        | (go_at_call 19
           ((with_reducible refine (SZ1.out _).mono ?_))
           rintro e w7 ⟨rfl, rfl⟩)
        | fail)
    all_goals
      go_wp2_with fail
      go_meet
      first
        | exact ⟨_, _, _, _, rfl, rfl, oA.step bAB, oAB.moreV bA.size, below_step (below_step (Below.refl _ w3).drew bA) bAB⟩
        | exact ⟨_, _, _, _, rfl, rfl, oBA.moreV bB.size, oB.step bBA, below_step (below_step (Below.refl _ w3).drew bB) bBA⟩
  case rest =>
    obtain ⟨Aa, ca, Ab, cb', rfl, rfl, oa, ob, bc⟩ := hcut
    have ff' := ff.step bc
    have fg' := fg.step bc
    have bb := below_step b bc
    generalize w3.heap.size = B3 at fg' oa ob
    clear ff fg b bc
    have hz : (List.replicate N (0 : UInt8)).length = N := List.length_replicate
    have HZ := Lib.hid hz
    have hzm : (List.replicate M (0 : UInt8)).length = M := List.length_replicate
    have HZM := Lib.hid hzm
    clear hz hzm
    go_wp2_with fail
    refine (FEW1.out _).mono ?_
    rintro e w4 ⟨rfl, rfl⟩
    go_wp2_with fail
    go_loopw [11, 12, 13, 14, 44] (fun s t y z i wr => ∃ (j : Nat) (Aa : Option Addr) (ca : Nat) (Ab : Option Addr) (cb : Nat) (lf lg : List UInt8), j ≤ L.length ∧ i = .int .i64 j ∧ s = .slice Aa (8 * N) ca ∧ t = .slice Ab (8 * M) cb ∧ lf.length = N ∧ lg.length = M ∧ Flt wr B1 B2 gf lf ∧ Flt wr B2 B3 gg lg ∧ Ov wr B3 4 Aa (8 * N) ca (bls (bitsL lf)) ∧ Ov wr B3 4 Ab (8 * M) cb (bls (bitsL lg)) ∧ Below w.heap.size w wr) (fun _ _ _ _ i _ => L.length - (intOf i).toNat)
    case atStart => exact ⟨0, _, _, _, _, List.replicate N 0, List.replicate M 0, Nat.zero_le _, rfl, rfl, rfl, HZ.out, HZM.out, ff', fg', oa, ob, bb⟩
    case round =>
      obtain ⟨j, Aa, ca, Ab, cb, lf, lg, hj, rfl, rfl, rfl, hlf, hlg, ff, fg, oa, ob, bj⟩ := hrel
      have HLF := Lib.hid hlf
      have HLG := Lib.hid hlg
      clear hlf hlg
      have hB23 : B2 ≤ B3 := fg.range
      by_cases hlt : j < L.length
      · obtain ⟨ad, u, rfl, -, hu, hc⟩ := (rp.below bj).some_ hlt
        obtain ⟨x, hx, rfl⟩ := cus_get hu
        have hxb := HLB.out x (List.mem_of_getElem? hx)
        clear hu hx
        by_cases h2 : j % 2 = 0
        · have t2 := mod2t h2
          clear h2
          go_wp2_with fail
          refine (add_any _ _ gf x _ _ ff hxb).mono ?_
          rintro e w9 ⟨rfl, ff9, n9⟩
          rw [HLF.out] at ff9
          have fg9 := fg.far n9 (Or.inr (Nat.le_refl _))
          have oa9 := oa.only n9 hB23
          have ob9 := ob.only n9 hB23
          have bb9 := bj.trans (n9.below hs1 bj.size)
          clear hc
          go_wp2_with fail
          refine (radd_any _ (8 * N) _ x _ _ (Ov.rv oa9) (by omega) (by omega) hxb).mono ?_
          rintro e w10 ⟨A10, c10, rfl, o10, b10⟩
          rw [setsBits (by omega) (by rw [HLF.out])] at o10
          have ff10 := ff9.step b10
          have fg10 := fg9.step b10
          have oa10 := o10.moreV fg9.top
          have ob10 := ob9.step b10
          have bb10 := below_step bb9 b10
          have hl10 : (setsB lf (prbs x (8 * N))).length = N := by rw [length_setsB, HLF.out]
          have HL10 := Lib.hid hl10
          clear hl10
          go_wp2_with fail
          go_roundw
          case rel => exact ⟨j + 1, A10, c10, Ab, cb, setsB lf (prbs x (8 * N)), lg, by omega, by go_num, rfl, rfl, HL10.out, HLG.out, ff10, fg10, oa10, ob10, bb10⟩
          case measure => simp [intOf]; omega
        · have t2 := mod2f h2
          clear h2
          go_wp2_with fail
          refine (add_any _ _ gg x _ _ fg hxb).mono ?_
          rintro e w9 ⟨rfl, fg9, n9⟩
          rw [HLG.out] at fg9
          have ff9 := ff.far n9 (Or.inl (Nat.le_refl _))
          have oa9 := oa.only n9 (Nat.le_refl _)
          have ob9 := ob.only n9 (Nat.le_refl _)
          have bb9 := bj.trans (n9.below hs2 bj.size)
          clear hc
          go_wp2_with fail
          refine (radd_any _ (8 * M) _ x _ _ (Ov.rv ob9) (by omega) (by omega) hxb).mono ?_
          rintro e w10 ⟨A10, c10, rfl, o10, b10⟩
          rw [setsBits (by omega) (by rw [HLG.out])] at o10
          have ff10 := ff9.step b10
          have fg10 := fg9.step b10
          have oa10 := oa9.step b10
          have ob10 := o10.moreV fg9.top
          have bb10 := below_step bb9 b10
          have hl10 : (setsB lg (prbs x (8 * M))).length = M := by rw [length_setsB, HLG.out]
          have HL10 := Lib.hid hl10
          clear hl10
          go_wp2_with fail
          go_roundw
          case rel => exact ⟨j + 1, Aa, ca, A10, c10, lf, setsB lg (prbs x (8 * M)), by omega, by go_num, rfl, rfl, HLF.out, HL10.out, ff10, fg10, oa10, ob10, bb10⟩
          case measure => simp [intOf]; omega
      · by_cases hNM : N = M
        · subst hNM
          have HOR := Lib.hid (bitsL_orBs lf lg (by rw [HLF.out, HLG.out]))
          have hLE : lf.length = lg.length := by rw [HLF.out, HLG.out]
          have JN := Lib.hid (join_any B1 B2 gf B2 B3 gg lf lg wr ff fg (Or.inl (Nat.le_refl _)) hLE)
          clear hLE
          go_wp2_with fail
          refine JN.out.mono ?_
          rintro e w5 ⟨rfl, f5, n5⟩
          have g5 := fg.far n5 (Or.inr (Nat.le_refl _))
          have oa5 := oa.only n5 hB23
          have ob5 := ob.only n5 hB23
          have b5 := bj.trans (n5.below hs1 bj.size)
          go_wp2_with fail
          refine (SZ0.out _).mono ?_
          rintro e w6 ⟨rfl, rfl⟩
          go_wp2_with fail
          refine (SZ1.out _).mono ?_
          rintro e w6 ⟨rfl, rfl⟩
          go_wp2_with fail
          refine (rjoin_any _ _ (8 * N) _ _ _ _ _ (Ov.rv oa5) (Ov.rv ob5) (by omega) (by omega)).mono ?_
          rintro e w6 ⟨A6, c6, rfl, o6, b6⟩
          rw [← HOR.out] at o6
          have f6 := f5.step b6
          have g6 := g5.step b6
          have bb6 := below_step b5 b6
          go_wp2_with fail
          refine (agree_any _ _ gf _ _ _ _ _ f6 (Ov.rv o6)).mono ?_
          rintro e w7 ⟨rfl, b7⟩
          have oa7 := (oa5.step b6).step b7
          have ob7 := (ob5.step b6).step b7
          have bb7 := below_step bb6 b7
          go_wp2_with fail
          refine (agree_any _ _ gg _ _ _ _ _ (g6.step b7) (Ov.rv ob7)).mono ?_
          rintro e w8 ⟨rfl, b8⟩
          have bb8 := below_step bb7 b8
          go_wp2_with fail
          refine (join_self _ _ gf _ _ ((f6.step b7).step b8)).mono ?_
          rintro e w9 ⟨rfl, f9, n9⟩
          have oa9 := (oa7.step b8).only n9 hB23
          have ob9 := (ob7.step b8).only n9 hB23
          have bb9 := bb8.trans (n9.below hs1 bb8.size)
          go_wp2_with fail
          refine (rjoin_any _ _ (8 * N) _ _ _ _ _ (Ov.rv oa9) (Ov.rv ob9) (by omega) (by omega)).mono ?_
          rintro e w10 ⟨A10, c10, rfl, o10, b10⟩
          rw [← HOR.out] at o10
          go_wp2_with fail
          refine (agree_any _ _ gf _ _ _ _ _ (f9.step b10) (Ov.rv o10)).mono ?_
          rintro e w11 ⟨rfl, b11⟩
          go_wp2_with fail
          go_ret
          exact ⟨rfl, below_step (below_step bb9 b10) b11⟩
        · have JN := Lib.hid (join_size B1 B2 gf B2 B3 gg lf lg wr ff fg (by rw [HLF.out, HLG.out]; exact hNM))
          have tn : (8 * (N : Int) != 8 * (M : Int)) = true := by rw [bne_iff_ne]; omega
          clear hNM
          go_wp2_with fail
          refine JN.out.mono ?_
          rintro e w5 ⟨rfl, hq⟩
          have bq := quiet_self hq
          clear hq
          have f5 := ff.step bq
          have g5 := fg.step bq
          have oa5 := oa.step bq
          have ob5 := ob.step bq
          have b5 := below_step bj bq
          go_wp2_with fail
          refine (SZ0.out _).mono ?_
          rintro e w6 ⟨rfl, rfl⟩
          go_wp2_with fail
          refine (SZ1.out _).mono ?_
          rintro e w6 ⟨rfl, rfl⟩
          go_wp2_with fail
          refine (agree_any _ _ gf _ _ _ _ _ f5 (Ov.rv oa5)).mono ?_
          rintro e w7 ⟨rfl, b7⟩
          go_wp2_with fail
          refine (agree_any _ _ gg _ _ _ _ _ (g5.step b7) (Ov.rv (ob5.step b7))).mono ?_
          rintro e w8 ⟨rfl, b8⟩
          go_wp2_with fail
          go_ret
          exact ⟨rfl, below_step (below_step b5 b7) b8⟩


set_option maxRecDepth 100000 in
theorem lifted_bloomJoins (os : Os) (started : os.Started) (H : Type) (enc : TypeId × Value → H) :
    ReturnsInHanded {} Try.checked os 6 .any (Rows.bloomJoinsSpec.pre6 enc Try.prog Try.f6 Rows.bloomJoinsRow.domain false) (Rows.bloomJoinsSpec.post enc Try.prog Try.f6 false true false false) := by
  refine returnsInHanded_of_change_sized (C := Try.checked) own started (by kernel_rfl) Try.func6
    (ChangeSpec.witness6 (enc := enc) (C := Try.checked) false ⟨#[], #[.int .i64 0, .int .i64 0, .slice none 0 0], []⟩ 8 (by kernel_rfl) (by kernel_rfl) (by kernel_rfl) (by kernel_rfl)) ?_
  intro W base args ds gs before hval0 hW hcnd hsz0 _
  have hval : ∀ (j : Nat) t v, Try.f6.params[j]? = some t → args[j]? = some v → Value.okWide Try.prog W .any base t v := hval0
  have hsz : (DataW.weightsEach Try.prog (Try.f6.params.toList ++ Rows.bloomJoinsSpec.plain.varTypes Try.prog) (ds ++ gs)).all (· ≤ reachBytes) = true := hsz0
  have hW' := hW
  obtain ⟨p, q, hA0, hV, rfl, hfz, hnd⟩ := hW
  have hA : DataW.TrodAll enc Try.prog W 0 (fun _ => true) true Try.f6.params.toList args.toList ds p := hA0
  rw [Try.params6] at hA hval hsz
  obtain ⟨v0, vs0, d0, ds0, p0, q0, hargs, rfl, rfl, h0, t0⟩ := trodAll_cons hA
  obtain ⟨v1, vs1, d1, ds1, p1, q1, rfl, rfl, rfl, h1, t1⟩ := trodAll_cons t0
  obtain ⟨v2, vs2, d2, ds2, p2, q2, rfl, rfl, rfl, h2, t2⟩ := trodAll_cons t1
  obtain ⟨rfl, rfl, rfl⟩ := trodAll_nil t2
  obtain rfl : args = #[v0, v1, v2] := by cases args; simp_all
  obtain ⟨rfl, rfl⟩ := trodVars_none hV
  have k0 := h0
  obtain ⟨x0, rfl, rfl, rfl, wf0⟩ := open_int Try.underlying3 (hval 0 3 v0 rfl rfl) h0
  have m0 := wf_int wf0
  have k1 := h1
  obtain ⟨x1, rfl, rfl, rfl, wf1⟩ := open_int Try.underlying3 (hval 1 3 v1 rfl rfl) h1
  have m1 := wf_int wf1
  have k2 := h2
  obtain ⟨A2, n2, c2, l2, rfl, r2, y2⟩ := open_u64s (hval 2 36 v2 rfl rfl) h2
  have s2 := y2 (weights_of hsz (j := 2) rfl rfl)
  clear hA0 hval0
  refine (walk_bloomJoins x0 x1 A2 n2 c2 l2 W m0 m1 r2 s2).mono fun e W' ⟨he, bel⟩ => ?_
  subst he
  exact ⟨_, rfl, _, _, _, [], _, [], hW', trodAll_mk1 (shut_bool Try.underlying4 _), (trodAll_cons_mk (Below.trod laidOut (by kernel_rfl) (of_decide_eq_true (by kernel_rfl)) k0 bel (trod_places k0)) (trodAll_cons_mk (Below.trod laidOut (by kernel_rfl) (of_decide_eq_true (by kernel_rfl)) k1 bel (trod_places k1)) (trodAll_cons_mk (Below.trod laidOut (by kernel_rfl) (of_decide_eq_true (by kernel_rfl)) k2 bel (trod_places k2)) trodAll_mk0))), rfl, bel.frame _, fun h => by cases h⟩

theorem over_bloomJoins : Rows.bloomJoinsRow.holds Try.pinned (OpenSpec.ofChange Rows.bloomJoinsSpec) :=
  OpenClaim.holds_of_wide 6 Try.f6 rfl rfl rfl rfl rfl rfl rfl ⟨rfl, rfl, rfl, rfl, rfl⟩ rfl rfl rfl rfl rfl (by kernel_rfl) Try.func6 (by kernel_rfl)
    (of_decide_eq_true (by kernel_rfl)) (by unfold Func.isWrapper; first | (rw [if_pos (by decide +kernel)]; kernel_rfl) | (rw [if_neg (by decide +kernel)]; exact ⟨rfl, rfl⟩))
    (fun os started H enc _ => lifted_bloomJoins os started H enc)

/-- The statement. -/
theorem bloomJoins_holds : Rows.BloomJoinsSaid := over_bloomJoins
#print axioms bloomJoins_holds

end Go.Proofs.Ytbncjacbggngiaa

/- BloomDoes: a filter says yes and no as the document says, hash by hash. Conditions: none. -/
import Derived.Test.YtbncjacbggngiaaBlg
import Derived.Test.YtbncjacbggngiaaBlu
namespace Go.Proofs.Ytbncjacbggngiaa
set_option linter.unusedVariables false
open Go.ChangeShapes Go.WideShapes Go.ChangeAt Go.RowKit

theorem Ov.only {w w' : World} {B B1 B2 n c : Nat} {e : TypeId} {A : Option Addr} {xs : List Value} (h : Ov w B e A n c xs) (ho : OnlyIn w w' B1 B2) (hd : B2 ≤ B) : Ov w' B e A n c xs := by
  refine ⟨h.1, ?_⟩
  rcases h.2 with h' | ⟨g, cap, cur, hv, hg, hh, r⟩
  · exact Or.inl h'
  · exact Or.inr ⟨g, cap, cur, hv, hg, (ho.2.2.2.2 g (Array.getElem?_eq_some_iff.1 hh).1 (by omega)).trans hh, r⟩
theorem Ov.moreV {w : World} {B B' n c : Nat} {e : TypeId} {A : Option Addr} {xs : List Value} (h : Ov w B e A n c xs) (hB : B' ≤ B) : Ov w B' e A n c xs := Ov.more h hB
theorem Flt.top {w : World} {B C g : Nat} {l : List UInt8} (h : Flt w B C g l) : C ≤ w.heap.size := by
  obtain ⟨k, n, c, h⟩ := h; exact h.2.2.2.2.2.2.1
theorem mod17t {j : Nat} (h : j % 17 = 16) : ((j : Int) % 17 == 16) = true := by rw [beq_iff_eq]; omega
theorem mod17f {j : Nat} (h : j % 17 ≠ 16) : ((j : Int) % 17 == 16) = false := by rw [beq_eq_false_iff_ne]; omega
theorem setsBits {l : List UInt8} {M h : Nat} (hM : 0 < M) (hl : 8 * l.length = M) : setsL (bitsL l) (prbs h M) = bitsL (setsB l (prbs h M)) :=
  (bitsL_setsB _ _ fun p hp => by have := prbs_lt hM hp; omega).symm
set_option maxHeartbeats 4000000 in
theorem walk_bloomDoes (x0 : Int) (A1 : Option Addr) (n1 c1 : Nat) (l1 : List Nat) (A2 : Option Addr) (n2 c2 : Nat) (l2 : List Nat) (w : World) (m0 : -9223372036854775808 ≤ x0 ∧ x0 ≤ 9223372036854775807)
    (r1 : Rv w w.heap.size A1 n1 c1 (cus .u64 l1) ∧ ∀ x ∈ l1, (x : Int) ≤ 18446744073709551615) (s1 : c1 * 8 ≤ 140737488351232)
    (r2 : Rv w w.heap.size A2 n2 c2 (cus .u64 l2) ∧ ∀ x ∈ l2, (x : Int) ≤ 18446744073709551615) (s2 : c2 * 8 ≤ 140737488351232) :
    Calls Try.prog 5 #[.int .i64 x0, .slice A1 n1 c1, .slice A2 n2 c2] w fun e w' => e = .returned (.bool true) ∧ Below w.heap.size w w' := by
  obtain ⟨r1, hbd⟩ := r1
  obtain ⟨r2, hbd2⟩ := r2
  have b := Below.refl w.heap.size w
  have hsz := szN_bd x0
  have rp := Rv.pre r1 (Nat.min_le_left n1 100)
  rw [cus_take] at rp
  have rq := Rv.pre r2 (Nat.min_le_left n2 100)
  rw [cus_take] at rq
  have hLl : (l1.take (min n1 100)).length = min n1 100 := by have := rp.len; rwa [cus_length] at this
  have hKl : (l2.take (min n2 100)).length = min n2 100 := by have := rq.len; rwa [cus_length] at this
  have hLb : ∀ x ∈ l1.take (min n1 100), x < 18446744073709551616 := fun x hx => by have := hbd x (List.mem_of_mem_take hx); omega
  have hKb : ∀ x ∈ l2.take (min n2 100), x < 18446744073709551616 := fun x hx => by have := hbd2 x (List.mem_of_mem_take hx); omega
  have hcap := r1.cap
  have hmax := r1.max
  have hcap2 := r2.cap
  have hmax2 := r2.max
  have hm100 : min n1 100 ≤ 100 := Nat.min_le_right _ _
  have hk100 : min n2 100 ≤ 100 := Nat.min_le_right _ _
  have FEW1 := Lib.hid (fun W => few_any A1 n1 c1 W hcap hmax)
  have FEW2 := Lib.hid (fun W => few_any A2 n2 c2 W hcap2 hmax2)
  generalize hN : szN x0 = N at hsz
  have HN := Lib.hid hN
  clear hN r1 r2 hbd hbd2 hcap hmax hcap2 hmax2 s1 s2
  generalize l1.take (min n1 100) = L at rp hLl hLb
  generalize min n1 100 = n at rp hLl hm100 FEW1
  generalize l2.take (min n2 100) = K at rq hKl hKb
  generalize min n2 100 = k at rq hKl hk100 FEW2
  subst hLl
  subst hKl
  have HLB := Lib.hid hLb
  have HKB := Lib.hid hKb
  clear hLb hKb
  go_enter Try.func5, Try.ntmps5
  go_wp2_with fail
  refine (wakes04 _).mono ?_
  rintro e w1 ⟨rfl, b1⟩
  replace b := below_step b b1
  clear b1
  go_wp2_with fail
  refine (size_any x0 _ m0).mono ?_
  rintro e w2 ⟨rfl, rfl⟩
  rw [HN.out]
  go_wp2_with fail
  refine (new_ok N hsz.1 (by omega) _ rfl _).mono ?_
  rintro e w2 ⟨gf, rfl, ff, b2⟩
  have hs1 := b.size
  replace b := below_step b b2
  clear b2
  go_wp2_with fail
  refine (size_any x0 _ m0).mono ?_
  rintro e w3 ⟨rfl, rfl⟩
  rw [HN.out]
  go_wp2_with (at_make; refine wpList_mkB _ rfl _ _ rfl w2.heap.size (8 * N) (by go_num) (by go_num) (by omega) (Nat.le_refl _) ?_)
  intro w3 o3 b3
  replace ff := ff.step b3
  replace b := below_step b b3
  rw [← bitsL_zero] at o3
  generalize hB1 : w1.heap.size = B1 at ff hs1
  generalize hB2 : w2.heap.size = B2 at ff o3
  clear hB1 b3
  have hz : (List.replicate N (0 : UInt8)).length = N := List.length_replicate
  have HZ := Lib.hid hz
  clear hz
  clear hB2
  go_wp2_with fail
  refine (FEW1.out _).mono ?_
  rintro e w4 ⟨rfl, rfl⟩
  go_wp2_with fail
  go_loopw [9, 10, 11, 34] (fun s y z i wr => ∃ (j : Nat) (A : Option Addr) (c : Nat) (lf : List UInt8), j ≤ L.length ∧ i = .int .i64 j ∧ s = .slice A (8 * N) c ∧ lf.length = N ∧ Flt wr B1 B2 gf lf ∧ Ov wr B2 4 A (8 * N) c (bls (bitsL lf)) ∧ Below w.heap.size w wr) (fun _ _ _ i _ => L.length - (intOf i).toNat)
  case atStart => exact ⟨0, _, _, List.replicate N 0, Nat.zero_le _, rfl, rfl, HZ.out, ff, o3, b⟩
  case round =>
    obtain ⟨j, A, c, lf, hj, rfl, rfl, hlf, ff, ol, bj⟩ := hrel
    have HLF := Lib.hid hlf
    clear hlf
    by_cases hlt : j < L.length
    · obtain ⟨ad, u, rfl, -, hu, hc⟩ := (rp.below bj).some_ hlt
      obtain ⟨x, hx, rfl⟩ := cus_get hu
      have hxb := HLB.out x (List.mem_of_getElem? hx)
      clear hu hx
      by_cases h17 : j % 17 = 16
      · have t17 := mod17t h17
        clear h17
        go_wp2_with fail
        refine (size_any x0 _ m0).mono ?_
        rintro e w5 ⟨rfl, rfl⟩
        rw [HN.out]
        go_wp2_with (at_make; refine wpList_mkB _ rfl _ _ rfl wr.heap.size (8 * N) (by go_num) (by go_num) (by omega) (Nat.le_refl _) ?_)
        intro w5 o5 b5
        have ff5 := ff.step b5
        have bb5 := below_step bj b5
        clear hc
        go_wp2_with fail
        refine (clear_any _ _ gf _ _ ff5).mono ?_
        rintro e w6 ⟨rfl, ff6, n6⟩
        rw [HLF.out] at ff6
        have ol6 := (o5.moreV ff.top).only n6 (Nat.le_refl _)
        rw [← bitsL_zero] at ol6
        have bb6 := bb5.trans (n6.below hs1 bb5.size)
        go_wp2_with fail
        refine (may_any _ _ gf x _ _ ff6 hxb).mono ?_
        rintro e w7 ⟨rfl, b7⟩
        rw [HZ.out]
        have ff7 := ff6.step b7
        have ol7 := ol6.step b7
        have bb7 := below_step bb6 b7
        go_wp2_with fail
        refine (rmay_any _ (8 * N) _ x _ _ (Ov.rv ol7) (by omega) (by omega) hxb).mono ?_
        rintro e w8 ⟨rfl, b8⟩
        have ff8 := ff7.step b8
        have ol8 := ol7.step b8
        have bb8 := below_step bb7 b8
        generalize allL (bitsL (List.replicate N 0)) (prbs x (8 * N)) = bb
        cases bb
        all_goals
          go_wp2_with fail
          refine (add_any _ _ gf x _ _ ff8 hxb).mono ?_
          rintro e w9 ⟨rfl, ff9, n9⟩
          rw [HZ.out] at ff9
          have ol9 := ol8.only n9 (Nat.le_refl _)
          have bb9 := bb8.trans (n9.below hs1 bb8.size)
          go_wp2_with fail
          refine (radd_any _ (8 * N) _ x _ _ (Ov.rv ol9) (by omega) (by omega) hxb).mono ?_
          rintro e w10 ⟨A10, c10, rfl, o10, b10⟩
          rw [setsBits (by omega) (by rw [HZ.out])] at o10
          have ff10 := ff9.step b10
          have ol10 := o10.moreV ff9.top
          have bb10 := below_step bb9 b10
          have hl10 : (setsB (List.replicate N 0) (prbs x (8 * N))).length = N := by rw [length_setsB, HZ.out]
          have HL10 := Lib.hid hl10
          clear hl10
          go_wp2_with fail
          go_roundw
          case rel => exact ⟨j + 1, A10, c10, setsB (List.replicate N 0) (prbs x (8 * N)), by omega, by go_num, rfl, HL10.out, ff10, ol10, bb10⟩
          case measure => simp [intOf]; omega
      · have t17 := mod17f h17
        clear h17
        go_wp2_with fail
        refine (may_any _ _ gf x _ _ ff hxb).mono ?_
        rintro e w7 ⟨rfl, b7⟩
        rw [HLF.out]
        have ff7 := ff.step b7
        have ol7 := ol.step b7
        have bb7 := below_step bj b7
        go_wp2_with fail
        refine (rmay_any _ (8 * N) _ x _ _ (Ov.rv ol7) (by omega) (by omega) hxb).mono ?_
        rintro e w8 ⟨rfl, b8⟩
        have ff8 := ff7.step b8
        have ol8 := ol7.step b8
        have bb8 := below_step bb7 b8
        generalize allL (bitsL lf) (prbs x (8 * N)) = bb
        cases bb
        all_goals
          go_wp2_with fail
          refine (add_any _ _ gf x _ _ ff8 hxb).mono ?_
          rintro e w9 ⟨rfl, ff9, n9⟩
          rw [HLF.out] at ff9
          have ol9 := ol8.only n9 (Nat.le_refl _)
          have bb9 := bb8.trans (n9.below hs1 bb8.size)
          go_wp2_with fail
          refine (radd_any _ (8 * N) _ x _ _ (Ov.rv ol9) (by omega) (by omega) hxb).mono ?_
          rintro e w10 ⟨A10, c10, rfl, o10, b10⟩
          rw [setsBits (by omega) (by rw [HLF.out])] at o10
          have ff10 := ff9.step b10
          have ol10 := o10.moreV ff9.top
          have bb10 := below_step bb9 b10
          have hl10 : (setsB lf (prbs x (8 * N))).length = N := by rw [length_setsB, HLF.out]
          have HL10 := Lib.hid hl10
          clear hl10
          go_wp2_with fail
          go_roundw
          case rel => exact ⟨j + 1, A10, c10, setsB lf (prbs x (8 * N)), by omega, by go_num, rfl, HL10.out, ff10, ol10, bb10⟩
          case measure => simp [intOf]; omega
    · go_wp2_with fail
      refine (FEW2.out _).mono ?_
      rintro e w5 ⟨rfl, rfl⟩
      clear rp FEW1 FEW2
      obtain ⟨wo, rfl⟩ : ∃ wo : World, wo = wr := ⟨_, rfl⟩
      go_wp2_with fail
      go_loopw [13, 68] (fun z i wr => ∃ j : Nat, j ≤ K.length ∧ i = .int .i64 j ∧ Below wo.heap.size wo wr) (fun _ i _ => K.length - (intOf i).toNat)
      case atStart => exact ⟨0, Nat.zero_le _, rfl, Below.refl _ _⟩
      case round =>
        obtain ⟨i, hi, rfl, bi⟩ := hrel
        have fi := ff.step bi
        have oi := ol.step bi
        by_cases hlt2 : i < K.length
        · obtain ⟨ad, u, rfl, -, hu, hc⟩ := (rq.below (below_step bj bi)).some_ hlt2
          obtain ⟨x, hx, rfl⟩ := cus_get hu
          have hxb := HKB.out x (List.mem_of_getElem? hx)
          clear hu hx
          go_wp2_with fail
          refine (may_any _ _ gf x _ _ fi hxb).mono ?_
          rintro e w7 ⟨rfl, b7⟩
          rw [HLF.out]
          have ol7 := oi.step b7
          have bb7 := below_step bi b7
          go_wp2_with fail
          refine (rmay_any _ (8 * N) _ x _ _ (Ov.rv ol7) (by omega) (by omega) hxb).mono ?_
          rintro e w8 ⟨rfl, b8⟩
          have bb8 := below_step bb7 b8
          generalize allL (bitsL lf) (prbs x (8 * N)) = bb
          cases bb
          all_goals
            go_wp2_with fail
            go_roundw
            case rel => exact ⟨i + 1, by omega, by go_num, bb8⟩
            case measure => simp [intOf]; omega
        · go_wp2_with fail
          refine (agree_any _ _ gf lf _ _ _ _ fi (Ov.rv oi)).mono ?_
          rintro e w9 ⟨rfl, b9⟩
          go_wp2_with fail
          go_ret
          exact ⟨rfl, below_step (below_step bj bi) b9⟩


set_option maxRecDepth 100000 in
theorem lifted_bloomDoes (os : Os) (started : os.Started) (H : Type) (enc : TypeId × Value → H) :
    ReturnsInHanded {} Try.checked os 5 .any (Rows.bloomDoesSpec.pre6 enc Try.prog Try.f5 Rows.bloomDoesRow.domain false) (Rows.bloomDoesSpec.post enc Try.prog Try.f5 false true false false) := by
  refine returnsInHanded_of_change_sized (C := Try.checked) own started (by kernel_rfl) Try.func5
    (ChangeSpec.witness6 (enc := enc) (C := Try.checked) false ⟨#[], #[.int .i64 0, .slice none 0 0, .slice none 0 0], []⟩ 8 (by kernel_rfl) (by kernel_rfl) (by kernel_rfl) (by kernel_rfl)) ?_
  intro W base args ds gs before hval0 hW hcnd hsz0 _
  have hval : ∀ (j : Nat) t v, Try.f5.params[j]? = some t → args[j]? = some v → Value.okWide Try.prog W .any base t v := hval0
  have hsz : (DataW.weightsEach Try.prog (Try.f5.params.toList ++ Rows.bloomDoesSpec.plain.varTypes Try.prog) (ds ++ gs)).all (· ≤ reachBytes) = true := hsz0
  have hW' := hW
  obtain ⟨p, q, hA0, hV, rfl, hfz, hnd⟩ := hW
  have hA : DataW.TrodAll enc Try.prog W 0 (fun _ => true) true Try.f5.params.toList args.toList ds p := hA0
  rw [Try.params5] at hA hval hsz
  obtain ⟨v0, vs0, d0, ds0, p0, q0, hargs, rfl, rfl, h0, t0⟩ := trodAll_cons hA
  obtain ⟨v1, vs1, d1, ds1, p1, q1, rfl, rfl, rfl, h1, t1⟩ := trodAll_cons t0
  obtain ⟨v2, vs2, d2, ds2, p2, q2, rfl, rfl, rfl, h2, t2⟩ := trodAll_cons t1
  obtain ⟨rfl, rfl, rfl⟩ := trodAll_nil t2
  obtain rfl : args = #[v0, v1, v2] := by cases args; simp_all
  obtain ⟨rfl, rfl⟩ := trodVars_none hV
  have k0 := h0
  obtain ⟨x0, rfl, rfl, rfl, wf0⟩ := open_int Try.underlying3 (hval 0 3 v0 rfl rfl) h0
  have m0 := wf_int wf0
  have k1 := h1
  obtain ⟨A1, n1, c1, l1, rfl, r1, y1⟩ := open_u64s (hval 1 36 v1 rfl rfl) h1
  have s1 := y1 (weights_of hsz (j := 1) rfl rfl)
  have k2 := h2
  obtain ⟨A2, n2, c2, l2, rfl, r2, y2⟩ := open_u64s (hval 2 36 v2 rfl rfl) h2
  have s2 := y2 (weights_of hsz (j := 2) rfl rfl)
  clear hA0 hval0
  refine (walk_bloomDoes x0 A1 n1 c1 l1 A2 n2 c2 l2 W m0 r1 s1 r2 s2).mono fun e W' ⟨he, bel⟩ => ?_
  subst he
  exact ⟨_, rfl, _, _, _, [], _, [], hW', trodAll_mk1 (shut_bool Try.underlying4 _), (trodAll_cons_mk (Below.trod laidOut (by kernel_rfl) (of_decide_eq_true (by kernel_rfl)) k0 bel (trod_places k0)) (trodAll_cons_mk (Below.trod laidOut (by kernel_rfl) (of_decide_eq_true (by kernel_rfl)) k1 bel (trod_places k1)) (trodAll_cons_mk (Below.trod laidOut (by kernel_rfl) (of_decide_eq_true (by kernel_rfl)) k2 bel (trod_places k2)) trodAll_mk0))), rfl, bel.frame _, fun h => by cases h⟩

theorem over_bloomDoes : Rows.bloomDoesRow.holds Try.pinned (OpenSpec.ofChange Rows.bloomDoesSpec) :=
  OpenClaim.holds_of_wide 5 Try.f5 rfl rfl rfl rfl rfl rfl rfl ⟨rfl, rfl, rfl, rfl, rfl⟩ rfl rfl rfl rfl rfl (by kernel_rfl) Try.func5 (by kernel_rfl)
    (of_decide_eq_true (by kernel_rfl)) (by unfold Func.isWrapper; first | (rw [if_pos (by decide +kernel)]; kernel_rfl) | (rw [if_neg (by decide +kernel)]; exact ⟨rfl, rfl⟩))
    (fun os started H enc _ => lifted_bloomDoes os started H enc)

/-- The statement. -/
theorem bloomDoes_holds : Rows.BloomDoesSaid := over_bloomDoes
#print axioms bloomDoes_holds

end Go.Proofs.Ytbncjacbggngiaa

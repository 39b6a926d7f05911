/- SpaceHolds: whatever the counts, in whatever order: what is within the bound goes into three segments less than there are. Conditions: none. -/
import Derived.Test.YtbofnmlddpbfeaaSpaw
import Derived.Deep.DeepCutAuto
namespace Go.Proofs.Ytbofnmlddpbfeaa
set_option linter.unusedVariables false
open Go.ChangeShapes Go.WideShapes Go.ChangeAt Go.RowKit

theorem intinfo : (Try.prog.info? 3).map (fun i => (i.zero, i.size, i.bytes)) = some (some (.int .i64 0), 1, 8) := by kernel_rfl
theorem intC_one (l : List Int) : ∀ u ∈ intC l, u.oneCell' = true := by
  intro u hu
  obtain ⟨_, _, rfl⟩ := List.mem_map.1 hu
  rfl
theorem wpList_appI (w : World) {ops : Array Oper} {rest : List Oper} {o : Oper} {a : Act} {Q : Exit → Act → World → Prop}
    (hg : Region.wanted o (yielded ops a.tmps) = true) (s x : Operand) (hop : o.op = Op.call { callee := Callee.builtin Builtin.append, args := #[s, x], argTypes := #[35, 35] })
    (B : Nat) (A : Option Addr) (n c : Nat) (l : List Int) (hs : a.eval s = .slice A n c) (hown : Ov w B 3 A n c (intC l))
    (B2 : Nat) (A2 : Option Addr) (m c2 : Nat) (l2 : List Int) (hx : a.eval x = .slice A2 m c2) (hr : Rv w B2 A2 m c2 (intC l2))
    (hbytes : (n + m) * 8 ≤ 140737488355328) (hbase : B ≤ w.heap.size)
    (hK : ∀ A' c' w', Ov w' B 3 A' (n + m) c' (intC (l ++ l2)) → Below B w w' → wpList Try.prog ops Q rest (a.put o.dst (.slice A' (n + m) c')) w') :
    wpList Try.prog ops Q (o :: rest) a w := by
  obtain ⟨i0, hi0, hz0, hz1, hz2⟩ := info_parts intinfo
  refine wpList_app w hg s x _ hop B 3 i0 _ 8 Try.underlying35 hi0 hz0 hz1 hz2 rfl A n c (intC l) hs hown B2 A2 m c2 (intC l2) hx hr (intC_one _) (fits_small hbytes) (by unfold maxLen; omega) hbase ?_
  intro A' c' w' h1 h2 _
  refine hK A' c' w' ?_ ?_
  · rw [show intC (l ++ l2) = intC l ++ intC l2 from by simp [intC]]
    exact h1
  · refine (Below.refl B w).grown h2 hbase fun k hk => ?_
    exact (World.ownsRow.lt hown k hk).1

def sumI (l : List Int) : Int := l.foldr (· + ·) 0
theorem sumI_cons (k : Int) (l : List Int) : sumI (k :: l) = k + sumI l := rfl
theorem sumI_snoc : ∀ (l : List Int) (k : Int), sumI (l ++ [k]) = sumI l + k
  | [], k => by simp [sumI]
  | x :: l, k => by rw [List.cons_append, sumI_cons, sumI_cons, sumI_snoc l k]; omega
theorem pack_le (S : Int) : ∀ (l : List Int) (n left : Int), (∀ k ∈ l, 1 ≤ k ∧ k ≤ 17) → 24 ≤ S → left ≤ S - 2 →
    (packB S l n left - 1) * (S - 17) + 1 ≤ (n - 1) * (S - 17) + (S - 1 - left) + sumI l
  | [], n, left, _, _, h => by unfold packB sumI; simp; omega
  | k :: l, n, left, hl, hS, h => by
    have hk := hl k (List.mem_cons_self ..)
    have hl' : ∀ k ∈ l, 1 ≤ k ∧ k ≤ 17 := fun k hk => hl k (List.mem_cons_of_mem _ hk)
    rw [packB_cons, sumI_cons]
    split
    · have ih := pack_le S l (n + 1) (S - 1 - k) hl' hS (by omega)
      have e : (n + 1 - 1) * (S - 17) = (n - 1) * (S - 17) + (S - 17) := by
        rw [show n + 1 - 1 = (n - 1) + 1 from by omega, Int.add_mul, Int.one_mul]
      omega
    · have ih := pack_le S l n (left - k) hl' hS (by omega)
      omega
theorem pack_holds {S s : Int} {l : List Int} (hl : ∀ k ∈ l, 1 ≤ k ∧ k ≤ 17) (hS : 24 ≤ S) (hs : 4 ≤ s) (hsum : sumI l ≤ (s - 4) * (S - 17)) : packB S l 0 0 ≤ s - 3 := by
  cases l with
  | nil => unfold packB; omega
  | cons k l =>
    have hk := hl k (List.mem_cons_self ..)
    have hl' : ∀ k ∈ l, 1 ≤ k ∧ k ≤ 17 := fun k hk => hl k (List.mem_cons_of_mem _ hk)
    rw [sumI_cons] at hsum
    rw [packB_cons, if_pos (by omega)]
    have h := pack_le S l (0 + 1) (S - 1 - k) hl' hS (by omega)
    generalize packB S l (0 + 1) (S - 1 - k) = r at h ⊢
    have e : (0 + 1 - 1 : Int) * (S - 17) = 0 := by simp
    rw [e] at h
    have h2 : (r - 1) * (S - 17) + 1 ≤ (s - 4) * (S - 17) := by omega
    have h3 : r - 1 < s - 4 := by
      refine Int.lt_of_not_ge fun hge => ?_
      have := Int.mul_le_mul_of_nonneg_right hge (show 0 ≤ S - 17 by omega)
      omega
    omega

theorem rvI_one (w : World) (k : Int) : Rv (w.alloc (.cells #[.int .i64 k] 3)) (w.heap.size + 1) (some ⟨w.heap.size, 0, none⟩) 1 1 (intC [k]) := by
  have := Ov.rv (Ov.lit w #[.int .i64 k] 3 w.heap.size 1 (intC [k]) (Nat.le_refl _) (by simp [maxLen]) rfl rfl)
  exact this.more (by simp)
theorem all_snoc {l : List Int} {k : Int} {P : Int → Prop} (h : ∀ x ∈ l, P x) (hk : P k) : ∀ x ∈ l ++ [k], P x := by
  intro x hx
  rcases List.mem_append.1 hx with hx | hx
  · exact h x hx
  · rw [List.mem_singleton.1 hx]; exact hk

set_option maxHeartbeats 4000000 in
theorem walk_spaceHolds (x0 x1 : Int) (A2 : Option Addr) (n2 c2 : Nat) (l2 : List Int) (w : World) (m0 : -9223372036854775808 ≤ x0 ∧ x0 ≤ 9223372036854775807) (m1 : -9223372036854775808 ≤ x1 ∧ x1 ≤ 9223372036854775807)
    (r2 : Rv w w.heap.size A2 n2 c2 (l2.map (Value.int .i64)) ∧ ∀ z ∈ l2, (Lit.int .i64 z).wf = true) (s2 : c2 * 8 ≤ 140737488351232) :
    Calls Try.prog 4 #[.int .i64 x0, .int .i64 x1, .slice A2 n2 c2] w fun e w' => e = .returned (.bool true) ∧ Below w.heap.size w w' := by
  obtain ⟨r2, hz⟩ := r2
  obtain ⟨m0a, m0b⟩ := m0
  obtain ⟨m1a, m1b⟩ := m1
  have HZ := Lib.hid hz; clear hz
  have hcap := r2.cap
  have b := Below.refl w.heap.size w
  go_enter Try.func4, Try.ntmps4
  go_wp2_with fail
  refine (wakes25 _).mono ?_
  rintro e w1 ⟨rfl, b1⟩
  replace r2 := r2.step b1
  replace b := below_step b b1
  clear b1
  go_upto_region 3 with fail
  go_cut [7, 8] (fun a c wx => ∃ s n : Int, a = .int .i64 s ∧ c = .int .i64 n ∧ 4 ≤ s ∧ s ≤ 16 ∧ 24 ≤ n ∧ n ≤ 64 ∧ wx = w1)
  case first =>
    go_wp2_with fail
    all_goals (go_meet; exact ⟨_, _, rfl, rfl, by omega, by omega, by omega, by omega, rfl⟩)
  case rest =>
    obtain ⟨s, n, rfl, rfl, h1, h2, h3, h4, rfl⟩ := hcut
    have hs : sizedB s n = true := decide_eq_true ⟨h1, h2, h3, h4⟩
    obtain ⟨g5, g6⟩ := mul_bnd ⟨h1, h2, h3, h4⟩
    have HS := Lib.hid hs
    clear hs
    go_wp2_with fail
    refine (bound_any s n _).mono ?_
    rintro e w2 ⟨rfl, b2⟩
    replace r2 := r2.step b2
    replace b := below_step b b2
    clear b2
    rw [bndV_yes HS.out]
    generalize hbd : (s - 4) * (n - 17) = bd at g5 g6 ⊢
    have HB := Lib.hid hbd
    clear hbd
    go_wp2_with fail
    go_loopw [11, 12, 14, 35] (fun kp sm kk i wr => ∃ (j m : Nat) (A : Option Addr) (c : Nat) (l : List Int), j ≤ n2 ∧ i = .int .i64 j ∧ kp = .slice A m c ∧ sm = .int .i64 (sumI l) ∧ 0 ≤ sumI l ∧ sumI l ≤ bd ∧ (m : Int) ≤ sumI l ∧ (∀ k ∈ l, 1 ≤ k ∧ k ≤ 17) ∧ Ov wr w2.heap.size 3 A m c (intC l) ∧ Below w2.heap.size w2 wr) (fun _ _ _ i _ => n2 - (intOf i).toNat)
    case atStart => exact ⟨0, 0, none, 0, [], Nat.zero_le _, rfl, rfl, rfl, by decide, g5, by decide, by simp, Ov.nil _ _ _, Below.refl _ _⟩
    case round =>
      obtain ⟨j, m, A, c, l, hj, rfl, rfl, rfl, hq1, hq2, hq3, hl, ho, hb⟩ := hrel
      have HL := Lib.hid hl; clear hl
      by_cases hlt : j < n2
      · obtain ⟨a1, u, rfl, -, hu, hc⟩ := (r2.below hb).some_ hlt
        rw [List.getElem?_map] at hu
        obtain ⟨x, hx, rfl⟩ := Option.map_eq_some_iff.1 hu
        have hxw := wf_int (HZ.out x (List.mem_of_getElem? hx))
        obtain ⟨hx1, hx2⟩ := hxw
        clear hu hx
        go_upto_region 12 with fail
        go_cut [14] (fun v wx => ∃ k : Int, v = .int .i64 k ∧ 1 ≤ k ∧ k ≤ 17 ∧ wx = wr)
        case first =>
          go_wp2_with fail
          all_goals (go_meet; exact ⟨_, rfl, by omega, by omega, rfl⟩)
        case rest =>
          obtain ⟨k, rfl, hk1, hk2, rfl⟩ := hcut
          by_cases hfit : sumI l + k ≤ bd
          · have hb4 := fun (o : Obj) => hb.alloc hb.size o
            go_wp2_with (at_builtin; refine wpList_appI _ rfl _ _ rfl w2.heap.size A m c l rfl (ho.alloc _) (wc.heap.size + 1) (some ⟨wc.heap.size, 0, none⟩) 1 1 [k] rfl (rvI_one wc k) (by omega) (by simp; have := hb.size; omega) ?_)
            intro A3 c3 w3 o3 b3
            have hb5 := (hb4 _).trans b3
            clear b3 hb4
            have HS3 := Lib.hid (sumI_snoc l k)
            go_wp2_with fail
            go_roundw
            case rel => exact ⟨j + 1, m + 1, A3, c3, l ++ [k], by omega, by go_num, rfl, by rw [HS3.out], by rw [HS3.out]; omega, by rw [HS3.out]; exact hfit, by rw [HS3.out]; omega, all_snoc HL.out ⟨hk1, hk2⟩, o3, hb5⟩
            case measure => simp [intOf]; omega
          · go_wp2_with fail
            go_roundw
            case rel => exact ⟨j + 1, m, A, c, l, by omega, by go_num, rfl, rfl, hq1, hq2, hq3, HL.out, ho, hb⟩
            case measure => simp [intOf]; omega
      · have HP := Lib.hid (pack_holds (S := n) (s := s) HL.out h3 h1 (by rw [HB.out]; exact hq2))
        replace b := below_step b hb
        go_wp2_with fail
        refine (pack_any A m c _ n l _ ho.rv ⟨by omega, h4⟩ (fun k hk => ⟨(HL.out k hk).1, by have := (HL.out k hk).2; omega⟩)).mono ?_
        rintro e w3 ⟨rfl, hq⟩
        subst hq
        generalize hpk : packB n l 0 0 = pk
        have HK := Lib.hid hpk
        clear hpk
        go_wp2_with fail
        go_ret
        exact ⟨ret_bool (decide_eq_true (by rw [← HK.out]; exact HP.out)), b⟩


set_option maxRecDepth 100000 in
theorem lifted_spaceHolds (os : Os) (started : os.Started) (H : Type) (enc : TypeId × Value → H) :
    ReturnsInHanded {} Try.checked os 4 .any (Rows.spaceHoldsSpec.pre6 enc Try.prog Try.f4 Rows.spaceHoldsRow.domain false) (Rows.spaceHoldsSpec.post enc Try.prog Try.f4 false true false false) := by
  refine returnsInHanded_of_change_sized (C := Try.checked) own started (by kernel_rfl) Try.func4
    (ChangeSpec.witness6 (enc := enc) (C := Try.checked) false ⟨#[], #[.int .i64 0, .int .i64 0, .slice none 0 0], []⟩ 8 (by kernel_rfl) (by kernel_rfl) (by kernel_rfl) (by kernel_rfl)) ?_
  intro W base args ds gs before hval0 hW hcnd hsz0 _
  have hval : ∀ (j : Nat) t v, Try.f4.params[j]? = some t → args[j]? = some v → Value.okWide Try.prog W .any base t v := hval0
  have hsz : (DataW.weightsEach Try.prog (Try.f4.params.toList ++ Rows.spaceHoldsSpec.plain.varTypes Try.prog) (ds ++ gs)).all (· ≤ reachBytes) = true := hsz0
  have hW' := hW
  obtain ⟨p, q, hA0, hV, rfl, hfz, hnd⟩ := hW
  have hA : DataW.TrodAll enc Try.prog W 0 (fun _ => true) true Try.f4.params.toList args.toList ds p := hA0
  rw [Try.params4] at hA hval hsz
  obtain ⟨v0, vs0, d0, ds0, p0, q0, hargs, rfl, rfl, h0, t0⟩ := trodAll_cons hA
  obtain ⟨v1, vs1, d1, ds1, p1, q1, rfl, rfl, rfl, h1, t1⟩ := trodAll_cons t0
  obtain ⟨v2, vs2, d2, ds2, p2, q2, rfl, rfl, rfl, h2, t2⟩ := trodAll_cons t1
  obtain ⟨rfl, rfl, rfl⟩ := trodAll_nil t2
  obtain rfl : args = #[v0, v1, v2] := by cases args; simp_all
  obtain ⟨rfl, rfl⟩ := trodVars_none hV
  have k0 := h0
  obtain ⟨x0, rfl, rfl, rfl, wf0⟩ := open_int Try.underlying3 (hval 0 3 v0 rfl rfl) h0
  have m0 := wf_int wf0
  have k1 := h1
  obtain ⟨x1, rfl, rfl, rfl, wf1⟩ := open_int Try.underlying3 (hval 1 3 v1 rfl rfl) h1
  have m1 := wf_int wf1
  have k2 := h2
  obtain ⟨A2, n2, c2, l2, rfl, r2, y2⟩ := open_ints64 (hval 2 35 v2 rfl rfl) h2
  have s2 := y2 (weights_of hsz (j := 2) rfl rfl)
  clear hA0 hval0
  refine (walk_spaceHolds x0 x1 A2 n2 c2 l2 W m0 m1 r2 s2).mono fun e W' ⟨he, bel⟩ => ?_
  subst he
  exact ⟨_, rfl, _, _, _, [], _, [], hW', trodAll_mk1 (shut_bool Try.underlying4 _), (trodAll_cons_mk (Below.trod laidOut (by kernel_rfl) (of_decide_eq_true (by kernel_rfl)) k0 bel (trod_places k0)) (trodAll_cons_mk (Below.trod laidOut (by kernel_rfl) (of_decide_eq_true (by kernel_rfl)) k1 bel (trod_places k1)) (trodAll_cons_mk (Below.trod laidOut (by kernel_rfl) (of_decide_eq_true (by kernel_rfl)) k2 bel (trod_places k2)) trodAll_mk0))), rfl, bel.frame _, fun h => by cases h⟩

theorem over_spaceHolds : Rows.spaceHoldsRow.holds Try.pinned (OpenSpec.ofChange Rows.spaceHoldsSpec) :=
  OpenClaim.holds_of_wide 4 Try.f4 rfl rfl rfl rfl rfl rfl rfl ⟨rfl, rfl, rfl, rfl, rfl⟩ rfl rfl rfl rfl rfl (by kernel_rfl) Try.func4 (by kernel_rfl)
    (of_decide_eq_true (by kernel_rfl)) (by unfold Func.isWrapper; first | (rw [if_pos (by decide +kernel)]; kernel_rfl) | (rw [if_neg (by decide +kernel)]; exact ⟨rfl, rfl⟩))
    (fun os started H enc _ => lifted_spaceHolds os started H enc)

/-- The statement. -/
theorem spaceHolds_holds : Rows.SpaceHoldsSaid := over_spaceHolds
#print axioms spaceHolds_holds

end Go.Proofs.Ytbofnmlddpbfeaa

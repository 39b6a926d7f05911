/- BloomOrder: the order in which hashes are added is no matter, nor how often. Conditions: none. -/
import Derived.Test.YtbncjacbggngiaaBlt
namespace Go.Proofs.Ytbncjacbggngiaa
set_option linter.unusedVariables false
open Go.ChangeShapes Go.WideShapes Go.ChangeAt Go.RowKit

theorem Rv.pre {w : World} {B n c m : Nat} {A : Option Addr} {xs : List Value} (h : Rv w B A n c xs) (hm : m ≤ n) : Rv w B A m c (xs.take m) := by
  obtain ⟨h1, h2, h3, h4, h5, h6⟩ := h
  refine ⟨by rw [List.length_take]; omega, by omega, h3, h4, fun ad hA hm0 => h5 ad hA (by omega), fun ad i u hA hu => ?_⟩
  rw [List.getElem?_take] at hu
  split at hu
  · exact h6 ad i u hA hu
  · cases hu
theorem cus_take (k : IntKind) (l : List Nat) (m : Nat) : (cus k l).take m = cus k (l.take m) := by simp [cus, List.map_take]
theorem cus_get {k : IntKind} {l : List Nat} {j : Nat} {u : Value} (h : (cus k l)[j]? = some u) : ∃ p, l[j]? = some p ∧ u = .int k (p : Int) := by
  unfold cus at h
  rw [List.getElem?_map] at h
  obtain ⟨p, hp, rfl⟩ := Option.map_eq_some_iff.1 h
  exact ⟨p, hp, rfl⟩
theorem cus_length (k : IntKind) (l : List Nat) : (cus k l).length = l.length := by simp [cus]

/-- All probes of some hashes. -/
def allP (M : Nat) (hs : List Nat) : List Nat := hs.flatMap fun h => prbs h M
theorem allP_append (M : Nat) (a b : List Nat) : allP M (a ++ b) = allP M a ++ allP M b := by simp [allP]
theorem allP_snoc (M : Nat) (a : List Nat) (h : Nat) : allP M (a ++ [h]) = allP M a ++ prbs h M := by simp [allP]
theorem setsB_append (l : List UInt8) (a b : List Nat) : setsB l (a ++ b) = setsB (setsB l a) b := by simp [setsB]
theorem allP_lt {M : Nat} {hs : List Nat} {p : Nat} (hM : 0 < M) (hp : p ∈ allP M hs) : p < M := by
  unfold allP at hp
  obtain ⟨h, _, hq⟩ := List.mem_flatMap.1 hp
  exact prbs_lt hM hq
theorem sets_same {l : List UInt8} {a b : List Nat} (hl : 0 < l.length) (h : ∀ h, h ∈ a ↔ h ∈ b) : setsB l (allP (8 * l.length) a) = setsB l (allP (8 * l.length) b) := by
  refine bitsL_inj (by rw [length_setsB, length_setsB]) ?_
  rw [bitsL_setsB _ _ fun p hp => allP_lt (by omega) hp, bitsL_setsB _ _ fun p hp => allP_lt (by omega) hp]
  apply List.ext_getElem?
  intro i
  by_cases hi : i < (bitsL l).length
  · rw [setsL_get _ _ _ hi, setsL_get _ _ _ hi]
    congr 2
    rw [decide_eq_decide]
    unfold allP
    rw [List.mem_flatMap, List.mem_flatMap]
    exact ⟨fun ⟨x, hx, hp⟩ => ⟨x, (h x).1 hx, hp⟩, fun ⟨x, hx, hp⟩ => ⟨x, (h x).2 hx, hp⟩⟩
  · rw [List.getElem?_eq_none (by rw [length_setsL]; omega), List.getElem?_eq_none (by rw [length_setsL]; omega)]
/-- The hashes as the second filter gets them. -/
def gl (L : List Nat) (t : Nat) (j : Nat) : List Nat := (List.range j).flatMap fun i => [L.getD ((i + t) % L.length) 0, L.getD ((i + t) % L.length) 0]
theorem gl_succ (L : List Nat) (t j : Nat) : gl L t (j + 1) = gl L t j ++ [L.getD ((j + t) % L.length) 0] ++ [L.getD ((j + t) % L.length) 0] := by
  unfold gl; rw [List.range_succ, List.flatMap_append]; simp
theorem mem_gl {L : List Nat} {t : Nat} (ht : t < L.length) (h : Nat) : h ∈ L ↔ h ∈ gl L t L.length := by
  unfold gl
  rw [List.mem_flatMap]
  constructor
  · intro hm
    obtain ⟨i, hi, rfl⟩ := List.getElem_of_mem hm
    refine ⟨(i + (L.length - t)) % L.length, List.mem_range.2 (Nat.mod_lt _ (by omega)), ?_⟩
    have e : ((i + (L.length - t)) % L.length + t) % L.length = i := by
      rw [Nat.mod_add_mod, show i + (L.length - t) + t = i + L.length from by omega, Nat.add_mod_right, Nat.mod_eq_of_lt hi]
    rw [e, List.getD_eq_getElem?_getD, List.getElem?_eq_getElem hi]
    simp
  · rintro ⟨j, hj, hx⟩
    have hlt : (j + t) % L.length < L.length := Nat.mod_lt _ (by omega)
    rw [List.getD_eq_getElem?_getD, List.getElem?_eq_getElem hlt] at hx
    simp at hx
    rw [hx]
    exact List.getElem_mem hlt
theorem setsB_add {l : List UInt8} {M h : Nat} {hs : List Nat} : setsB (setsB l (allP M hs)) (prbs h M) = setsB l (allP M (hs ++ [h])) := by
  rw [allP_snoc, setsB_append]

set_option maxHeartbeats 2000000 in
theorem walk_bloomOrder (x0 : Int) (A1 : Option Addr) (n1 c1 : Nat) (l1 : List Nat) (x2 : Int) (w : World) (m0 : -9223372036854775808 ≤ x0 ∧ x0 ≤ 9223372036854775807)
    (r1 : Rv w w.heap.size A1 n1 c1 (cus .u64 l1) ∧ ∀ x ∈ l1, (x : Int) ≤ 18446744073709551615) (s1 : c1 * 8 ≤ 140737488351232) (m2 : -9223372036854775808 ≤ x2 ∧ x2 ≤ 9223372036854775807) :
    Calls Try.prog 4 #[.int .i64 x0, .slice A1 n1 c1, .int .i64 x2] w fun e w' => e = .returned (.bool true) ∧ Below w.heap.size w w' := by
  obtain ⟨r1, hbd⟩ := r1
  have b := Below.refl w.heap.size w
  have hsz := szN_bd x0
  have rp := Rv.pre r1 (Nat.min_le_left n1 100)
  rw [cus_take] at rp
  have hLl : (l1.take (min n1 100)).length = min n1 100 := by have := rp.len; rwa [cus_length] at this
  have hLb : ∀ x ∈ l1.take (min n1 100), x < 18446744073709551616 := fun x hx => by have := hbd x (List.mem_of_mem_take hx); omega
  have hcap := r1.cap
  have hmax := r1.max
  have hm100 : min n1 100 ≤ 100 := Nat.min_le_right _ _
  generalize hN : szN x0 = N at hsz
  have HN := Lib.hid hN
  clear hN
  go_enter Try.func4, Try.ntmps4
  go_wp2_with fail
  refine (wakes04 _).mono ?_
  rintro e w1 ⟨rfl, b1⟩
  replace b := below_step b b1
  clear b1
  go_wp2_with fail
  refine (size_any x0 _ m0).mono ?_
  rintro e w2 ⟨rfl, rfl⟩
  rw [HN.out]
  go_wp2_with fail
  refine (new_ok N hsz.1 (by omega) _ rfl _).mono ?_
  rintro e w2 ⟨gf, rfl, ff, b2⟩
  have hs1 := b.size
  replace b := below_step b b2
  clear b2
  go_wp2_with fail
  refine (size_any x0 _ m0).mono ?_
  rintro e w3 ⟨rfl, rfl⟩
  rw [HN.out]
  go_wp2_with fail
  refine (new_ok N hsz.1 (by omega) _ rfl _).mono ?_
  rintro e w3 ⟨gg, rfl, fg, b3⟩
  have hs2 := b.size
  replace ff := ff.step b3
  replace b := below_step b b3
  clear b3
  go_wp2_with fail
  refine (few_any A1 n1 c1 _ hcap hmax).mono ?_
  rintro e w4 ⟨rfl, rfl⟩
  clear r1 hbd hcap hmax
  generalize l1.take (min n1 100) = L at rp hLl hLb
  generalize min n1 100 = n at rp hLl hm100 ⊢
  subst hLl
  generalize hB1 : w1.heap.size = B1 at ff hs1
  generalize hB2 : w2.heap.size = B2 at ff fg hs2
  generalize hB3 : w3.heap.size = B3 at fg
  have HB3 := Lib.hid hB3
  clear hB1 hB2 hB3 s1
  have HLB := Lib.hid hLb
  clear hLb
  have hz : (List.replicate N (0 : UInt8)).length = N := List.length_replicate
  have HZ := Lib.hid hz
  clear hz
  have T := Lib.hid (rfl : (x2 % 18446744073709551616).toNat % L.length = (x2 % 18446744073709551616).toNat % L.length)
  generalize ht : (x2 % 18446744073709551616).toNat % L.length = t at T
  have HT := Lib.hid ht
  clear ht T
  go_wp2_with fail
  go_loopw [11, 36] (fun y i wr => ∃ j : Nat, j ≤ L.length ∧ i = .int .i64 j ∧ Flt wr B1 B2 gf (setsB (List.replicate N 0) (allP (8 * N) (L.take j))) ∧ Flt wr B2 B3 gg (setsB (List.replicate N 0) (allP (8 * N) (gl L t j))) ∧ Below w.heap.size w wr) (fun _ i _ => L.length - (intOf i).toNat)
  case atStart => exact ⟨0, Nat.zero_le _, rfl, ff, fg, b⟩
  case round =>
    obtain ⟨j, hj, rfl, ff, fg, bj⟩ := hrel
    by_cases hlt : j < L.length
    · obtain ⟨ad, u, rfl, -, hu, hc⟩ := (rp.below bj).some_ hlt
      obtain ⟨x, hx, rfl⟩ := cus_get hu
      have hxb := HLB.out x (List.mem_of_getElem? hx)
      have hx2 := take_snoc_of hx
      have hlen0 : 0 < L.length := by omega
      have ht : t < L.length := by rw [← HT.out]; exact Nat.mod_lt _ hlen0
      have hjt : (j + t) % L.length < L.length := Nat.mod_lt _ hlen0
      obtain ⟨ad2, u2, e2, -, hu2, hc2⟩ := (rp.below bj).some_ hjt
      obtain rfl : ad = ad2 := by injection e2
      obtain ⟨y, hy, rfl⟩ := cus_get hu2
      have hyb := HLB.out y (List.mem_of_getElem? hy)
      have hgs := gl_succ L t j
      rw [List.getD_eq_getElem?_getD, hy] at hgs
      simp only [Option.getD_some] at hgs
      have hwt : (IntKind.u64.wrap x2).tmod (L.length : Int) = (t : Int) := by
        have h0 : (0 : Int) ≤ x2 % 18446744073709551616 := Int.emod_nonneg _ (by decide)
        rw [IntKind.wrap_u64, Int.tmod_eq_emod_of_nonneg h0, ← HT.out, Int.natCast_emod, Int.toNat_of_nonneg h0]
      have hlf : (setsB (List.replicate N 0) (allP (8 * N) (L.take j))).length = N := by rw [length_setsB, HZ.out]
      have hlg : (setsB (List.replicate N 0) (allP (8 * N) (gl L t j))).length = N := by rw [length_setsB, HZ.out]
      have hAf := add_any B1 B2 gf x _ wr ff (by omega)
      rw [hlf, setsB_add, ← hx2] at hAf
      have HAf := Lib.hid hAf
      have HLG := Lib.hid hlg
      have HGS := Lib.hid hgs
      have HHJ := Lib.hid hjt
      have hjt0 : (0 : Int) ≤ ((j : Int) + (t : Int)) % (L.length : Int) := Int.emod_nonneg _ (by omega)
      have hjt1 : ((j : Int) + (t : Int)) % (L.length : Int) < (L.length : Int) := Int.emod_lt_of_pos _ (by omega)
      have HU2 := Lib.hid hu2
      clear hc2
      clear hu hx hx2 hu2 hy hgs hlf hlg hAf hjt e2
      go_wp2_with fail
      refine HAf.out.mono ?_
      rintro e w5 ⟨rfl, ff5, n5⟩
      have fg5 := fg.far n5 (Or.inr (Nat.le_refl _))
      have b5 := bj.trans (n5.below hs1 bj.size)
      have hc5 := (rp.below b5).2.2.2.2.2 ad _ _ rfl HU2.out
      have hAg := add_any B2 B3 gg y _ w5 fg5 hyb
      rw [HLG.out, setsB_add] at hAg
      have HAg := Lib.hid hAg
      clear hAg hc
      go_wp2_with fail
      refine HAg.out.mono ?_
      rintro e w6 ⟨rfl, fg6, n6⟩
      have ff6 := ff5.far n6 (Or.inl (Nat.le_refl _))
      have b6 := b5.trans (n6.below hs2 b5.size)
      have hc6 := (rp.below b6).2.2.2.2.2 ad _ _ rfl HU2.out
      have hAg := add_any B2 B3 gg y _ w6 fg6 hyb
      rw [length_setsB, HZ.out, setsB_add, ← HGS.out] at hAg
      have HAg2 := Lib.hid hAg
      clear hAg hc5
      go_wp2_with fail
      refine HAg2.out.mono ?_
      rintro e w7 ⟨rfl, fg7, n7⟩
      have ff7 := ff6.far n7 (Or.inl (Nat.le_refl _))
      have b7 := b6.trans (n7.below hs2 b6.size)
      clear hc6
      go_wp2_with fail
      go_roundw
      case rel => exact ⟨j + 1, by omega, by go_num, ff7, fg7, b7⟩
      case measure => simp [intOf]; omega
    · obtain rfl : j = L.length := by omega
      have he : setsB (List.replicate N 0) (allP (8 * N) (L.take L.length)) = setsB (List.replicate N 0) (allP (8 * N) (gl L t L.length)) := by
        rw [List.take_length]
        by_cases h0 : L.length = 0
        · obtain rfl := List.eq_nil_of_length_eq_zero h0
          rfl
        · have := sets_same (l := List.replicate N 0) (a := L) (b := gl L t L.length) (by rw [HZ.out]; omega) (mem_gl (by rw [← HT.out]; exact Nat.mod_lt _ (by omega)))
          rw [HZ.out] at this
          exact this
      rw [he] at ff
      generalize setsB (List.replicate N 0) (allP (8 * N) (gl L t L.length)) = lf at ff fg
      clear he
      go_wp2_with fail
      refine (bytes_any _ _ gf _ _ ff).mono ?_
      rintro e w5 ⟨A5, c5, rfl, o5, b5⟩
      go_wp2_with fail
      refine (bytes_any _ _ gg _ _ (fg.step b5)).mono ?_
      rintro e w6 ⟨A6, c6, rfl, o6, b6⟩
      go_wp2_with fail
      refine (bequal_any _ _ _ _ _ _ _ _ _ _ _ (o5.step b6).rd o6.rd (by omega) (by omega) rfl).mono ?_
      rintro e w7 ⟨rfl, rfl⟩
      go_wp2_with fail
      go_ret
      exact ⟨rfl, below_step (below_step bj b5) b6⟩


set_option maxRecDepth 100000 in
theorem lifted_bloomOrder (os : Os) (started : os.Started) (H : Type) (enc : TypeId × Value → H) :
    ReturnsInHanded {} Try.checked os 4 .any (Rows.bloomOrderSpec.pre6 enc Try.prog Try.f4 Rows.bloomOrderRow.domain false) (Rows.bloomOrderSpec.post enc Try.prog Try.f4 false true false false) := by
  refine returnsInHanded_of_change_sized (C := Try.checked) own started (by kernel_rfl) Try.func4
    (ChangeSpec.witness6 (enc := enc) (C := Try.checked) false ⟨#[], #[.int .i64 0, .slice none 0 0, .int .i64 0], []⟩ 8 (by kernel_rfl) (by kernel_rfl) (by kernel_rfl) (by kernel_rfl)) ?_
  intro W base args ds gs before hval0 hW hcnd hsz0 _
  have hval : ∀ (j : Nat) t v, Try.f4.params[j]? = some t → args[j]? = some v → Value.okWide Try.prog W .any base t v := hval0
  have hsz : (DataW.weightsEach Try.prog (Try.f4.params.toList ++ Rows.bloomOrderSpec.plain.varTypes Try.prog) (ds ++ gs)).all (· ≤ reachBytes) = true := hsz0
  have hW' := hW
  obtain ⟨p, q, hA0, hV, rfl, hfz, hnd⟩ := hW
  have hA : DataW.TrodAll enc Try.prog W 0 (fun _ => true) true Try.f4.params.toList args.toList ds p := hA0
  rw [Try.params4] at hA hval hsz
  obtain ⟨v0, vs0, d0, ds0, p0, q0, hargs, rfl, rfl, h0, t0⟩ := trodAll_cons hA
  obtain ⟨v1, vs1, d1, ds1, p1, q1, rfl, rfl, rfl, h1, t1⟩ := trodAll_cons t0
  obtain ⟨v2, vs2, d2, ds2, p2, q2, rfl, rfl, rfl, h2, t2⟩ := trodAll_cons t1
  obtain ⟨rfl, rfl, rfl⟩ := trodAll_nil t2
  obtain rfl : args = #[v0, v1, v2] := by cases args; simp_all
  obtain ⟨rfl, rfl⟩ := trodVars_none hV
  have k0 := h0
  obtain ⟨x0, rfl, rfl, rfl, wf0⟩ := open_int Try.underlying3 (hval 0 3 v0 rfl rfl) h0
  have m0 := wf_int wf0
  have k1 := h1
  obtain ⟨A1, n1, c1, l1, rfl, r1, y1⟩ := open_u64s (hval 1 36 v1 rfl rfl) h1
  have s1 := y1 (weights_of hsz (j := 1) rfl rfl)
  have k2 := h2
  obtain ⟨x2, rfl, rfl, rfl, wf2⟩ := open_int Try.underlying3 (hval 2 3 v2 rfl rfl) h2
  have m2 := wf_int wf2
  clear hA0 hval0
  refine (walk_bloomOrder x0 A1 n1 c1 l1 x2 W m0 r1 s1 m2).mono fun e W' ⟨he, bel⟩ => ?_
  subst he
  exact ⟨_, rfl, _, _, _, [], _, [], hW', trodAll_mk1 (shut_bool Try.underlying4 _), (trodAll_cons_mk (Below.trod laidOut (by kernel_rfl) (of_decide_eq_true (by kernel_rfl)) k0 bel (trod_places k0)) (trodAll_cons_mk (Below.trod laidOut (by kernel_rfl) (of_decide_eq_true (by kernel_rfl)) k1 bel (trod_places k1)) (trodAll_cons_mk (Below.trod laidOut (by kernel_rfl) (of_decide_eq_true (by kernel_rfl)) k2 bel (trod_places k2)) trodAll_mk0))), rfl, bel.frame _, fun h => by cases h⟩

theorem over_bloomOrder : Rows.bloomOrderRow.holds Try.pinned (OpenSpec.ofChange Rows.bloomOrderSpec) :=
  OpenClaim.holds_of_wide 4 Try.f4 rfl rfl rfl rfl rfl rfl rfl ⟨rfl, rfl, rfl, rfl, rfl⟩ rfl rfl rfl rfl rfl (by kernel_rfl) Try.func4 (by kernel_rfl)
    (of_decide_eq_true (by kernel_rfl)) (by unfold Func.isWrapper; first | (rw [if_pos (by decide +kernel)]; kernel_rfl) | (rw [if_neg (by decide +kernel)]; exact ⟨rfl, rfl⟩))
    (fun os started H enc _ => lifted_bloomOrder os started H enc)

/-- The statement. -/
theorem bloomOrder_holds : Rows.BloomOrderSaid := over_bloomOrder
#print axioms bloomOrder_holds

end Go.Proofs.Ytbncjacbggngiaa

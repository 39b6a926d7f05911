/- StampSplits: whatever bytes are split into sectors as the document says, or refused; and counted. Conditions: none. -/
import Derived.Test.YtkemlpcfijfaeaaSpo
import Derived.Test.YtkemlpcfijfaeaaWak5
namespace Go.Proofs.Ytkemlpcfijfaeaa
set_option linter.unusedVariables false
open Go.ChangeShapes Go.WideShapes Go.ChangeAt Go.RowKit

def LawQ5 (w : World) (e : Ending) (w' : World) : Prop := e = .returned (.bool true) ∧ Below w.heap.size w w'
set_option maxRecDepth 100000 in
set_option maxHeartbeats 1000000 in
theorem splits_big (g ps : Nat) (A : Option Addr) (n c : Nat) (hn : 16384 < n) (w : World) : Calls Try.prog 5 #[.int .u64 g, .int .u32 ps, .slice A n c] w (LawQ5 w) := by
  have i1 : (16384 : Int) < (n : Int) := by omega
  go_enter Try.func5, Try.ntmps5
  go_wp2_with fail
  refine (wakes05 _).mono ?_
  rintro e w1 ⟨rfl, b1⟩
  go_wp2_with fail
  go_ret
  exact ⟨rfl, b1⟩
set_option maxRecDepth 100000 in
set_option maxHeartbeats 1000000 in
theorem splits_no (g ps : Nat) (hg2 : g < 18446744073709551616) (hps : ps < 4294967296) (A : Option Addr) (n c : Nat) (l : List UInt8) (hn : n ≤ 16384) (h : g = 0 ∨ 4294967296 < ps + secN n) (w : World) (r : Rd w w.heap.size A n c l) : Calls Try.prog 5 #[.int .u64 g, .int .u32 ps, .slice A n c] w (LawQ5 w) := by
  have i1 : (n : Int) ≤ 16384 := by omega
  have b := Below.refl w.heap.size w
  have hspl := fun A' c' W => split_no g ps hg2 hps A' n c' (by omega) h W
  have hs1 := fun W => sectors_nat n (by omega) W
  have hs2 := fun W => rsectors_any n (by omega) W
  have hle := secN_le n
  have hk : secN n ≤ 1000 := by omega
  generalize secN n = k at h hs1 hs2 hk
  have H1 := Lib.hid hs1
  have H2 := Lib.hid hs2
  have HS := Lib.hid hspl
  have HH := Lib.hid h
  clear hs1 hs2 hspl hle h
  have hneg : -1 - (n : Int) < 0 := by omega
  go_enter Try.func5, Try.ntmps5
  go_wp2_with fail
  refine (wakes05 _).mono ?_
  rintro e w1 ⟨rfl, b1⟩
  replace b := below_step b b1
  clear b1
  go_wp2_with (at_builtin; refine wpList_app8 _ rfl _ _ rfl w1.heap.size (some ⟨w1.heap.size, 0, none⟩) 0 0 [] rfl (Own.empty w1 _ (Nat.le_refl _)) w.heap.size A n c l rfl ((r.below b).alloc b.size _) (by omega) (by simp) ?_)
  intro A2 c2 w2 o2 b2
  replace b := below_step b (((Below.refl w1.heap.size w1).alloc (Nat.le_refl _) _).trans b2)
  clear b2
  have HSx := HS.out A2 c2 w2
  unfold SplNo at HSx
  go_wp2_with fail
  refine HSx.mono ?_
  rintro e w3 ⟨rfl, rfl⟩
  clear HSx
  go_wp2_with fail
  refine (H2.out _).mono ?_
  rintro e w4 ⟨rfl, rfl⟩
  go_wp2_with fail
  refine (H1.out _).mono ?_
  rintro e w5 ⟨rfl, rfl⟩
  go_wp2_with fail
  refine (sectors_neg _ hneg _).mono ?_
  rintro e w6 ⟨rfl, rfl⟩
  rcases HH.out with h0 | h1
  · have t0 : ((g : Int) == 0) = true := by rw [beq_iff_eq]; omega
    go_wp2_with fail
    go_ret
    exact ⟨rfl, b⟩
  · by_cases h0 : g = 0
    · have t0 : ((g : Int) == 0) = true := by rw [beq_iff_eq]; omega
      go_wp2_with fail
      go_ret
      exact ⟨rfl, b⟩
    · have t0 : ((g : Int) == 0) = false := by rw [beq_eq_false_iff_ne]; omega
      clear HH h0
      go_wp2_with fail
      go_ret
      exact ⟨rfl, b⟩
set_option maxRecDepth 100000 in
set_option maxHeartbeats 1000000 in
theorem splits_yes (g ps : Nat) (hg : g ≠ 0) (hg2 : g < 18446744073709551616) (hps : ps < 4294967296) (A : Option Addr) (n c : Nat) (l : List UInt8) (hn : n ≤ 16384) (h : ps + secN n ≤ 4294967296) (w : World) (r : Rd w w.heap.size A n c l) : Calls Try.prog 5 #[.int .u64 g, .int .u32 ps, .slice A n c] w (LawQ5 w) := by
  have i1 : (n : Int) ≤ 16384 := by omega
  have b := Below.refl w.heap.size w
  have hspl := fun A' c' W r => split_ok g ps hg hg2 A' n c' l (by omega) h W r
  have hrspl := fun W r => rsplit_ok g ps hg2 A n c l (by omega) h W r
  have hs1 := fun W => sectors_nat n (by omega) W
  have hs2 := fun W => rsectors_any n (by omega) W
  have hle := secN_le n
  have hk : secN n ≤ 1000 := by omega
  unfold SplOk at hspl
  unfold RSplOk at hrspl
  have H64 := Lib.hid (splitL_64 g ps l (secN n))
  generalize splitL g ps l (secN n) = LL at hspl hrspl H64
  generalize secN n = k at h hs1 hs2 hk hspl hrspl
  have H1 := Lib.hid hs1
  have H2 := Lib.hid hs2
  have HS := Lib.hid hspl
  have HR := Lib.hid hrspl
  clear hs1 hs2 hspl hle hrspl
  have hneg : -1 - (n : Int) < 0 := by omega
  have t0 : ((g : Int) == 0) = false := by rw [beq_eq_false_iff_ne]; omega
  go_enter Try.func5, Try.ntmps5
  go_wp2_with fail
  refine (wakes05 _).mono ?_
  rintro e w1 ⟨rfl, b1⟩
  replace b := below_step b b1
  clear b1
  go_wp2_with (at_builtin; refine wpList_app8 _ rfl _ _ rfl w1.heap.size (some ⟨w1.heap.size, 0, none⟩) 0 0 [] rfl (Own.empty w1 _ (Nat.le_refl _)) w.heap.size A n c l rfl ((r.below b).alloc b.size _) (by omega) (by simp) ?_)
  intro A2 c2 w2 o2 b2
  replace b := below_step b (((Below.refl w1.heap.size w1).alloc (Nat.le_refl _) _).trans b2)
  clear b2
  replace o2 : Own w2 w1.heap.size A2 n c2 l := by simpa using o2
  have HSx := HS.out A2 c2 w2 o2.rd
  go_wp2_with fail
  refine HSx.mono ?_
  rintro e w3 ⟨A3, c3, rfl, o3, b3⟩
  replace b := below_step b b3
  clear HSx b3 o2
  go_wp2_with fail
  refine (H2.out _).mono ?_
  rintro e w4 ⟨rfl, rfl⟩
  go_wp2_with fail
  refine (H1.out _).mono ?_
  rintro e w5 ⟨rfl, rfl⟩
  go_wp2_with fail
  refine (sectors_neg _ hneg _).mono ?_
  rintro e w6 ⟨rfl, rfl⟩
  have rr := (r.below b).more b.size
  have HRx := HR.out w3 rr
  go_wp2_with fail
  refine HRx.mono ?_
  rintro e w7 ⟨A4, c4, rfl, o4, b4⟩
  replace b := below_step b b4
  have r3 : RdB w7 w7.heap.size A3 k c3 LL := (Oz.below o3 b4).rz
  have r4 : RdB w7 w7.heap.size A4 k c4 LL := Oz.rz o4
  clear HRx o3 o4 b4 rr
  have hsame := same5_any A3 A4 k c3 k c4 _ LL LL H64.out H64.out w7 r3 r4
  go_wp2_with fail
  refine hsame.mono ?_
  rintro e w8 ⟨rfl, hq⟩
  have b5 := quiet_self hq
  clear hq hsame
  replace b := below_step b b5
  rw [show eqBB LL LL = true from decide_eq_true rfl]
  go_wp2_with fail
  go_ret
  exact ⟨rfl, b⟩
theorem walk_stampSplits (g ps : Nat) (A : Option Addr) (n c : Nat) (l : List UInt8) (w : World) (mg : (g : Int) ≤ 18446744073709551615) (mp : (ps : Int) ≤ 4294967295) (r : Rd w w.heap.size A n c l) (_ : c ≤ 140737488351232) :
    Calls Try.prog 5 #[.int .u64 g, .int .u32 ps, .slice A n c] w fun e w' => e = .returned (.bool true) ∧ Below w.heap.size w w' := by
  by_cases hn : 16384 < n
  · exact splits_big g ps A n c hn w
  · by_cases h : g = 0 ∨ 4294967296 < ps + secN n
    · exact splits_no g ps (by omega) (by omega) A n c l (by omega) h w r
    · exact splits_yes g ps (by omega) (by omega) (by omega) A n c l (by omega) (by omega) w r


set_option maxRecDepth 100000 in
theorem lifted_stampSplits (os : Os) (started : os.Started) (H : Type) (enc : TypeId × Value → H) :
    ReturnsInHanded {} Try.checked os 5 .any (Rows.stampSplitsSpec.pre6 enc Try.prog Try.f5 Rows.stampSplitsRow.domain false) (Rows.stampSplitsSpec.post enc Try.prog Try.f5 false true false false) := by
  refine returnsInHanded_of_change_sized (C := Try.checked) own started (by kernel_rfl) Try.func5
    (ChangeSpec.witness6 (enc := enc) (C := Try.checked) false ⟨#[], #[.int .u64 0, .int .u32 0, .slice none 0 0], []⟩ 8 (by kernel_rfl) (by kernel_rfl) (by kernel_rfl) (by kernel_rfl)) ?_
  intro W base args ds gs before hval0 hW hcnd hsz0 _
  have hval : ∀ (j : Nat) t v, Try.f5.params[j]? = some t → args[j]? = some v → Value.okWide Try.prog W .any base t v := hval0
  have hsz : (DataW.weightsEach Try.prog (Try.f5.params.toList ++ Rows.stampSplitsSpec.plain.varTypes Try.prog) (ds ++ gs)).all (· ≤ reachBytes) = true := hsz0
  have hW' := hW
  obtain ⟨p, q, hA0, hV, rfl, hfz, hnd⟩ := hW
  have hA : DataW.TrodAll enc Try.prog W 0 (fun _ => true) true Try.f5.params.toList args.toList ds p := hA0
  rw [Try.params5] at hA hval hsz
  obtain ⟨v0, vs0, d0, ds0, p0, q0, hargs, rfl, rfl, h0, t0⟩ := trodAll_cons hA
  obtain ⟨v1, vs1, d1, ds1, p1, q1, rfl, rfl, rfl, h1, t1⟩ := trodAll_cons t0
  obtain ⟨v2, vs2, d2, ds2, p2, q2, rfl, rfl, rfl, h2, t2⟩ := trodAll_cons t1
  obtain ⟨rfl, rfl, rfl⟩ := trodAll_nil t2
  obtain rfl : args = #[v0, v1, v2] := by cases args; simp_all
  obtain ⟨rfl, rfl⟩ := trodVars_none hV
  have k0 := h0
  obtain ⟨z0, rfl, rfl, rfl, wf0⟩ := open_int Try.underlying38 (hval 0 38 v0 rfl rfl) h0
  obtain ⟨x0, rfl, m0⟩ := wf_nat (M := 18446744073709551615) wf0 rfl rfl
  have k1 := h1
  obtain ⟨z1, rfl, rfl, rfl, wf1⟩ := open_int Try.underlying39 (hval 1 39 v1 rfl rfl) h1
  obtain ⟨x1, rfl, m1⟩ := wf_nat (M := 4294967295) wf1 rfl rfl
  have k2 := h2
  obtain ⟨A2, n2, c2, l2, rfl, r2, y2⟩ := open_bytes (hval 2 31 v2 rfl rfl) h2
  have s2 := y2 (weights_of hsz (j := 2) rfl rfl)
  clear hA0 hval0
  refine (walk_stampSplits x0 x1 A2 n2 c2 l2 W m0 m1 r2 s2).mono fun e W' ⟨he, bel⟩ => ?_
  subst he
  exact ⟨_, rfl, _, _, _, [], _, [], hW', trodAll_mk1 (shut_bool Try.underlying4 _), (trodAll_cons_mk (Below.trod laidOut (by kernel_rfl) (of_decide_eq_true (by kernel_rfl)) k0 bel (trod_places k0)) (trodAll_cons_mk (Below.trod laidOut (by kernel_rfl) (of_decide_eq_true (by kernel_rfl)) k1 bel (trod_places k1)) (trodAll_cons_mk (Below.trod laidOut (by kernel_rfl) (of_decide_eq_true (by kernel_rfl)) k2 bel (trod_places k2)) trodAll_mk0))), rfl, bel.frame _, fun h => by cases h⟩

theorem over_stampSplits : Rows.stampSplitsRow.holds Try.pinned (OpenSpec.ofChange Rows.stampSplitsSpec) :=
  OpenClaim.holds_of_wide 5 Try.f5 rfl rfl rfl rfl rfl rfl rfl ⟨rfl, rfl, rfl, rfl, rfl⟩ rfl rfl rfl rfl rfl (by kernel_rfl) Try.func5 (by kernel_rfl)
    (of_decide_eq_true (by kernel_rfl)) (by unfold Func.isWrapper; first | (rw [if_pos (by decide +kernel)]; kernel_rfl) | (rw [if_neg (by decide +kernel)]; exact ⟨rfl, rfl⟩))
    (fun os started H enc _ => lifted_stampSplits os started H enc)

/-- The statement. -/
theorem stampSplits_holds : Rows.StampSplitsSaid := over_stampSplits
#print axioms stampSplits_holds

end Go.Proofs.Ytkemlpcfijfaeaa

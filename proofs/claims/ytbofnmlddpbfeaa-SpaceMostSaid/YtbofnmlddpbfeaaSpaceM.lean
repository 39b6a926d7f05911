/- SpaceMost: a record has at most 17 sectors, and one more byte never less. Conditions: none. -/
import Derived.Test.YtbofnmlddpbfeaaSpaw
namespace Go.Proofs.Ytbofnmlddpbfeaa
set_option linter.unusedVariables false
open Go.ChangeShapes Go.WideShapes Go.ChangeAt Go.RowKit

theorem cb_nat {x : Nat} (h : (x : Int) ≤ 255) : Value.int .u8 (x : Int) = cb (UInt8.ofNat x) := by
  unfold cb; rw [ofNat_toNat_int]; congr 1; omega

set_option maxHeartbeats 4000000 in
theorem walk_spaceMost (AK0 : Option Addr) (nk0 ck0 : Nat) (lk0 : List UInt8) (AV0 : Option Addr) (nv0 cv0 : Nat) (lv0 : List UInt8) (fl0 ex0 sq0 : Nat) (bb0 : Bool) (x1 : Nat) (w : World)
    (r0 : Itm w w.heap.size AK0 nk0 ck0 lk0 AV0 nv0 cv0 lv0 fl0 ex0 sq0) (s0 : ck0 ≤ 140737488351232 ∧ cv0 ≤ 140737488351232) (m1 : (x1 : Int) ≤ 255) :
    Calls Try.prog 5 #[itmV (.slice AK0 nk0 ck0) (.slice AV0 nv0 cv0) fl0 ex0 sq0 bb0, .int .u8 x1] w fun e w' => e = .returned (.bool true) ∧ Below w.heap.size w w' := by
  have hch := fun (AV : Option Addr) (nv cv : Nat) (w : World) => charge_any AK0 AV nk0 ck0 nv cv fl0 ex0 sq0 bb0 w
  obtain ⟨-, rv, -, -, -⟩ := r0
  have hcv : nv0 ≤ 140737488351232 := by have := rv.cap; omega
  clear s0
  unfold itmV at *
  have HC := Lib.hid hch
  clear hch
  have b := below_a1' (Below.refl w.heap.size w) (.cells #[.slice AK0 nk0 ck0, .slice AV0 nv0 cv0, .int .u32 (fl0 : Int), .int .u32 (ex0 : Int), .int .u64 (sq0 : Int), .bool bb0] 26)
  have k0 := Blk.new w #[.slice AK0 nk0 ck0, .slice AV0 nv0 cv0, .int .u32 (fl0 : Int), .int .u32 (ex0 : Int), .int .u64 (sq0 : Int), .bool bb0] 26
  replace rv := (rv.alloc (Nat.le_refl _) (.cells #[.slice AK0 nk0 ck0, .slice AV0 nv0 cv0, .int .u32 (fl0 : Int), .int .u32 (ex0 : Int), .int .u64 (sq0 : Int), .bool bb0] 26)).more (B' := (w.alloc (.cells #[.slice AK0 nk0 ck0, .slice AV0 nv0 cv0, .int .u32 (fl0 : Int), .int .u32 (ex0 : Int), .int .u64 (sq0 : Int), .bool bb0] 26)).heap.size) (by simp)
  go_enter Try.func5, Try.ntmps5
  go_wp2_with fail
  refine (wakes25 _).mono ?_
  rintro e w1 ⟨rfl, b1⟩
  replace k0 := k0.step b1
  replace rv := rv.step b1
  replace b := below_step b b1
  clear b1
  obtain ⟨d0, d1, d2, d3, d4, d5⟩ := box6 k0
  go_wp2_with fail
  refine (HC.out _ _ _ _).mono ?_
  rintro e w2 ⟨rfl, b2⟩
  replace k0 := k0.step b2
  replace rv := rv.step b2
  replace b := below_step b b2
  clear b2
  clear d0 d1 d2 d3 d4 d5
  obtain ⟨d0, d1, d2, d3, d4, d5⟩ := box6 k0
  cases hrr : rightI sq0 nk0 nv0
  · rw [chV_no hrr]
    clear hrr
    go_wp2_with fail
    go_ret
    exact ⟨rfl, b⟩
  · rw [chV_yes hrr]
    have hk : 1 ≤ nk0 ∧ nk0 ≤ 250 ∧ nv0 ≤ 512 ∧ 0 < sq0 := of_decide_eq_true hrr
    obtain ⟨hk1, hk2, hk3, hk4⟩ := hk
    have hn1 : 1 ≤ chI nk0 nv0 ∧ chI nk0 nv0 ≤ 17 := by unfold chI; omega
    have hn2 : chI nk0 nv0 ≤ chI nk0 (nv0 + 1) ∧ chI nk0 (nv0 + 1) ≤ chI nk0 nv0 + 1 := by unfold chI; omega
    clear hrr
    have hlt := k0.lt
    go_wp2_with (at_builtin; refine wpList_app8 _ rfl _ _ rfl (w2.heap.size + 1) (some ⟨w2.heap.size + 1, 0, none⟩) 0 0 [] rfl (Own.emptyK (w2.alloc _) (w2.heap.size + 1) _ (by simp) (Nat.le_refl _)) w2.heap.size AV0 nv0 cv0 lv0 rfl ((rv.alloc (Nat.le_refl _) _).alloc (by simp) _) (by omega) (by simp) ?_)
    intro A3 c3 w3 o3 b3
    have kx : Blk w3 w.heap.size _ _ := (b3.block w.heap.size (by omega)).trans ((k0.alloc _).alloc _)
    have ky : Blk w3 w2.heap.size _ _ := (b3.block w2.heap.size (by omega)).trans ((Blk.new w2 #[.slice AK0 nk0 ck0, .slice AV0 nv0 cv0, .int .u32 (fl0 : Int), .int .u32 (ex0 : Int), .int .u64 (sq0 : Int), .bool bb0] 26).alloc _)
    have hsz := b3.size
    replace b := (below_a1' (below_a1' b _) _).trans (b3.mono (by have := b.size; omega))
    clear d0 d1 d2 d3 d4 d5 b3 k0 rv
    obtain ⟨d0, d1, d2, d3, d4, d5⟩ := box6 kx
    obtain ⟨e0, e1, e2, e3, e4, e5⟩ := box6 ky
    go_wp2_with (at_builtin; refine wpList_app8 _ rfl _ _ rfl (w2.heap.size + 1) A3 nv0 c3 lv0 rfl (o3.alloc _) (w3.heap.size + 1) (some ⟨w3.heap.size, 0, none⟩) 1 1 [UInt8.ofNat x1] rfl (Rd.one w3 _ _ (cb_nat m1)) (by omega) (by simp at hsz ⊢; omega) ?_)
    intro A4 c4 w4 o4 b4
    replace kx : Blk w4 w.heap.size _ _ := (b4.block w.heap.size (by omega)).trans (kx.alloc _)
    replace ky : Blk w4 w2.heap.size _ _ := (b4.block w2.heap.size (by omega)).trans (ky.alloc _)
    replace b := (below_a1' b _).trans (b4.mono (by omega))
    clear d0 d1 d2 d3 d4 d5 e0 e1 e2 e3 e4 e5 b4 o3 o4
    obtain ⟨d0, d1, d2, d3, d4, d5⟩ := box6 kx
    obtain ⟨e0, e1, e2, e3, e4, e5⟩ := box6 ky
    have f1 := ky.frozen 1
    have b5 := b.setCell (p := ⟨w2.heap.size, 1, none⟩) (by show w.heap.size ≤ w2.heap.size; omega) (.slice A4 (nv0 + 1) c4)
    have kz := kx.far (p := ⟨w2.heap.size, 1, none⟩) (by show w.heap.size ≠ w2.heap.size; omega) (.slice A4 (nv0 + 1) c4)
    clear ky kx b
    have b := b5
    clear b5
    go_wp2_with fail
    refine (HC.out A4 (nv0 + 1) c4 _).mono ?_
    rintro e w5 ⟨rfl, b6⟩
    replace b := below_step b b6
    replace kz := kz.step b6
    clear b6 d0 d1 d2 d3 d4 d5 e0 e1 e2 e3 e4 e5 f1 hsz
    obtain ⟨d0, d1, d2, d3, d4, d5⟩ := box6 kz
    obtain ⟨hn3, hn4⟩ := hn1
    obtain ⟨hn5, hn6⟩ := hn2
    generalize chI nk0 nv0 = q at hn3 hn4 hn5 hn6 ⊢
    by_cases h5 : nv0 = 512
    · rw [chV_no (by unfold rightI; exact decide_eq_false (by omega))]
      have h512 := eq0 (x := nv0) (c := 512) (by omega)
      clear h5
      go_wp2_with fail
      go_ret
      exact ⟨rfl, b⟩
    · rw [chV_yes (by unfold rightI; exact decide_eq_true (by omega))]
      have h512 := ne0 (x := nv0) (c := 512) (by omega)
      clear h5
      generalize chI nk0 (nv0 + 1) = q2 at hn5 hn6 ⊢
      go_wp2_with fail
      go_ret
      exact ⟨ret_bool (decide_eq_true (by omega)), b⟩


set_option maxRecDepth 100000 in
theorem lifted_spaceMost (os : Os) (started : os.Started) (H : Type) (enc : TypeId × Value → H) :
    ReturnsInHanded {} Try.checked os 5 .any (Rows.spaceMostSpec.pre6 enc Try.prog Try.f5 Rows.spaceMostRow.domain false) (Rows.spaceMostSpec.post enc Try.prog Try.f5 false true false false) := by
  refine returnsInHanded_of_change_sized (C := Try.checked) own started (by kernel_rfl) Try.func5
    (ChangeSpec.witness6 (enc := enc) (C := Try.checked) false ⟨#[], #[.agg #[.slice none 0 0, .slice none 0 0, .int .u32 0, .int .u32 0, .int .u64 0, .bool false], .int .u8 0], []⟩ 8 (by kernel_rfl) (by kernel_rfl) (by kernel_rfl) (by kernel_rfl)) ?_
  intro W base args ds gs before hval0 hW hcnd hsz0 _
  have hval : ∀ (j : Nat) t v, Try.f5.params[j]? = some t → args[j]? = some v → Value.okWide Try.prog W .any base t v := hval0
  have hsz : (DataW.weightsEach Try.prog (Try.f5.params.toList ++ Rows.spaceMostSpec.plain.varTypes Try.prog) (ds ++ gs)).all (· ≤ reachBytes) = true := hsz0
  have hW' := hW
  obtain ⟨p, q, hA0, hV, rfl, hfz, hnd⟩ := hW
  have hA : DataW.TrodAll enc Try.prog W 0 (fun _ => true) true Try.f5.params.toList args.toList ds p := hA0
  rw [Try.params5] at hA hval hsz
  obtain ⟨v0, vs0, d0, ds0, p0, q0, hargs, rfl, rfl, h0, t0⟩ := trodAll_cons hA
  obtain ⟨v1, vs1, d1, ds1, p1, q1, rfl, rfl, rfl, h1, t1⟩ := trodAll_cons t0
  obtain ⟨rfl, rfl, rfl⟩ := trodAll_nil t1
  obtain rfl : args = #[v0, v1] := by cases args; simp_all
  obtain ⟨rfl, rfl⟩ := trodVars_none hV
  have k0 := h0
  obtain ⟨AK0, nk0, ck0, lk0, AV0, nv0, cv0, lv0, fl0, ex0, sq0, bb0, rfl, r0, y0⟩ := open_item (hval 0 26 v0 rfl rfl) h0
  have s0 := y0 (weights_of hsz (j := 0) rfl rfl)
  have k1 := h1
  obtain ⟨z1, rfl, rfl, rfl, wf1⟩ := open_int Try.underlying5 (hval 1 5 v1 rfl rfl) h1
  obtain ⟨x1, rfl, m1⟩ := wf_nat (M := 255) wf1 rfl rfl
  clear hA0 hval0
  refine (walk_spaceMost AK0 nk0 ck0 lk0 AV0 nv0 cv0 lv0 fl0 ex0 sq0 bb0 x1 W r0 s0 m1).mono fun e W' ⟨he, bel⟩ => ?_
  subst he
  exact ⟨_, rfl, _, _, _, [], _, [], hW', trodAll_mk1 (shut_bool Try.underlying4 _), (trodAll_cons_mk (Below.trod laidOut (by kernel_rfl) (of_decide_eq_true (by kernel_rfl)) k0 bel (trod_places k0)) (trodAll_cons_mk (Below.trod laidOut (by kernel_rfl) (of_decide_eq_true (by kernel_rfl)) k1 bel (trod_places k1)) trodAll_mk0)), rfl, bel.frame _, fun h => by cases h⟩

theorem over_spaceMost : Rows.spaceMostRow.holds Try.pinned (OpenSpec.ofChange Rows.spaceMostSpec) :=
  OpenClaim.holds_of_wide 5 Try.f5 rfl rfl rfl rfl rfl rfl rfl ⟨rfl, rfl, rfl, rfl, rfl⟩ rfl rfl rfl rfl rfl (by kernel_rfl) Try.func5 (by kernel_rfl)
    (of_decide_eq_true (by kernel_rfl)) (by unfold Func.isWrapper; first | (rw [if_pos (by decide +kernel)]; kernel_rfl) | (rw [if_neg (by decide +kernel)]; exact ⟨rfl, rfl⟩))
    (fun os started H enc _ => lifted_spaceMost os started H enc)

/-- The statement. -/
theorem spaceMost_holds : Rows.SpaceMostSaid := over_spaceMost
#print axioms spaceMost_holds

end Go.Proofs.Ytbofnmlddpbfeaa

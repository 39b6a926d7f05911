/- OctetHolds: bytes held against each other, and asked for noughts, as the document says, for every two slices of bytes. Conditions: none. -/
import Derived.Test.YtbofnmlddpbfeaaWake01
import Derived.Test.YtbofnmlddpbfeaaOpen
namespace Go.Proofs.Ytbofnmlddpbfeaa
set_option linter.unusedVariables false
open Go.ChangeShapes Go.WideShapes Go.ChangeAt Go.RowKit

theorem zeroB_step {l : List UInt8} {k : Nat} {x : UInt8} (h : l[k]? = some x) : zeroB (l.take (k + 1)) = (zeroB (l.take k) && x == 0) := by
  rw [take_snoc_of h]; simp [zeroB]
theorem eqB_refl (l : List UInt8) : eqB l l = true := decide_eq_true rfl
theorem u8_zero {x : UInt8} : ((x.toNat : Int) == 0) = (x == 0) := by
  rw [Bool.eq_iff_iff]
  simp [← UInt8.toNat_inj]

set_option maxHeartbeats 400000 in
theorem walk_octetHolds (A0 : Option Addr) (n0 c0 : Nat) (l0 : List UInt8) (A1 : Option Addr) (n1 c1 : Nat) (l1 : List UInt8) (w : World) (r0 : Rd w w.heap.size A0 n0 c0 l0) (s0 : c0 ≤ 140737488351232) (r1 : Rd w w.heap.size A1 n1 c1 l1) (s1 : c1 ≤ 140737488351232) :
    Calls Try.prog 6 #[.slice A0 n0 c0, .slice A1 n1 c1] w fun e w' => e = .returned (.bool true) ∧ Below w.heap.size w w' := by
  have hcap := r0.cap
  go_enter Try.func6, Try.ntmps6
  go_wp2_with fail
  refine (wakes01 w).mono ?_
  rintro e w1 ⟨rfl, b1⟩
  have q0 := r0.below b1
  have q1 := r1.below b1
  have m1 : (n0 : Int) ≤ 9223372036854775807 := by omega
  go_wp2_with fail
  go_loop [5, 12] (fun x i => ∃ k : Nat, k ≤ n0 ∧ i = .int .i64 k ∧ x = .bool (zeroB (l0.take k))) (fun _ i => n0 - (intOf i).toNat)
  case atStart => exact ⟨0, Nat.zero_le _, rfl, rfl⟩
  case round =>
    obtain ⟨k, hk, rfl, rfl⟩ := hrel
    by_cases hlt : k < n0
    · obtain ⟨a1, x1, rfl, -, hx1, hc1⟩ := q0.at_ hlt
      have hz := Lib.hid (zeroB_step hx1)
      cases hzk : zeroB (l0.take k)
      · go_wp2
        go_round
        case rel => exact ⟨k + 1, by omega, by go_num, by rw [hz.out, hzk]; rfl⟩
        case measure => simp [intOf]; omega
      · go_wp2
        go_round
        case rel => exact ⟨k + 1, by omega, by go_num, by rw [hz.out, hzk, u8_zero]; rfl⟩
        case measure => simp [intOf]; omega
    · have hkn : k = n0 := by omega
      rw [List.take_of_length_le (by rw [r0.len]; omega)]
      go_wp2_with fail
      refine (equal_any A0 A1 n0 c0 n1 c1 w.heap.size l0 l1 _ q0 q1).mono ?_
      rintro e w2 ⟨rfl, hq⟩
      have b2 := b1.trans (quiet_below hq _)
      have q0 := q0.below (quiet_below hq _)
      have q1 := q1.below (quiet_below hq _)
      clear hq
      go_wp2_with fail
      refine (same_any A0 A1 n0 c0 n1 c1 w.heap.size l0 l1 _ q0 q1).mono ?_
      rintro e w3 ⟨rfl, hq⟩
      have b3 := b2.trans (quiet_below hq _)
      have q0 := q0.below (quiet_below hq _)
      clear hq
      generalize eqB l0 l1 = b
      go_wp2_with (at_builtin; refine wpList_app8 _ rfl _ _ rfl w3.heap.size (some ⟨w3.heap.size, 0, none⟩) 0 0 [] rfl (Own.empty w3 _ (Nat.le_refl _)) w.heap.size A0 n0 c0 l0 rfl (q0.alloc b3.size _) (by omega) (by simp) ?_)
      intro A2 c2 w4 ho hb
      have b4 := (below_a1 (Below.refl w3.heap.size w3) (Nat.le_refl _) _).trans hb
      have q0 := (q0.more b3.size).below b4
      have b4 := b3.trans (b4.mono b3.size)
      have ho : Own w4 w3.heap.size A2 n0 c2 l0 := by simpa using ho
      clear hb
      go_wp2_with fail
      refine (equal_any A0 A2 n0 c0 n0 c2 w4.heap.size l0 l0 _ (r0.below b4 |>.more b4.size) ho.rd).mono ?_
      rintro e w5 ⟨rfl, hq⟩
      have b5 := b4.trans (quiet_below hq _)
      clear hq
      rw [eqB_refl]
      go_wp2_with fail
      refine (zero_any A0 n0 c0 w.heap.size l0 _ (r0.below b5)).mono ?_
      rintro e w6 ⟨rfl, hq⟩
      subst hq
      generalize zeroB l0 = b2
      go_wp2_with fail
      go_ret
      exact ⟨by cases b <;> cases b2 <;> rfl, b5⟩


set_option maxRecDepth 100000 in
theorem lifted_octetHolds (os : Os) (started : os.Started) (H : Type) (enc : TypeId × Value → H) :
    ReturnsInHanded {} Try.checked os 6 .any (Rows.octetHoldsSpec.pre6 enc Try.prog Try.f6 Rows.octetHoldsRow.domain false) (Rows.octetHoldsSpec.post enc Try.prog Try.f6 false true false false) := by
  refine returnsInHanded_of_change_sized (C := Try.checked) own started (by kernel_rfl) Try.func6
    (ChangeSpec.witness6 (enc := enc) (C := Try.checked) false ⟨#[], #[.slice none 0 0, .slice none 0 0], []⟩ 8 (by kernel_rfl) (by kernel_rfl) (by kernel_rfl) (by kernel_rfl)) ?_
  intro W base args ds gs before hval0 hW hcnd hsz0 _
  have hval : ∀ (j : Nat) t v, Try.f6.params[j]? = some t → args[j]? = some v → Value.okWide Try.prog W .any base t v := hval0
  have hsz : (DataW.weightsEach Try.prog (Try.f6.params.toList ++ Rows.octetHoldsSpec.plain.varTypes Try.prog) (ds ++ gs)).all (· ≤ reachBytes) = true := hsz0
  have hW' := hW
  obtain ⟨p, q, hA0, hV, rfl, hfz, hnd⟩ := hW
  have hA : DataW.TrodAll enc Try.prog W 0 (fun _ => true) true Try.f6.params.toList args.toList ds p := hA0
  rw [Try.params6] at hA hval hsz
  obtain ⟨v0, vs0, d0, ds0, p0, q0, hargs, rfl, rfl, h0, t0⟩ := trodAll_cons hA
  obtain ⟨v1, vs1, d1, ds1, p1, q1, rfl, rfl, rfl, h1, t1⟩ := trodAll_cons t0
  obtain ⟨rfl, rfl, rfl⟩ := trodAll_nil t1
  obtain rfl : args = #[v0, v1] := by cases args; simp_all
  obtain ⟨rfl, rfl⟩ := trodVars_none hV
  have k0 := h0
  obtain ⟨A0, n0, c0, l0, rfl, r0, y0⟩ := open_bytes (hval 0 22 v0 rfl rfl) h0
  have s0 := y0 (weights_of hsz (j := 0) rfl rfl)
  have k1 := h1
  obtain ⟨A1, n1, c1, l1, rfl, r1, y1⟩ := open_bytes (hval 1 22 v1 rfl rfl) h1
  have s1 := y1 (weights_of hsz (j := 1) rfl rfl)
  clear hA0 hval0
  refine (walk_octetHolds A0 n0 c0 l0 A1 n1 c1 l1 W r0 s0 r1 s1).mono fun e W' ⟨he, bel⟩ => ?_
  subst he
  exact ⟨_, rfl, _, _, _, [], _, [], hW', trodAll_mk1 (shut_bool Try.underlying4 _), (trodAll_cons_mk (Below.trod laidOut (by kernel_rfl) (of_decide_eq_true (by kernel_rfl)) k0 bel (trod_places k0)) (trodAll_cons_mk (Below.trod laidOut (by kernel_rfl) (of_decide_eq_true (by kernel_rfl)) k1 bel (trod_places k1)) trodAll_mk0)), rfl, bel.frame _, fun h => by cases h⟩

theorem over_octetHolds : Rows.octetHoldsRow.holds Try.pinned (OpenSpec.ofChange Rows.octetHoldsSpec) :=
  OpenClaim.holds_of_wide 6 Try.f6 rfl rfl rfl rfl rfl rfl rfl ⟨rfl, rfl, rfl, rfl, rfl⟩ rfl rfl rfl rfl rfl (by kernel_rfl) Try.func6 (by kernel_rfl)
    (of_decide_eq_true (by kernel_rfl)) (by unfold Func.isWrapper; first | (rw [if_pos (by decide +kernel)]; kernel_rfl) | (rw [if_neg (by decide +kernel)]; exact ⟨rfl, rfl⟩))
    (fun os started H enc _ => lifted_octetHolds os started H enc)

/-- The statement. -/
theorem octetHolds_holds : Rows.OctetHoldsSaid := over_octetHolds
#print axioms octetHolds_holds

end Go.Proofs.Ytbofnmlddpbfeaa

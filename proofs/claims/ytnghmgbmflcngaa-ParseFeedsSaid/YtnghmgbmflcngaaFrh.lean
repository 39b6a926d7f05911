/- A frame's header in bytes, as the document says. Conditions: typed in each theorem. -/
import Derived.Test.YtnghmgbmflcngaaFra
import Derived.Deep.DeepCutAuto
namespace Go.Proofs.Ytnghmgbmflcngaa
set_option linter.unusedVariables false
open Go.RowKit

set_option maxRecDepth 100000 in
set_option maxHeartbeats 4000000 in
theorem header19_any (mg op kl el ty st bl oq cas : Nat) (hf : HdF mg op kl el ty st bl oq cas) (w : World) :
    Calls Try.prog 117 #[hdV mg op kl el ty st bl oq cas] w (BytesQ 24 (hdB mg op kl el ty st bl oq cas) w) := by
  obtain ⟨f0, f1, f2, f3, f4, f5, f6, f7, f8⟩ := hf
  have k0 : Blk _ _ (hdC mg op kl el ty st bl oq cas) _ := Blk.new w _ 59
  have bd : Below w.heap.size w (w.alloc (.cells (hdC mg op kl el ty st bl oq cas) 59)).drew := (below_a1' (Below.refl _ _) _).drew
  have ba : Below w.heap.size w ((w.alloc (.cells (hdC mg op kl el ty st bl oq cas) 59)).alloc (.cells #[.int .u8 (mg : Int), .int .u8 (op : Int)] 5)).drew := (below_a1' (below_a1' (Below.refl _ _) _) _).drew
  have o1a : Own ((w.alloc (.cells (hdC mg op kl el ty st bl oq cas) 59)).alloc (.cells #[.int .u8 (mg : Int), .int .u8 (op : Int)] 5)).drew 0 (some ⟨w.heap.size + 1, 0, none⟩) 2 2 [UInt8.ofNat mg, UInt8.ofNat op] := own_two f0 f1 0 _ (by simp) (by omega)
  have k0a : Blk ((w.alloc (.cells (hdC mg op kl el ty st bl oq cas) 59)).alloc (.cells #[.int .u8 (mg : Int), .int .u8 (op : Int)] 5)).drew w.heap.size (hdC mg op kl el ty st bl oq cas) 59 := k0.alloc _
  replace k0 : Blk (w.alloc (.cells (hdC mg op kl el ty st bl oq cas) 59)).drew w.heap.size (hdC mg op kl el ty st bl oq cas) 59 := k0
  unfold hdC at bd ba o1a k0a k0
  unfold hdV
  go_enter Try.func117, Try.ntmps117
  go_upto_region 1 with fail
  go_cut [3] (fun s wx => ∃ (A3 : Option Addr) (c3 : Nat), s = .slice A3 4 c3 ∧ Own wx w.heap.size A3 4 c3 ([UInt8.ofNat mg, UInt8.ofNat op] ++ highB kl 2) ∧ Blk wx w.heap.size (hdC mg op kl el ty st bl oq cas) 59 ∧ Below w.heap.size w wx)
  case first =>
    obtain ⟨q0, q1, q2, q3, q4, q5, q6, q7, q8⟩ := box9 k0
    have hw : IntKind.u64.wrap (kl : Int) = (kl : Int) := by rw [IntKind.wrap_u64]; omega
    have hw2 : (kl : Int) % 18446744073709551616 = (kl : Int) := by omega
    go_region_held3 (fun w' => w'.cell? ⟨w.heap.size, 0, none⟩ = some (.int .u8 mg) ∧ w'.cell? ⟨w.heap.size, 1, none⟩ = some (.int .u8 op) ∧ w'.cell? ⟨w.heap.size, 2, none⟩ = some (.int .u16 kl)) (first | (with_reducible exact ⟨q0, q1, q2⟩) | go_keep)
      (first
        | (go_at_call 81
           (first | rw [hw] | rw [hw2] | skip)
           refine (high_any kl 2 (by omega) (by omega) _).mono ?_
           rintro e w2 ⟨A2, c2, rfl, o2, b2⟩
           first
             | (have b := by with_reducible exact below_step ba b2
                have k1 := k0a.step b2
                have o1 := o1a.rd.step b2)
             | (have b := by with_reducible exact below_step bd b2
                have k1 := k0.step b2)
           clear q0 q1 q2 q3 q4 q5 q6 q7 q8 k0 k0a o1a ba bd
           obtain ⟨q0, q1, q2, q3, q4, q5, q6, q7, q8⟩ := box9 k1)
        | (go_at_call 82
           refine (both_any (some ⟨w.heap.size + 1, 0, none⟩) A2 2 2 2 c2 _ [UInt8.ofNat mg, UInt8.ofNat op] _ _ o1 o2.rd (Nat.le_refl _) (by omega)).mono ?_
           rintro e w3 ⟨A3, c3, rfl, o3, b3⟩
           replace k1 := k1.step b3
           have hw3 := b.size
           replace b := below_step b b3
           replace o3 := o3.more hw3
           clear q0 q1 q2 q3 q4 q5 q6 q7 q8 hw3
           obtain ⟨q0, q1, q2, q3, q4, q5, q6, q7, q8⟩ := box9 k1)
        | (go_at_call 82
           refine (both_any (some ⟨w2.heap.size, 0, none⟩) A2 2 2 2 c2 _ [UInt8.ofNat mg, UInt8.ofNat op] _ _ (Own.rd (own_two f0 f1 0 _ rfl (by omega))) ((o2.rd.alloc (Nat.le_refl _) _).more (by simp)) (Nat.le_refl _) (by omega)).mono ?_
           rintro e w3 ⟨A3, c3, rfl, o3, b3⟩
           replace k1 := (k1.alloc _).step b3
           have hw3 := (below_a1 b (Nat.le_refl _) (.cells #[.int .u8 (mg : Int), .int .u8 (op : Int)] 5)).size
           replace b := below_step (below_a1 b (Nat.le_refl _) _) b3
           replace o3 := o3.more hw3
           clear q0 q1 q2 q3 q4 q5 q6 q7 q8 hw3
           obtain ⟨q0, q1, q2, q3, q4, q5, q6, q7, q8⟩ := box9 k1))
    all_goals
      go_wp2_with fail
      go_meet
      exact ⟨A3, c3, rfl, o3, k1, b⟩
  case rest =>
    obtain ⟨A3, c3, rfl, o3, k1, b⟩ := hcut
    clear k0 k0a bd ba o1a
    obtain ⟨w3, rfl⟩ : ∃ w3 : World, w3 = wc := ⟨_, rfl⟩
    obtain ⟨q0, q1, q2, q3, q4, q5, q6, q7, q8⟩ := box9 k1
    go_wp2_with fail
    have r1 : Rd (w3.alloc (.cells #[.int .u8 (el : Int), .int .u8 (ty : Int)] 5)) (w3.heap.size + 1) A3 4 c3 ([UInt8.ofNat mg, UInt8.ofNat op] ++ highB kl 2) := (o3.rd.alloc (Nat.le_refl _) _).more (Nat.le_succ _)
    have r2 : Rd (w3.alloc (.cells #[.int .u8 (el : Int), .int .u8 (ty : Int)] 5)) (w3.heap.size + 1) (some ⟨w3.heap.size, 0, none⟩) 2 2 [UInt8.ofNat el, UInt8.ofNat ty] := (Own.rd (own_two (w := w3) f3 f4 0 _ rfl (Nat.zero_le _))).more (by simp)
    refine (both_any A3 (some ⟨w3.heap.size, 0, none⟩) 4 c3 2 2 (w3.heap.size + 1) _ _ _ r1 r2 (by simp) (by omega)).mono ?_
    rintro e w4 ⟨A4, c4, rfl, o4, b4⟩
    replace k1 := (k1.alloc _).step b4
    replace b := below_step (below_a1 b (Nat.le_refl _) _) b4
    clear q0 q1 q2 q3 q4 q5 q6 q7 q8 o3 b4 r1 r2
    obtain ⟨q0, q1, q2, q3, q4, q5, q6, q7, q8⟩ := box9 k1
    go_wp2_with fail
    refine (high_any st 2 (by omega) (by omega) _).mono ?_
    rintro e w5 ⟨A5, c5, rfl, o5, b5⟩
    replace k1 := k1.step b5
    replace o4 := o4.rd.step b5
    replace b := below_step b b5
    clear q0 q1 q2 q3 q4 q5 q6 q7 q8
    obtain ⟨q0, q1, q2, q3, q4, q5, q6, q7, q8⟩ := box9 k1
    go_wp2_with fail
    refine (both_any A4 A5 6 c4 2 c5 _ _ _ _ o4 o5.rd (Nat.le_refl _) (by omega)).mono ?_
    rintro e w6 ⟨A6, c6, rfl, o6, b6⟩
    replace k1 := k1.step b6
    have hsz := b.size
    replace b := below_step b b6
    clear q0 q1 q2 q3 q4 q5 q6 q7 q8 o4 o5 b5 b6
    replace o6 := o6.more hsz
    clear hsz
    obtain ⟨q0, q1, q2, q3, q4, q5, q6, q7, q8⟩ := box9 k1
    go_wp2_with fail
    refine (high_any bl 4 (by omega) (by omega) _).mono ?_
    rintro e w7 ⟨A7, c7, rfl, o7, b7⟩
    replace k1 := k1.step b7
    replace o6 := o6.rd.step b7
    replace b := below_step b b7
    clear q0 q1 q2 q3 q4 q5 q6 q7 q8
    obtain ⟨q0, q1, q2, q3, q4, q5, q6, q7, q8⟩ := box9 k1
    go_wp2_with fail
    refine (both_any A6 A7 8 c6 4 c7 _ _ _ _ o6 o7.rd (Nat.le_refl _) (by omega)).mono ?_
    rintro e w8 ⟨A8, c8, rfl, o8, b8⟩
    replace k1 := k1.step b8
    have hsz := b.size
    replace b := below_step b b8
    clear q0 q1 q2 q3 q4 q5 q6 q7 q8 o6 o7 b7 b8
    replace o8 := o8.more hsz
    clear hsz
    obtain ⟨q0, q1, q2, q3, q4, q5, q6, q7, q8⟩ := box9 k1
    go_wp2_with fail
    refine (high_any oq 4 (by omega) (by omega) _).mono ?_
    rintro e w9 ⟨A9, c9, rfl, o9, b9⟩
    replace k1 := k1.step b9
    replace o8 := o8.rd.step b9
    replace b := below_step b b9
    clear q0 q1 q2 q3 q4 q5 q6 q7 q8
    obtain ⟨q0, q1, q2, q3, q4, q5, q6, q7, q8⟩ := box9 k1
    go_wp2_with fail
    refine (both_any A8 A9 12 c8 4 c9 _ _ _ _ o8 o9.rd (Nat.le_refl _) (by omega)).mono ?_
    rintro e w10 ⟨A10, c10, rfl, o10, b10⟩
    replace k1 := k1.step b10
    have hsz := b.size
    replace b := below_step b b10
    clear q0 q1 q2 q3 q4 q5 q6 q7 q8 o8 o9 b9 b10
    replace o10 := o10.more hsz
    clear hsz
    obtain ⟨q0, q1, q2, q3, q4, q5, q6, q7, q8⟩ := box9 k1
    go_wp2_with fail
    refine (high_any cas 8 (by omega) (by omega) _).mono ?_
    rintro e w11 ⟨A11, c11, rfl, o11, b11⟩
    replace k1 := k1.step b11
    replace o10 := o10.rd.step b11
    replace b := below_step b b11
    clear q0 q1 q2 q3 q4 q5 q6 q7 q8
    obtain ⟨q0, q1, q2, q3, q4, q5, q6, q7, q8⟩ := box9 k1
    go_wp2_with fail
    refine (both_any A10 A11 16 c10 8 c11 _ _ _ _ o10 o11.rd (Nat.le_refl _) (by omega)).mono ?_
    rintro e w12 ⟨A12, c12, rfl, o12, b12⟩
    replace k1 := k1.step b12
    have hsz := b.size
    replace b := below_step b b12
    clear q0 q1 q2 q3 q4 q5 q6 q7 q8 o10 o11 b11 b12
    replace o12 := o12.more hsz
    clear hsz
    obtain ⟨q0, q1, q2, q3, q4, q5, q6, q7, q8⟩ := box9 k1
    go_wp2_with fail
    go_ret
    exact ⟨A12, c12, rfl, o12, b⟩
end Go.Proofs.Ytnghmgbmflcngaa

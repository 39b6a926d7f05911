/- icehouseref06.Bytes. Conditions: typed in each theorem. -/
import Derived.Test.YtkdkmdjfimnkaaaRed
namespace Go.Proofs.Ytkdkmdjfimnkaaa
set_option linter.unusedVariables false
open Go.RowKit

/-- A record's bytes. -/
def recB (kd fl ex sq : Nat) (lk lv : List UInt8) : List UInt8 := [UInt8.ofNat kd] ++ highB fl 4 ++ highB ex 4 ++ highB sq 8 ++ highB lk.length 2 ++ highB lv.length 2 ++ lk ++ lv
def RecBytes (n : Nat) (l : List UInt8) (w : World) (e : Ending) (w' : World) : Prop := ∃ A' c', e = .returned (.slice A' n c') ∧ Own w' w.heap.size A' n c' l ∧ Below w.heap.size w w'
theorem cb_of {x : Nat} (h : x < 256) : Value.int .u8 (x : Int) = cb (UInt8.ofNat x) := by
  unfold cb
  rw [show (UInt8.ofNat x).toNat = x from by simp; omega]
set_option maxRecDepth 20000 in
set_option maxHeartbeats 4000000 in
theorem rbytes06 (kd fl ex sq : Nat) (hkd : kd < 256) (hfl : fl < 4294967296) (hex : ex < 4294967296) (hsq : sq < 18446744073709551616) (AK AV : Option Addr) (nk ck nv cv : Nat) (hnk : nk ≤ 60000) (hnv : nv ≤ 60000) (lk lv : List UInt8) (w : World)
    (rk : Rd w w.heap.size AK nk ck lk) (rv : Rd w w.heap.size AV nv cv lv) :
    Calls Try.prog 25 #[recV (kd : Int) fl ex sq (.slice AK nk ck) (.slice AV nv cv)] w (RecBytes (21 + nk + nv) (recB kd fl ex sq lk lv) w) := by
  have k0 := (Blk.new w #[.int .i64 (kd : Int), .int .u32 (fl : Int), .int .u32 (ex : Int), .int .u64 (sq : Int), .slice AK nk ck, .slice AV nv cv] 26).alloc (.cells #[.int .u8 (kd : Int)] 5)
  have b : Below w.heap.size w ((w.alloc (.cells #[.int .i64 (kd : Int), .int .u32 (fl : Int), .int .u32 (ex : Int), .int .u64 (sq : Int), .slice AK nk ck, .slice AV nv cv] 26)).alloc (.cells #[.int .u8 (kd : Int)] 5)) := below_a1' (below_a1' (Below.refl _ _) _) _
  have o0 : Own ((w.alloc (.cells #[.int .i64 (kd : Int), .int .u32 (fl : Int), .int .u32 (ex : Int), .int .u64 (sq : Int), .slice AK nk ck, .slice AV nv cv] 26)).alloc (.cells #[.int .u8 (kd : Int)] 5)) (w.heap.size + 1) (some ⟨w.heap.size + 1, 0, none⟩) 1 1 [UInt8.ofNat kd] :=
    Own.litK _ (w.heap.size + 1) _ (w.heap.size + 1) 1 _ (by simp) (Nat.le_refl _) (by simp [maxLen]) rfl (by rw [cb_of hkd]; rfl)
  have hlk := rk.len
  have hlv := rv.len
  have HRB := Lib.hid (show recB kd fl ex sq lk lv = [UInt8.ofNat kd] ++ highB fl 4 ++ highB ex 4 ++ highB sq 8 ++ highB nk 2 ++ highB nv 2 ++ lk ++ lv from by unfold recB; rw [hlk, hlv])
  have hb1 : w.heap.size + 1 ≤ ((w.alloc (.cells #[.int .i64 (kd : Int), .int .u32 (fl : Int), .int .u32 (ex : Int), .int .u64 (sq : Int), .slice AK nk ck, .slice AV nv cv] 26)).alloc (.cells #[.int .u8 (kd : Int)] 5)).heap.size := by simp
  clear hlk hlv
  unfold recV
  go_enter Try.func25, Try.ntmps25
  go_wp2_with fail
  refine (high06_any fl 4 (by omega) (by omega) _).mono ?_
  rintro e w1 ⟨A1, c1, rfl, o1, b1⟩
  replace k0 := k0.step b1
  have p1 := o0.step b1
  have hb1' : w.heap.size + 1 ≤ w1.heap.size := Nat.le_trans hb1 b1.size
  replace b := below_step b b1
  clear o0 b1 hb1
  go_wp2_with (at_builtin; refine wpList_app8 _ rfl _ _ rfl (w.heap.size + 1) (some ⟨w.heap.size + 1, 0, none⟩) 1 1 _ rfl p1 _ A1 4 c1 _ rfl o1.rd (by omega) hb1' ?_)
  intro A2 c2 w2 o2 b2
  replace k0 : Blk w2 w.heap.size _ _ := (b2.block _ (Nat.lt_succ_self _)).trans k0
  have hb1 : w.heap.size + 1 ≤ w2.heap.size := Nat.le_trans hb1' b2.size
  replace b := b.trans (b2.mono (Nat.le_succ _))
  clear p1 o1 b2 hb1'
  obtain ⟨q0, q1, q2, q3, q4, q5⟩ := box6 k0
  go_wp2_with fail
  clear q0 q1 q2 q3 q4 q5
  refine (high06_any ex 4 (by omega) (by omega) _).mono ?_
  rintro e w3 ⟨A3, c3, rfl, o3, b3⟩
  replace k0 := k0.step b3
  have p3 := o2.step b3
  have hb3' : w.heap.size + 1 ≤ w3.heap.size := Nat.le_trans hb1 b3.size
  replace b := below_step b b3
  clear o2 b3 hb1
  go_wp2_with (at_builtin; refine wpList_app8 _ rfl _ _ rfl (w.heap.size + 1) A2 (1 + 4) c2 _ rfl p3 _ A3 4 c3 _ rfl o3.rd (by omega) hb3' ?_)
  intro A4 c4 w4 o4 b4
  replace k0 : Blk w4 w.heap.size _ _ := (b4.block _ (Nat.lt_succ_self _)).trans k0
  have hb1 : w.heap.size + 1 ≤ w4.heap.size := Nat.le_trans hb3' b4.size
  replace b := b.trans (b4.mono (Nat.le_succ _))
  clear p3 o3 b4 hb3'
  obtain ⟨q0, q1, q2, q3, q4, q5⟩ := box6 k0
  go_wp2_with fail
  clear q0 q1 q2 q3 q4 q5
  refine (high06_any sq 8 (by omega) (by omega) _).mono ?_
  rintro e w5 ⟨A5, c5, rfl, o5, b5⟩
  replace k0 := k0.step b5
  have p5 := o4.step b5
  have hb5' : w.heap.size + 1 ≤ w5.heap.size := Nat.le_trans hb1 b5.size
  replace b := below_step b b5
  clear o4 b5 hb1
  go_wp2_with (at_builtin; refine wpList_app8 _ rfl _ _ rfl (w.heap.size + 1) A4 ((1 + 4) + 4) c4 _ rfl p5 _ A5 8 c5 _ rfl o5.rd (by omega) hb5' ?_)
  intro A6 c6 w6 o6 b6
  replace k0 : Blk w6 w.heap.size _ _ := (b6.block _ (Nat.lt_succ_self _)).trans k0
  have hb1 : w.heap.size + 1 ≤ w6.heap.size := Nat.le_trans hb5' b6.size
  replace b := b.trans (b6.mono (Nat.le_succ _))
  clear p5 o5 b6 hb5'
  obtain ⟨q0, q1, q2, q3, q4, q5⟩ := box6 k0
  go_wp2_with fail
  clear q0 q1 q2 q3 q4 q5
  refine (high06_any nk 2 (by omega) (by omega) _).mono ?_
  rintro e w7 ⟨A7, c7, rfl, o7, b7⟩
  replace k0 := k0.step b7
  have p7 := o6.step b7
  have hb7' : w.heap.size + 1 ≤ w7.heap.size := Nat.le_trans hb1 b7.size
  replace b := below_step b b7
  clear o6 b7 hb1
  go_wp2_with (at_builtin; refine wpList_app8 _ rfl _ _ rfl (w.heap.size + 1) A6 (((1 + 4) + 4) + 8) c6 _ rfl p7 _ A7 2 c7 _ rfl o7.rd (by omega) hb7' ?_)
  intro A8 c8 w8 o8 b8
  replace k0 : Blk w8 w.heap.size _ _ := (b8.block _ (Nat.lt_succ_self _)).trans k0
  have hb1 : w.heap.size + 1 ≤ w8.heap.size := Nat.le_trans hb7' b8.size
  replace b := b.trans (b8.mono (Nat.le_succ _))
  clear p7 o7 b8 hb7'
  obtain ⟨q0, q1, q2, q3, q4, q5⟩ := box6 k0
  go_wp2_with fail
  clear q0 q1 q2 q3 q4 q5
  refine (high06_any nv 2 (by omega) (by omega) _).mono ?_
  rintro e w9 ⟨A9, c9, rfl, o9, b9⟩
  replace k0 := k0.step b9
  have p9 := o8.step b9
  have hb9' : w.heap.size + 1 ≤ w9.heap.size := Nat.le_trans hb1 b9.size
  replace b := below_step b b9
  clear o8 b9 hb1
  go_wp2_with (at_builtin; refine wpList_app8 _ rfl _ _ rfl (w.heap.size + 1) A8 ((((1 + 4) + 4) + 8) + 2) c8 _ rfl p9 _ A9 2 c9 _ rfl o9.rd (by omega) hb9' ?_)
  intro A10 c10 w10 o10 b10
  replace k0 : Blk w10 w.heap.size _ _ := (b10.block _ (Nat.lt_succ_self _)).trans k0
  have hb1 : w.heap.size + 1 ≤ w10.heap.size := Nat.le_trans hb9' b10.size
  replace b := b.trans (b10.mono (Nat.le_succ _))
  clear p9 o9 b10 hb9'
  obtain ⟨q0, q1, q2, q3, q4, q5⟩ := box6 k0
  go_wp2_with (at_builtin; refine wpList_app8 _ rfl _ _ rfl (w.heap.size + 1) A10 (((((1 + 4) + 4) + 8) + 2) + 2) c10 _ rfl o10 _ AK nk ck _ rfl (rk.below b) (by omega) hb1 ?_)
  intro A11 c11 w11 o11 b11
  replace k0 : Blk w11 w.heap.size _ _ := (b11.block _ (Nat.lt_succ_self _)).trans k0
  replace hb1 : w.heap.size + 1 ≤ w11.heap.size := Nat.le_trans hb1 b11.size
  replace b := b.trans (b11.mono (Nat.le_succ _))
  clear o10 b11 q0 q1 q2 q3 q4 q5
  obtain ⟨q0, q1, q2, q3, q4, q5⟩ := box6 k0
  go_wp2_with (at_builtin; refine wpList_app8 _ rfl _ _ rfl (w.heap.size + 1) A11 ((((((1 + 4) + 4) + 8) + 2) + 2) + nk) c11 _ rfl o11 _ AV nv cv _ rfl (rv.below b) (by omega) hb1 ?_)
  intro A12 c12 w12 o12 b12
  replace k0 : Blk w12 w.heap.size _ _ := (b12.block _ (Nat.lt_succ_self _)).trans k0
  replace hb1 : w.heap.size + 1 ≤ w12.heap.size := Nat.le_trans hb1 b12.size
  replace b := b.trans (b12.mono (Nat.le_succ _))
  clear o11 b12 q0 q1 q2 q3 q4 q5
  obtain ⟨q0, q1, q2, q3, q4, q5⟩ := box6 k0
  go_wp2_with fail
  go_ret
  refine ⟨A12, c12, ?_, ?_, b⟩
  · first
    | rfl
    | (rw [show 21 + nk + nv = (((((((1 + 4) + 4) + 8) + 2) + 2) + nk) + nv) from by omega]; rfl)
  · rw [show 21 + nk + nv = (((((((1 + 4) + 4) + 8) + 2) + 2) + nk) + nv) from by omega, HRB]
    exact o12.more (Nat.le_succ _)
end Go.Proofs.Ytkdkmdjfimnkaaa

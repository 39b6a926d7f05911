/- record.Encode. Conditions: typed in each theorem. -/
import Derived.Test.YtkdkmdjfimnkaaaRee
import Derived.Deep.RegionHeld3
namespace Go.Proofs.Ytkdkmdjfimnkaaa
set_option linter.unusedVariables false
open Go.RowKit

def EncQ (n : Nat) (l : List UInt8) (w : World) (e : Ending) (w' : World) : Prop := ∃ A' c', e = .returned (.tuple #[.slice A' n c', .int .i64 0]) ∧ Own w' w.heap.size A' n c' l ∧ Below w.heap.size w w'
theorem checkR_yes {kind : Int} {fl ex sq k v : Nat} (h : rightR kind fl ex sq k v = true) : checkR kind fl ex sq k v = 0 := by unfold checkR; rw [h]; rfl
theorem checkR_no {kind : Int} {fl ex sq k v : Nat} (h : rightR kind fl ex sq k v = false) : checkR kind fl ex sq k v = 160 := by unfold checkR; rw [h]; rfl
theorem enc_no (kind : Int) (fl ex sq : Nat) (AK AV : Option Addr) (nk ck nv cv : Nat) (w : World) (hr : rightR kind fl ex sq nk nv = false) :
    Calls Try.prog 16 #[recV kind fl ex sq (.slice AK nk ck) (.slice AV nv cv)] w fun e w' => e = .returned (.tuple #[.slice none 0 0, .int .i64 160]) ∧ Below w.heap.size w w' := by
  have hc := check_any kind fl ex sq AK AV nk ck nv cv
  rw [checkR_no hr] at hc
  unfold recV at hc
  unfold recV
  clear hr
  go_enter Try.func16, Try.ntmps16
  go_wp2_with fail
  refine (hc _).mono ?_
  rintro e w1 ⟨rfl, b1⟩
  have b := ((Below.refl w.heap.size w).alloc (Nat.le_refl _) _).trans (b1.mono (by simp))
  go_wp2_with fail
  go_ret2
  exact ⟨rfl, b⟩
set_option maxRecDepth 20000 in
set_option maxHeartbeats 4000000 in
theorem enc_ok (kd fl ex sq : Nat) (hkd : kd < 256) (hfl : fl < 4294967296) (hex : ex < 4294967296) (hsq : sq < 18446744073709551616) (AK AV : Option Addr) (nk ck nv cv : Nat) (lk lv : List UInt8) (w : World)
    (rk : Rd w w.heap.size AK nk ck lk) (rv : Rd w w.heap.size AV nv cv lv) (hr : rightR (kd : Int) fl ex sq nk nv = true) :
    Calls Try.prog 16 #[recV (kd : Int) fl ex sq (.slice AK nk ck) (.slice AV nv cv)] w (EncQ (21 + nk + nv) (recB kd fl ex sq lk lv) w) := by
  have hc := check_any (kd : Int) fl ex sq AK AV nk ck nv cv
  have hb : nk ≤ 250 ∧ nv ≤ 512 := by unfold rightR at hr; have := of_decide_eq_true hr; omega
  obtain ⟨hnk, hnv⟩ := hb
  rw [checkR_yes hr] at hc
  clear hr
  have k0 := Blk.new w #[.int .i64 (kd : Int), .int .u32 (fl : Int), .int .u32 (ex : Int), .int .u64 (sq : Int), .slice AK nk ck, .slice AV nv cv] 26
  have b : Below w.heap.size w (w.alloc (.cells #[.int .i64 (kd : Int), .int .u32 (fl : Int), .int .u32 (ex : Int), .int .u64 (sq : Int), .slice AK nk ck, .slice AV nv cv] 26)) := below_a1' (Below.refl _ _) _
  have hlk := rk.len
  have hlv := rv.len
  have HRB := Lib.hid (show recB kd fl ex sq lk lv = [UInt8.ofNat kd] ++ highB fl 4 ++ highB ex 4 ++ highB sq 8 ++ highB nk 2 ++ highB nv 2 ++ lk ++ lv from by unfold recB; rw [hlk, hlv])
  have Wk : IntKind.u16.wrap (nk : Int) = (nk : Int) := IntWalk.u16_in _ (by omega)
  have Wv : IntKind.u16.wrap (nv : Int) = (nv : Int) := IntWalk.u16_in _ (by omega)
  have Wd : IntKind.u8.wrap (kd : Int) = (kd : Int) := IntWalk.u8_in _ (by omega)
  clear hlk hlv
  unfold recV at hc
  unfold recV
  go_enter Try.func16, Try.ntmps16
  go_wp2_with fail
  refine (hc _).mono ?_
  rintro e w1 ⟨rfl, b1⟩
  replace k0 := k0.step b1
  replace b := below_step b b1
  have hz1 : w.heap.size + 1 ≤ w1.heap.size := k0.lt
  clear hc b1
  obtain ⟨q0, q1, q2, q3, q4, q5⟩ := box6 k0
  go_wp2_with fail
  have ob : Rd (w1.alloc (.cells #[.int .u8 (kd : Int)] 5)).drew (w1.heap.size + 1) (some ⟨w1.heap.size, 0, none⟩) 1 1 [UInt8.ofNat kd] := Rd.oneK w1 _ _ _ rfl (cb_of hkd)
  have hba : w1.heap.size + 1 ≤ (w1.alloc (.cells #[.int .u8 (kd : Int)] 5)).drew.heap.size := by show _ ≤ (w1.heap.push _).size; simp
  have ba : Below w.heap.size w (w1.alloc (.cells #[.int .u8 (kd : Int)] 5)).drew := (below_a1' b _).drew
  have ka : Blk (w1.alloc (.cells #[.int .u8 (kd : Int)] 5)).drew w.heap.size #[.int .i64 (kd : Int), .int .u32 (fl : Int), .int .u32 (ex : Int), .int .u64 (sq : Int), .slice AK nk ck, .slice AV nv cv] 26 := k0.alloc _
  go_region_held3 (fun w' => w'.cell? ⟨w.heap.size, 0, none⟩ = some (.int .i64 kd) ∧ w'.cell? ⟨w.heap.size, 1, none⟩ = some (.int .u32 fl) ∧ w'.cell? ⟨w.heap.size, 2, none⟩ = some (.int .u32 ex)) (first | exact ⟨q0, q1, q2⟩ | go_keep)
    (first
      | (go_at_call 32
         refine (put32_any _ 1 1 _ fl hfl _ _ ob hba (by omega)).mono ?_
         rintro e w2 ⟨A2, c2, rfl, o2, b2⟩
         replace k0 := ka.step b2
         replace b := below_step ba b2
         clear q0 q1 q2 q3 q4 q5 ka ba ob hba
         obtain ⟨q0, q1, q2, q3, q4, q5⟩ := box6 k0)
      | (go_at_call 32
         refine (put32_any A2 5 c2 _ ex hex _ _ o2.rd (Nat.le_refl _) (by omega)).mono ?_
         rintro e w3 ⟨A3, c3, rfl, o3, b3⟩
         replace k0 := k0.step b3
         replace b := below_step b b3
         clear q0 q1 q2 q3 q4 q5
         obtain ⟨q0, q1, q2, q3, q4, q5⟩ := box6 k0)
      | fail)
  go_wp2_with fail
  refine (put64_any A3 9 c3 _ sq hsq _ _ o3.rd (Nat.le_refl _) (by omega)).mono ?_
  rintro e w4 ⟨A4, c4, rfl, o4, b4⟩
  replace k0 := k0.step b4
  replace b := below_step b b4
  clear q0 q1 q2 q3 q4 q5
  obtain ⟨q0, q1, q2, q3, q4, q5⟩ := box6 k0
  go_wp2_with fail
  go_region_held3 (fun w' => w'.cell? ⟨w.heap.size, 4, none⟩ = some (.slice AK nk ck) ∧ w'.cell? ⟨w.heap.size, 5, none⟩ = some (.slice AV nv cv)) (first | exact ⟨q4, q5⟩ | go_keep)
    (first
      | (go_at_call 34
         refine (put16_any A4 17 c4 _ nk (by omega) _ _ (o4.rd.drewN 1) (Nat.le_refl _) (by omega)).mono ?_
         rintro e w5 ⟨A5, c5, rfl, o5, b5⟩
         replace k0 : Blk w5 w.heap.size _ _ := Blk.step (w := w4.drew) k0 b5
         have hz5 : w.heap.size < w5.heap.size := k0.lt
         replace b := below_step (w1 := w4.drew) b.drew b5
         clear q0 q1 q2 q3 q4 q5
         obtain ⟨q0, q1, q2, q3, q4, q5⟩ := box6 k0)
      | (go_at_call 34
         refine (put16_any A5 19 c5 _ nv (by omega) _ _ o5.rd (Nat.le_refl _) (by omega)).mono ?_
         rintro e w6 ⟨A6, c6, rfl, o6, b6⟩
         have hb6 := b.size
         replace k0 := k0.step b6
         replace b := below_step b b6
         clear q0 q1 q2 q3 q4 q5
         obtain ⟨q0, q1, q2, q3, q4, q5⟩ := box6 k0)
      | fail)
  go_wp2_with fail
  have oA : Own w6.drew w5.heap.size A6 21 c6 ([UInt8.ofNat kd] ++ highB fl 4 ++ highB ex 4 ++ highB sq 8 ++ highB nk 2 ++ highB nv 2) := o6
  have rkA : Rd w6.drew w.heap.size AK nk ck lk := rk.below b.drew
  have hb65 : w5.heap.size ≤ w6.drew.heap.size := b6.size
  replace b := b.drew
  clear o6 o5 o4 o3 o2 b2 b3 b4 b5
  go_region_held3 (fun w' => w'.cell? ⟨w.heap.size, 4, none⟩ = some (.slice AK nk ck) ∧ w'.cell? ⟨w.heap.size, 5, none⟩ = some (.slice AV nv cv)) (first | exact ⟨q4, q5⟩ | go_keep)
    (first
      | (refine step_app8 _ rfl _ _ rfl _ _ _ _ _ rfl oA _ _ _ _ _ rfl rkA (by omega) hb65 ?_
         intro A7 c7 w7 o7 b7
         replace k0 : Blk w7 w.heap.size _ _ := (b7.block _ hz5).trans k0
         replace b := b.trans (b7.mono hb6)
         have rvA : Rd w7 w.heap.size AV nv cv lv := rv.below b
         have hb75 : w5.heap.size ≤ w7.heap.size := Nat.le_trans hb65 b7.size
         clear q0 q1 q2 q3 q4 q5
         obtain ⟨q0, q1, q2, q3, q4, q5⟩ := box6 k0)
      | (refine step_app8 _ rfl _ _ rfl _ _ _ _ _ rfl o7 _ _ _ _ _ rfl rvA (by omega) hb75 ?_
         intro A8 c8 w8 o8 b8
         replace k0 : Blk w8 w.heap.size _ _ := (b8.block _ hz5).trans k0
         replace b := b.trans (b8.mono hb6)
         clear q0 q1 q2 q3 q4 q5
         obtain ⟨q0, q1, q2, q3, q4, q5⟩ := box6 k0)
      | fail)
  go_wp2_with fail
  go_ret2
  refine ⟨A8, c8, ?_, ?_, b⟩
  · rfl
  · rw [HRB]
    exact o8.more hb6
end Go.Proofs.Ytkdkmdjfimnkaaa

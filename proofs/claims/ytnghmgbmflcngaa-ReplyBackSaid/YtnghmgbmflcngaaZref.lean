/- Merged texts: Rc21, Ro21, Fr21. Conditions: typed in each theorem. -/
import Derived.Test.YtnghmgbmflcngaaZcod
import Derived.Deep.DeepCutAuto
import Derived.Test.YtnghmgbmflcngaaZfre
import Derived.Test.YtnghmgbmflcngaaZhld
namespace Go.Proofs.Ytnghmgbmflcngaa
set_option linter.unusedVariables false
section
open Go.RowKit

theorem one_f (w : World) : Calls Try.prog 132 #[.bool false] w fun e w' => e = .returned (.int .i64 0) ∧ w = w' := by
  go_enter Try.func132, Try.ntmps132
  go_wp2_with fail
  go_ret
  exact ⟨rfl, rfl⟩
theorem one_t (w : World) : Calls Try.prog 132 #[.bool true] w fun e w' => e = .returned (.int .i64 1) ∧ w = w' := by
  go_enter Try.func132, Try.ntmps132
  go_wp2_with fail
  go_ret
  exact ⟨rfl, rfl⟩
/-- The code of a command, by the document. -/
def cod21 (op : Int) (qt fu : Bool) : Option Nat :=
  if op = 0 then some (match qt, fu with | false, false => 0 | true, false => 9 | false, true => 12 | true, true => 13)
  else if fu = true then none
  else if op = 29 then some (if qt = true then 30 else 29)
  else if 1 ≤ op ∧ op ≤ 8 then some (op.toNat + if qt = true then 16 else 0)
  else if op = 14 ∨ op = 15 then some (op.toNat + if qt = true then 11 else 0)
  else if op = 10 ∨ op = 11 ∨ op = 16 ∨ op = 28 ∨ op = 64 then (if qt = true then none else some op.toNat)
  else none
theorem cod21_small : ∀ n : Fin 65, ∀ qt fu : Bool, codeOf (n.val : Int) qt fu = cod21 (n.val : Int) qt fu := by decide +kernel
theorem codeT_ops : ∀ r ∈ codeT, r.2.1 ≤ 64 := by decide +kernel
theorem cod21_eq (op : Int) (qt fu : Bool) : codeOf op qt fu = cod21 op qt fu := by
  by_cases h : 0 ≤ op ∧ op ≤ 64
  · have h1 := cod21_small ⟨op.toNat, by omega⟩ qt fu
    have h2 : ((op.toNat : Nat) : Int) = op := by omega
    simpa only [h2] using h1
  · have h1 : codeOf op qt fu = none := codeOf_none fun j c o q f hj he => by
      have := codeT_ops _ (List.mem_of_getElem? hj)
      have h3 : o ≤ 64 := this
      omega
    rw [h1]
    unfold cod21
    rw [if_neg (by omega)]
    split
    · rfl
    · rw [if_neg (by omega), if_neg (by omega), if_neg (by omega), if_neg (by omega)]
def Code21Q (r : Option Nat) (w : World) (e : Ending) (w' : World) : Prop := (∃ (x : Nat), x < 256 ∧ e = .returned (.tuple #[.int .u8 (x : Nat), .bool r.isSome]) ∧ (∀ c, r = some c → x = c)) ∧ Below w.heap.size w w'
set_option maxRecDepth 100000 in
set_option maxHeartbeats 4000000 in
theorem code21_0_00 (w : World) : Calls Try.prog 130 #[.int .i64 0, .bool false, .bool false] w (Code21Q (some 0) w) := by
  have HF := Lib.hid (fun W => one_f W)
  have HT := Lib.hid (fun W => one_t W)
  go_enter Try.func130, Try.ntmps130
  go_wp2_with fail
  refine (HF.out _).mono ?_
  rintro e w1 ⟨rfl, rfl⟩
  go_wp2_with fail
  refine (HF.out _).mono ?_
  rintro e w2 ⟨rfl, rfl⟩
  go_wp2_with fail
  go_ret2
  exact ⟨⟨0, by decide, rfl, fun c h => by first | (injection h) | cases h⟩, below_a1' (Below.refl _ _) _⟩
set_option maxRecDepth 100000 in
set_option maxHeartbeats 4000000 in
theorem code21_0_01 (w : World) : Calls Try.prog 130 #[.int .i64 0, .bool false, .bool true] w (Code21Q (some 12) w) := by
  have HF := Lib.hid (fun W => one_f W)
  have HT := Lib.hid (fun W => one_t W)
  go_enter Try.func130, Try.ntmps130
  go_wp2_with fail
  refine (HF.out _).mono ?_
  rintro e w1 ⟨rfl, rfl⟩
  go_wp2_with fail
  refine (HT.out _).mono ?_
  rintro e w2 ⟨rfl, rfl⟩
  go_wp2_with fail
  go_ret2
  exact ⟨⟨12, by decide, rfl, fun c h => by first | (injection h) | cases h⟩, below_a1' (Below.refl _ _) _⟩
set_option maxRecDepth 100000 in
set_option maxHeartbeats 4000000 in
theorem code21_0_10 (w : World) : Calls Try.prog 130 #[.int .i64 0, .bool true, .bool false] w (Code21Q (some 9) w) := by
  have HF := Lib.hid (fun W => one_f W)
  have HT := Lib.hid (fun W => one_t W)
  go_enter Try.func130, Try.ntmps130
  go_wp2_with fail
  refine (HT.out _).mono ?_
  rintro e w1 ⟨rfl, rfl⟩
  go_wp2_with fail
  refine (HF.out _).mono ?_
  rintro e w2 ⟨rfl, rfl⟩
  go_wp2_with fail
  go_ret2
  exact ⟨⟨9, by decide, rfl, fun c h => by first | (injection h) | cases h⟩, below_a1' (Below.refl _ _) _⟩
set_option maxRecDepth 100000 in
set_option maxHeartbeats 4000000 in
theorem code21_0_11 (w : World) : Calls Try.prog 130 #[.int .i64 0, .bool true, .bool true] w (Code21Q (some 13) w) := by
  have HF := Lib.hid (fun W => one_f W)
  have HT := Lib.hid (fun W => one_t W)
  go_enter Try.func130, Try.ntmps130
  go_wp2_with fail
  refine (HT.out _).mono ?_
  rintro e w1 ⟨rfl, rfl⟩
  go_wp2_with fail
  refine (HT.out _).mono ?_
  rintro e w2 ⟨rfl, rfl⟩
  go_wp2_with fail
  go_ret2
  exact ⟨⟨13, by decide, rfl, fun c h => by first | (injection h) | cases h⟩, below_a1' (Below.refl _ _) _⟩
set_option maxRecDepth 100000 in
set_option maxHeartbeats 4000000 in
theorem code21_1_00 (w : World) : Calls Try.prog 130 #[.int .i64 1, .bool false, .bool false] w (Code21Q (some 1) w) := by
  have HF := Lib.hid (fun W => one_f W)
  have HT := Lib.hid (fun W => one_t W)
  go_enter Try.func130, Try.ntmps130
  go_wp2_with fail
  refine (HF.out _).mono ?_
  rintro e w1 ⟨rfl, rfl⟩
  go_wp2_with fail
  go_ret2
  exact ⟨⟨1, by decide, rfl, fun c h => by first | (injection h) | cases h⟩, Below.refl _ _⟩
set_option maxRecDepth 100000 in
set_option maxHeartbeats 4000000 in
theorem code21_1_10 (w : World) : Calls Try.prog 130 #[.int .i64 1, .bool true, .bool false] w (Code21Q (some 17) w) := by
  have HF := Lib.hid (fun W => one_f W)
  have HT := Lib.hid (fun W => one_t W)
  go_enter Try.func130, Try.ntmps130
  go_wp2_with fail
  refine (HT.out _).mono ?_
  rintro e w1 ⟨rfl, rfl⟩
  go_wp2_with fail
  go_ret2
  exact ⟨⟨17, by decide, rfl, fun c h => by first | (injection h) | cases h⟩, Below.refl _ _⟩
set_option maxRecDepth 100000 in
set_option maxHeartbeats 4000000 in
theorem code21_2_00 (w : World) : Calls Try.prog 130 #[.int .i64 2, .bool false, .bool false] w (Code21Q (some 2) w) := by
  have HF := Lib.hid (fun W => one_f W)
  have HT := Lib.hid (fun W => one_t W)
  go_enter Try.func130, Try.ntmps130
  go_wp2_with fail
  refine (HF.out _).mono ?_
  rintro e w1 ⟨rfl, rfl⟩
  go_wp2_with fail
  go_ret2
  exact ⟨⟨2, by decide, rfl, fun c h => by first | (injection h) | cases h⟩, Below.refl _ _⟩
set_option maxRecDepth 100000 in
set_option maxHeartbeats 4000000 in
theorem code21_2_10 (w : World) : Calls Try.prog 130 #[.int .i64 2, .bool true, .bool false] w (Code21Q (some 18) w) := by
  have HF := Lib.hid (fun W => one_f W)
  have HT := Lib.hid (fun W => one_t W)
  go_enter Try.func130, Try.ntmps130
  go_wp2_with fail
  refine (HT.out _).mono ?_
  rintro e w1 ⟨rfl, rfl⟩
  go_wp2_with fail
  go_ret2
  exact ⟨⟨18, by decide, rfl, fun c h => by first | (injection h) | cases h⟩, Below.refl _ _⟩
set_option maxRecDepth 100000 in
set_option maxHeartbeats 4000000 in
theorem code21_3_00 (w : World) : Calls Try.prog 130 #[.int .i64 3, .bool false, .bool false] w (Code21Q (some 3) w) := by
  have HF := Lib.hid (fun W => one_f W)
  have HT := Lib.hid (fun W => one_t W)
  go_enter Try.func130, Try.ntmps130
  go_wp2_with fail
  refine (HF.out _).mono ?_
  rintro e w1 ⟨rfl, rfl⟩
  go_wp2_with fail
  go_ret2
  exact ⟨⟨3, by decide, rfl, fun c h => by first | (injection h) | cases h⟩, Below.refl _ _⟩
set_option maxRecDepth 100000 in
set_option maxHeartbeats 4000000 in
theorem code21_3_10 (w : World) : Calls Try.prog 130 #[.int .i64 3, .bool true, .bool false] w (Code21Q (some 19) w) := by
  have HF := Lib.hid (fun W => one_f W)
  have HT := Lib.hid (fun W => one_t W)
  go_enter Try.func130, Try.ntmps130
  go_wp2_with fail
  refine (HT.out _).mono ?_
  rintro e w1 ⟨rfl, rfl⟩
  go_wp2_with fail
  go_ret2
  exact ⟨⟨19, by decide, rfl, fun c h => by first | (injection h) | cases h⟩, Below.refl _ _⟩
set_option maxRecDepth 100000 in
set_option maxHeartbeats 4000000 in
theorem code21_4_00 (w : World) : Calls Try.prog 130 #[.int .i64 4, .bool false, .bool false] w (Code21Q (some 4) w) := by
  have HF := Lib.hid (fun W => one_f W)
  have HT := Lib.hid (fun W => one_t W)
  go_enter Try.func130, Try.ntmps130
  go_wp2_with fail
  refine (HF.out _).mono ?_
  rintro e w1 ⟨rfl, rfl⟩
  go_wp2_with fail
  go_ret2
  exact ⟨⟨4, by decide, rfl, fun c h => by first | (injection h) | cases h⟩, Below.refl _ _⟩
set_option maxRecDepth 100000 in
set_option maxHeartbeats 4000000 in
theorem code21_4_10 (w : World) : Calls Try.prog 130 #[.int .i64 4, .bool true, .bool false] w (Code21Q (some 20) w) := by
  have HF := Lib.hid (fun W => one_f W)
  have HT := Lib.hid (fun W => one_t W)
  go_enter Try.func130, Try.ntmps130
  go_wp2_with fail
  refine (HT.out _).mono ?_
  rintro e w1 ⟨rfl, rfl⟩
  go_wp2_with fail
  go_ret2
  exact ⟨⟨20, by decide, rfl, fun c h => by first | (injection h) | cases h⟩, Below.refl _ _⟩
set_option maxRecDepth 100000 in
set_option maxHeartbeats 4000000 in
theorem code21_5_00 (w : World) : Calls Try.prog 130 #[.int .i64 5, .bool false, .bool false] w (Code21Q (some 5) w) := by
  have HF := Lib.hid (fun W => one_f W)
  have HT := Lib.hid (fun W => one_t W)
  go_enter Try.func130, Try.ntmps130
  go_wp2_with fail
  refine (HF.out _).mono ?_
  rintro e w1 ⟨rfl, rfl⟩
  go_wp2_with fail
  go_ret2
  exact ⟨⟨5, by decide, rfl, fun c h => by first | (injection h) | cases h⟩, Below.refl _ _⟩
set_option maxRecDepth 100000 in
set_option maxHeartbeats 4000000 in
theorem code21_5_10 (w : World) : Calls Try.prog 130 #[.int .i64 5, .bool true, .bool false] w (Code21Q (some 21) w) := by
  have HF := Lib.hid (fun W => one_f W)
  have HT := Lib.hid (fun W => one_t W)
  go_enter Try.func130, Try.ntmps130
  go_wp2_with fail
  refine (HT.out _).mono ?_
  rintro e w1 ⟨rfl, rfl⟩
  go_wp2_with fail
  go_ret2
  exact ⟨⟨21, by decide, rfl, fun c h => by first | (injection h) | cases h⟩, Below.refl _ _⟩
set_option maxRecDepth 100000 in
set_option maxHeartbeats 4000000 in
theorem code21_6_00 (w : World) : Calls Try.prog 130 #[.int .i64 6, .bool false, .bool false] w (Code21Q (some 6) w) := by
  have HF := Lib.hid (fun W => one_f W)
  have HT := Lib.hid (fun W => one_t W)
  go_enter Try.func130, Try.ntmps130
  go_wp2_with fail
  refine (HF.out _).mono ?_
  rintro e w1 ⟨rfl, rfl⟩
  go_wp2_with fail
  go_ret2
  exact ⟨⟨6, by decide, rfl, fun c h => by first | (injection h) | cases h⟩, Below.refl _ _⟩
set_option maxRecDepth 100000 in
set_option maxHeartbeats 4000000 in
theorem code21_6_10 (w : World) : Calls Try.prog 130 #[.int .i64 6, .bool true, .bool false] w (Code21Q (some 22) w) := by
  have HF := Lib.hid (fun W => one_f W)
  have HT := Lib.hid (fun W => one_t W)
  go_enter Try.func130, Try.ntmps130
  go_wp2_with fail
  refine (HT.out _).mono ?_
  rintro e w1 ⟨rfl, rfl⟩
  go_wp2_with fail
  go_ret2
  exact ⟨⟨22, by decide, rfl, fun c h => by first | (injection h) | cases h⟩, Below.refl _ _⟩
set_option maxRecDepth 100000 in
set_option maxHeartbeats 4000000 in
theorem code21_7_00 (w : World) : Calls Try.prog 130 #[.int .i64 7, .bool false, .bool false] w (Code21Q (some 7) w) := by
  have HF := Lib.hid (fun W => one_f W)
  have HT := Lib.hid (fun W => one_t W)
  go_enter Try.func130, Try.ntmps130
  go_wp2_with fail
  refine (HF.out _).mono ?_
  rintro e w1 ⟨rfl, rfl⟩
  go_wp2_with fail
  go_ret2
  exact ⟨⟨7, by decide, rfl, fun c h => by first | (injection h) | cases h⟩, Below.refl _ _⟩
set_option maxRecDepth 100000 in
set_option maxHeartbeats 4000000 in
theorem code21_7_10 (w : World) : Calls Try.prog 130 #[.int .i64 7, .bool true, .bool false] w (Code21Q (some 23) w) := by
  have HF := Lib.hid (fun W => one_f W)
  have HT := Lib.hid (fun W => one_t W)
  go_enter Try.func130, Try.ntmps130
  go_wp2_with fail
  refine (HT.out _).mono ?_
  rintro e w1 ⟨rfl, rfl⟩
  go_wp2_with fail
  go_ret2
  exact ⟨⟨23, by decide, rfl, fun c h => by first | (injection h) | cases h⟩, Below.refl _ _⟩
set_option maxRecDepth 100000 in
set_option maxHeartbeats 4000000 in
theorem code21_8_00 (w : World) : Calls Try.prog 130 #[.int .i64 8, .bool false, .bool false] w (Code21Q (some 8) w) := by
  have HF := Lib.hid (fun W => one_f W)
  have HT := Lib.hid (fun W => one_t W)
  go_enter Try.func130, Try.ntmps130
  go_wp2_with fail
  refine (HF.out _).mono ?_
  rintro e w1 ⟨rfl, rfl⟩
  go_wp2_with fail
  go_ret2
  exact ⟨⟨8, by decide, rfl, fun c h => by first | (injection h) | cases h⟩, Below.refl _ _⟩
set_option maxRecDepth 100000 in
set_option maxHeartbeats 4000000 in
theorem code21_8_10 (w : World) : Calls Try.prog 130 #[.int .i64 8, .bool true, .bool false] w (Code21Q (some 24) w) := by
  have HF := Lib.hid (fun W => one_f W)
  have HT := Lib.hid (fun W => one_t W)
  go_enter Try.func130, Try.ntmps130
  go_wp2_with fail
  refine (HT.out _).mono ?_
  rintro e w1 ⟨rfl, rfl⟩
  go_wp2_with fail
  go_ret2
  exact ⟨⟨24, by decide, rfl, fun c h => by first | (injection h) | cases h⟩, Below.refl _ _⟩
set_option maxRecDepth 100000 in
set_option maxHeartbeats 4000000 in
theorem code21_10_00 (w : World) : Calls Try.prog 130 #[.int .i64 10, .bool false, .bool false] w (Code21Q (some 10) w) := by
  have HF := Lib.hid (fun W => one_f W)
  have HT := Lib.hid (fun W => one_t W)
  go_enter Try.func130, Try.ntmps130
  go_wp2_with fail
  go_ret2
  exact ⟨⟨10, by decide, rfl, fun c h => by first | (injection h) | cases h⟩, Below.refl _ _⟩
set_option maxRecDepth 100000 in
set_option maxHeartbeats 4000000 in
theorem code21_10_10 (w : World) : Calls Try.prog 130 #[.int .i64 10, .bool true, .bool false] w (Code21Q none w) := by
  have HF := Lib.hid (fun W => one_f W)
  have HT := Lib.hid (fun W => one_t W)
  go_enter Try.func130, Try.ntmps130
  go_wp2_with fail
  go_ret2
  exact ⟨⟨10, by decide, rfl, fun c h => by first | (injection h) | cases h⟩, Below.refl _ _⟩
set_option maxRecDepth 100000 in
set_option maxHeartbeats 4000000 in
theorem code21_11_00 (w : World) : Calls Try.prog 130 #[.int .i64 11, .bool false, .bool false] w (Code21Q (some 11) w) := by
  have HF := Lib.hid (fun W => one_f W)
  have HT := Lib.hid (fun W => one_t W)
  go_enter Try.func130, Try.ntmps130
  go_wp2_with fail
  go_ret2
  exact ⟨⟨11, by decide, rfl, fun c h => by first | (injection h) | cases h⟩, Below.refl _ _⟩
set_option maxRecDepth 100000 in
set_option maxHeartbeats 4000000 in
theorem code21_11_10 (w : World) : Calls Try.prog 130 #[.int .i64 11, .bool true, .bool false] w (Code21Q none w) := by
  have HF := Lib.hid (fun W => one_f W)
  have HT := Lib.hid (fun W => one_t W)
  go_enter Try.func130, Try.ntmps130
  go_wp2_with fail
  go_ret2
  exact ⟨⟨11, by decide, rfl, fun c h => by first | (injection h) | cases h⟩, Below.refl _ _⟩
set_option maxRecDepth 100000 in
set_option maxHeartbeats 4000000 in
theorem code21_14_00 (w : World) : Calls Try.prog 130 #[.int .i64 14, .bool false, .bool false] w (Code21Q (some 14) w) := by
  have HF := Lib.hid (fun W => one_f W)
  have HT := Lib.hid (fun W => one_t W)
  go_enter Try.func130, Try.ntmps130
  go_wp2_with fail
  refine (HF.out _).mono ?_
  rintro e w1 ⟨rfl, rfl⟩
  go_wp2_with fail
  go_ret2
  exact ⟨⟨14, by decide, rfl, fun c h => by first | (injection h) | cases h⟩, Below.refl _ _⟩
set_option maxRecDepth 100000 in
set_option maxHeartbeats 4000000 in
theorem code21_14_10 (w : World) : Calls Try.prog 130 #[.int .i64 14, .bool true, .bool false] w (Code21Q (some 25) w) := by
  have HF := Lib.hid (fun W => one_f W)
  have HT := Lib.hid (fun W => one_t W)
  go_enter Try.func130, Try.ntmps130
  go_wp2_with fail
  refine (HT.out _).mono ?_
  rintro e w1 ⟨rfl, rfl⟩
  go_wp2_with fail
  go_ret2
  exact ⟨⟨25, by decide, rfl, fun c h => by first | (injection h) | cases h⟩, Below.refl _ _⟩
set_option maxRecDepth 100000 in
set_option maxHeartbeats 4000000 in
theorem code21_15_00 (w : World) : Calls Try.prog 130 #[.int .i64 15, .bool false, .bool false] w (Code21Q (some 15) w) := by
  have HF := Lib.hid (fun W => one_f W)
  have HT := Lib.hid (fun W => one_t W)
  go_enter Try.func130, Try.ntmps130
  go_wp2_with fail
  refine (HF.out _).mono ?_
  rintro e w1 ⟨rfl, rfl⟩
  go_wp2_with fail
  go_ret2
  exact ⟨⟨15, by decide, rfl, fun c h => by first | (injection h) | cases h⟩, Below.refl _ _⟩
set_option maxRecDepth 100000 in
set_option maxHeartbeats 4000000 in
theorem code21_15_10 (w : World) : Calls Try.prog 130 #[.int .i64 15, .bool true, .bool false] w (Code21Q (some 26) w) := by
  have HF := Lib.hid (fun W => one_f W)
  have HT := Lib.hid (fun W => one_t W)
  go_enter Try.func130, Try.ntmps130
  go_wp2_with fail
  refine (HT.out _).mono ?_
  rintro e w1 ⟨rfl, rfl⟩
  go_wp2_with fail
  go_ret2
  exact ⟨⟨26, by decide, rfl, fun c h => by first | (injection h) | cases h⟩, Below.refl _ _⟩
set_option maxRecDepth 100000 in
set_option maxHeartbeats 4000000 in
theorem code21_16_00 (w : World) : Calls Try.prog 130 #[.int .i64 16, .bool false, .bool false] w (Code21Q (some 16) w) := by
  have HF := Lib.hid (fun W => one_f W)
  have HT := Lib.hid (fun W => one_t W)
  go_enter Try.func130, Try.ntmps130
  go_wp2_with fail
  go_ret2
  exact ⟨⟨16, by decide, rfl, fun c h => by first | (injection h) | cases h⟩, Below.refl _ _⟩
set_option maxRecDepth 100000 in
set_option maxHeartbeats 4000000 in
theorem code21_16_10 (w : World) : Calls Try.prog 130 #[.int .i64 16, .bool true, .bool false] w (Code21Q none w) := by
  have HF := Lib.hid (fun W => one_f W)
  have HT := Lib.hid (fun W => one_t W)
  go_enter Try.func130, Try.ntmps130
  go_wp2_with fail
  go_ret2
  exact ⟨⟨16, by decide, rfl, fun c h => by first | (injection h) | cases h⟩, Below.refl _ _⟩
set_option maxRecDepth 100000 in
set_option maxHeartbeats 4000000 in
theorem code21_28_00 (w : World) : Calls Try.prog 130 #[.int .i64 28, .bool false, .bool false] w (Code21Q (some 28) w) := by
  have HF := Lib.hid (fun W => one_f W)
  have HT := Lib.hid (fun W => one_t W)
  go_enter Try.func130, Try.ntmps130
  go_wp2_with fail
  go_ret2
  exact ⟨⟨28, by decide, rfl, fun c h => by first | (injection h) | cases h⟩, Below.refl _ _⟩
set_option maxRecDepth 100000 in
set_option maxHeartbeats 4000000 in
theorem code21_28_10 (w : World) : Calls Try.prog 130 #[.int .i64 28, .bool true, .bool false] w (Code21Q none w) := by
  have HF := Lib.hid (fun W => one_f W)
  have HT := Lib.hid (fun W => one_t W)
  go_enter Try.func130, Try.ntmps130
  go_wp2_with fail
  go_ret2
  exact ⟨⟨28, by decide, rfl, fun c h => by first | (injection h) | cases h⟩, Below.refl _ _⟩
set_option maxRecDepth 100000 in
set_option maxHeartbeats 4000000 in
theorem code21_29_00 (w : World) : Calls Try.prog 130 #[.int .i64 29, .bool false, .bool false] w (Code21Q (some 29) w) := by
  have HF := Lib.hid (fun W => one_f W)
  have HT := Lib.hid (fun W => one_t W)
  go_enter Try.func130, Try.ntmps130
  go_wp2_with fail
  refine (HF.out _).mono ?_
  rintro e w1 ⟨rfl, rfl⟩
  go_wp2_with fail
  go_ret2
  exact ⟨⟨29, by decide, rfl, fun c h => by first | (injection h) | cases h⟩, below_a1' (Below.refl _ _) _⟩
set_option maxRecDepth 100000 in
set_option maxHeartbeats 4000000 in
theorem code21_29_10 (w : World) : Calls Try.prog 130 #[.int .i64 29, .bool true, .bool false] w (Code21Q (some 30) w) := by
  have HF := Lib.hid (fun W => one_f W)
  have HT := Lib.hid (fun W => one_t W)
  go_enter Try.func130, Try.ntmps130
  go_wp2_with fail
  refine (HT.out _).mono ?_
  rintro e w1 ⟨rfl, rfl⟩
  go_wp2_with fail
  go_ret2
  exact ⟨⟨30, by decide, rfl, fun c h => by first | (injection h) | cases h⟩, below_a1' (Below.refl _ _) _⟩
set_option maxRecDepth 100000 in
set_option maxHeartbeats 4000000 in
theorem code21_64_00 (w : World) : Calls Try.prog 130 #[.int .i64 64, .bool false, .bool false] w (Code21Q (some 64) w) := by
  have HF := Lib.hid (fun W => one_f W)
  have HT := Lib.hid (fun W => one_t W)
  go_enter Try.func130, Try.ntmps130
  go_wp2_with fail
  go_ret2
  exact ⟨⟨64, by decide, rfl, fun c h => by first | (injection h) | cases h⟩, Below.refl _ _⟩
set_option maxRecDepth 100000 in
set_option maxHeartbeats 4000000 in
theorem code21_64_10 (w : World) : Calls Try.prog 130 #[.int .i64 64, .bool true, .bool false] w (Code21Q none w) := by
  have HF := Lib.hid (fun W => one_f W)
  have HT := Lib.hid (fun W => one_t W)
  go_enter Try.func130, Try.ntmps130
  go_wp2_with fail
  go_ret2
  exact ⟨⟨64, by decide, rfl, fun c h => by first | (injection h) | cases h⟩, Below.refl _ _⟩
set_option maxRecDepth 100000 in
set_option maxHeartbeats 4000000 in
theorem code21_fu (op : Int) (qt : Bool) (h0 : op ≠ 0) (w : World) : Calls Try.prog 130 #[.int .i64 op, .bool qt, .bool true] w (Code21Q none w) := by
  have f0 : (op == 0) = false := beq_eq_false_iff_ne.2 (by omega)
  clear h0
  go_enter Try.func130, Try.ntmps130
  go_wp2_with fail
  go_ret2
  exact ⟨⟨0, by decide, rfl, fun c h => by cases h⟩, Below.refl _ _⟩
set_option maxRecDepth 100000 in
set_option maxHeartbeats 4000000 in
theorem code21_lo (op : Int) (qt : Bool) (h0 : op < 0) (w : World) : Calls Try.prog 130 #[.int .i64 op, .bool qt, .bool false] w (Code21Q none w) := by
  have f0 : (op == 0) = false := beq_eq_false_iff_ne.2 (by omega)
  have f1 : (op == 29) = false := beq_eq_false_iff_ne.2 (by omega)
  have f2 : (op == 14) = false := beq_eq_false_iff_ne.2 (by omega)
  have f3 : (op == 15) = false := beq_eq_false_iff_ne.2 (by omega)
  have f4 : (op == 10) = false := beq_eq_false_iff_ne.2 (by omega)
  have f5 : (op == 11) = false := beq_eq_false_iff_ne.2 (by omega)
  have f6 : (op == 16) = false := beq_eq_false_iff_ne.2 (by omega)
  have f7 : (op == 28) = false := beq_eq_false_iff_ne.2 (by omega)
  have f8 : (op == 64) = false := beq_eq_false_iff_ne.2 (by omega)
  have f9 : decide (op ≥ 1) = false := decide_eq_false (by omega)
  have f10 : decide (1 ≤ op) = false := decide_eq_false (by omega)
  clear h0
  go_enter Try.func130, Try.ntmps130
  go_wp2_with fail
  go_ret2
  exact ⟨⟨0, by decide, rfl, fun c h => by cases h⟩, Below.refl _ _⟩
set_option maxRecDepth 100000 in
set_option maxHeartbeats 4000000 in
theorem code21_hi (op : Int) (qt : Bool) (h0 : 8 < op) (h1 : op ≠ 29) (h2 : op ≠ 14) (h3 : op ≠ 15) (h4 : op ≠ 10) (h5 : op ≠ 11) (h6 : op ≠ 16) (h7 : op ≠ 28) (h8 : op ≠ 64) (w : World) : Calls Try.prog 130 #[.int .i64 op, .bool qt, .bool false] w (Code21Q none w) := by
  have f0 : (op == 0) = false := beq_eq_false_iff_ne.2 (by omega)
  have f1 : (op == 29) = false := beq_eq_false_iff_ne.2 (by omega)
  have f2 : (op == 14) = false := beq_eq_false_iff_ne.2 (by omega)
  have f3 : (op == 15) = false := beq_eq_false_iff_ne.2 (by omega)
  have f4 : (op == 10) = false := beq_eq_false_iff_ne.2 (by omega)
  have f5 : (op == 11) = false := beq_eq_false_iff_ne.2 (by omega)
  have f6 : (op == 16) = false := beq_eq_false_iff_ne.2 (by omega)
  have f7 : (op == 28) = false := beq_eq_false_iff_ne.2 (by omega)
  have f8 : (op == 64) = false := beq_eq_false_iff_ne.2 (by omega)
  have f9 : decide (op ≥ 1) = true := decide_eq_true (by omega)
  have f10 : decide (1 ≤ op) = true := decide_eq_true (by omega)
  have f11 : decide (op ≤ 8) = false := decide_eq_false (by omega)
  clear h0 h1 h2 h3 h4 h5 h6 h7 h8
  go_enter Try.func130, Try.ntmps130
  go_wp2_with fail
  go_ret2
  exact ⟨⟨0, by decide, rfl, fun c h => by cases h⟩, Below.refl _ _⟩
theorem code21_any (op : Int) (qt fu : Bool) (w : World) : Calls Try.prog 130 #[.int .i64 op, .bool qt, .bool fu] w (Code21Q (codeOf op qt fu) w) := by
  by_cases h0 : op = 0
  · subst h0
    rw [cod21_eq]
    cases qt <;> cases fu
    · exact code21_0_00 w
    · exact code21_0_01 w
    · exact code21_0_10 w
    · exact code21_0_11 w
  by_cases h1 : op = 1
  · subst h1
    rw [cod21_eq]
    cases qt <;> cases fu
    · exact code21_1_00 w
    · exact code21_fu 1 false (by decide) w
    · exact code21_1_10 w
    · exact code21_fu 1 true (by decide) w
  by_cases h2 : op = 2
  · subst h2
    rw [cod21_eq]
    cases qt <;> cases fu
    · exact code21_2_00 w
    · exact code21_fu 2 false (by decide) w
    · exact code21_2_10 w
    · exact code21_fu 2 true (by decide) w
  by_cases h3 : op = 3
  · subst h3
    rw [cod21_eq]
    cases qt <;> cases fu
    · exact code21_3_00 w
    · exact code21_fu 3 false (by decide) w
    · exact code21_3_10 w
    · exact code21_fu 3 true (by decide) w
  by_cases h4 : op = 4
  · subst h4
    rw [cod21_eq]
    cases qt <;> cases fu
    · exact code21_4_00 w
    · exact code21_fu 4 false (by decide) w
    · exact code21_4_10 w
    · exact code21_fu 4 true (by decide) w
  by_cases h5 : op = 5
  · subst h5
    rw [cod21_eq]
    cases qt <;> cases fu
    · exact code21_5_00 w
    · exact code21_fu 5 false (by decide) w
    · exact code21_5_10 w
    · exact code21_fu 5 true (by decide) w
  by_cases h6 : op = 6
  · subst h6
    rw [cod21_eq]
    cases qt <;> cases fu
    · exact code21_6_00 w
    · exact code21_fu 6 false (by decide) w
    · exact code21_6_10 w
    · exact code21_fu 6 true (by decide) w
  by_cases h7 : op = 7
  · subst h7
    rw [cod21_eq]
    cases qt <;> cases fu
    · exact code21_7_00 w
    · exact code21_fu 7 false (by decide) w
    · exact code21_7_10 w
    · exact code21_fu 7 true (by decide) w
  by_cases h8 : op = 8
  · subst h8
    rw [cod21_eq]
    cases qt <;> cases fu
    · exact code21_8_00 w
    · exact code21_fu 8 false (by decide) w
    · exact code21_8_10 w
    · exact code21_fu 8 true (by decide) w
  by_cases h10 : op = 10
  · subst h10
    rw [cod21_eq]
    cases qt <;> cases fu
    · exact code21_10_00 w
    · exact code21_fu 10 false (by decide) w
    · exact code21_10_10 w
    · exact code21_fu 10 true (by decide) w
  by_cases h11 : op = 11
  · subst h11
    rw [cod21_eq]
    cases qt <;> cases fu
    · exact code21_11_00 w
    · exact code21_fu 11 false (by decide) w
    · exact code21_11_10 w
    · exact code21_fu 11 true (by decide) w
  by_cases h14 : op = 14
  · subst h14
    rw [cod21_eq]
    cases qt <;> cases fu
    · exact code21_14_00 w
    · exact code21_fu 14 false (by decide) w
    · exact code21_14_10 w
    · exact code21_fu 14 true (by decide) w
  by_cases h15 : op = 15
  · subst h15
    rw [cod21_eq]
    cases qt <;> cases fu
    · exact code21_15_00 w
    · exact code21_fu 15 false (by decide) w
    · exact code21_15_10 w
    · exact code21_fu 15 true (by decide) w
  by_cases h16 : op = 16
  · subst h16
    rw [cod21_eq]
    cases qt <;> cases fu
    · exact code21_16_00 w
    · exact code21_fu 16 false (by decide) w
    · exact code21_16_10 w
    · exact code21_fu 16 true (by decide) w
  by_cases h28 : op = 28
  · subst h28
    rw [cod21_eq]
    cases qt <;> cases fu
    · exact code21_28_00 w
    · exact code21_fu 28 false (by decide) w
    · exact code21_28_10 w
    · exact code21_fu 28 true (by decide) w
  by_cases h29 : op = 29
  · subst h29
    rw [cod21_eq]
    cases qt <;> cases fu
    · exact code21_29_00 w
    · exact code21_fu 29 false (by decide) w
    · exact code21_29_10 w
    · exact code21_fu 29 true (by decide) w
  by_cases h64 : op = 64
  · subst h64
    rw [cod21_eq]
    cases qt <;> cases fu
    · exact code21_64_00 w
    · exact code21_fu 64 false (by decide) w
    · exact code21_64_10 w
    · exact code21_fu 64 true (by decide) w
  have hn : codeOf op qt fu = none := by
    rw [cod21_eq]
    unfold cod21
    rw [if_neg h0]
    split
    · rfl
    · rw [if_neg (by omega), if_neg (by omega), if_neg (by omega)]
      try rw [if_neg (by omega)]
  rw [hn]
  cases fu
  · by_cases hl : op < 0
    · exact code21_lo op qt hl w
    · exact code21_hi op qt (by omega) (by omega) (by omega) (by omega) (by omega) (by omega) (by omega) (by omega) (by omega) w
  · exact code21_fu op qt h0 w
end
section
open Go.RowKit

set_option maxRecDepth 100000 in
set_option maxHeartbeats 1000000 in
theorem rof21_any (op : Int) (qt fu : Bool) (bad : Int) (oq : Nat) (K V : Value) (fl ex cas dl ini : Nat) (w : World) :
    Calls Try.prog 116 #[reqV op qt fu bad oq K V fl ex cas dl ini] w (BoxQ' (.int .u8 (codeB op qt fu : Nat)) w) := by
  have k0 := Blk.new w #[.int .i64 op, .bool qt, .bool fu, .int .i64 bad, .int .u32 (oq : Nat), K, V, .int .u32 (fl : Nat), .int .u32 (ex : Nat), .int .u64 (cas : Nat), .int .u64 (dl : Nat), .int .u64 (ini : Nat)] 26
  have b0 := below_a1' (Below.refl w.heap.size w) (.cells #[.int .i64 op, .bool qt, .bool fu, .int .i64 bad, .int .u32 (oq : Nat), K, V, .int .u32 (fl : Nat), .int .u32 (ex : Nat), .int .u64 (cas : Nat), .int .u64 (dl : Nat), .int .u64 (ini : Nat)] 26)
  have HC := Lib.hid (fun W => code21_any op qt fu W)
  unfold reqV
  go_enter Try.func116, Try.ntmps116
  go_upto_region 1 with fail
  generalize w.alloc (.cells #[.int .i64 op, .bool qt, .bool fu, .int .i64 bad, .int .u32 (oq : Nat), K, V, .int .u32 (fl : Nat), .int .u32 (ex : Nat), .int .u64 (cas : Nat), .int .u64 (dl : Nat), .int .u64 (ini : Nat)] 26) = W0 at k0 b0 ⊢
  obtain ⟨q0, q1, q2, -⟩ := box12 k0
  go_wp2_with fail
  refine (HC.out W0).mono ?_
  clear HC q0 q1 q2
  rintro e w1 ⟨⟨x, hx, rfl, hc⟩, b1⟩
  replace k0 := k0.step b1
  replace b0 := below_step b0 b1
  clear b1 hx
  obtain ⟨q0, q1, q2, -⟩ := box12 k0
  cases hco : codeOf op qt fu with
  | some c =>
    have hxc : codeB op qt fu = x := by unfold codeB; rw [hco]; exact (hc c hco).symm
    have HCB := Lib.hid hxc
    have hs : (some c).isSome = true := rfl
    rw [hs]
    clear hco hxc hc hs
    go_wp2_with fail
    go_ret
    exact ⟨by rw [HCB.out]; rfl, b0⟩
  | none =>
    have hcb : ((codeB op qt fu : Nat) : Int) = op % 256 := by unfold codeB; rw [hco]; show (((op % 256).toNat : Nat) : Int) = _; omega
    have HCB := Lib.hid hcb
    have hs : (none : Option Nat).isSome = false := rfl
    rw [hs]
    clear hco hcb hc hs
    go_wp2_with fail
    go_ret
    exact ⟨by rw [HCB.out]; rfl, b0⟩
end
section
open Go.RowKit

def FrQ21 (hd : Array Value) (g : Nat) (ps : Array Value) (s9 : Value) (wx w : World) : Prop := ∃ g9, s9 = .pointer (some ⟨g9, 0, none⟩) ∧ Blk wx g9 hd 59 ∧ Blk wx (g + 1) ps 120 ∧ Below w.heap.size w wx
set_option maxRecDepth 100000 in
set_option maxHeartbeats 4000000 in
theorem rframe21 (op : Int) (qt fu : Bool) (bad : Int) (oq : Nat) (hoq : oq < 4294967296) (KQ VQ : Value) (fl ex cs dl ini : Nat) (st : Int) (cas : Nat) (hcas : cas < 18446744073709551616) (X K V : Option Addr) (nx cx nk ck nv cv : Nat) (hs : nx + nk + nv ≤ 140737488355000)
    (lx lk lv : List UInt8) (w : World) (rx : Rd w w.heap.size X nx cx lx) (rk : Rd w w.heap.size K nk ck lk) (rv : Rd w w.heap.size V nv cv lv) :
    Calls Try.prog 80 #[reqV op qt fu bad oq KQ VQ fl ex cs dl ini, .int .i64 st, .int .u64 (cas : Nat), .agg #[.slice X nx cx, .slice K nk ck, .slice V nv cv]] w
      (BytesQ (24 + nx + (nk + nv)) (hdB 129 (codeB op qt fu) (nk % 65536) (nx % 256) 0 (st % 65536).toNat ((nx + nk + nv) % 4294967296) oq cas ++ lx ++ (lk ++ lv)) w) := by
  have kq := (Blk.new w #[.int .i64 op, .bool qt, .bool fu, .int .i64 bad, .int .u32 (oq : Nat), KQ, VQ, .int .u32 (fl : Nat), .int .u32 (ex : Nat), .int .u64 (cs : Nat), .int .u64 (dl : Nat), .int .u64 (ini : Nat)] 26).alloc (.cells #[.slice X nx cx, .slice K nk ck, .slice V nv cv] 120)
  have ka := Blk.new (w.alloc (.cells #[.int .i64 op, .bool qt, .bool fu, .int .i64 bad, .int .u32 (oq : Nat), KQ, VQ, .int .u32 (fl : Nat), .int .u32 (ex : Nat), .int .u64 (cs : Nat), .int .u64 (dl : Nat), .int .u64 (ini : Nat)] 26)) #[.slice X nx cx, .slice K nk ck, .slice V nv cv] 120
  have b := below_a1' (below_a1' (Below.refl w.heap.size w) (.cells #[.int .i64 op, .bool qt, .bool fu, .int .i64 bad, .int .u32 (oq : Nat), KQ, VQ, .int .u32 (fl : Nat), .int .u32 (ex : Nat), .int .u64 (cs : Nat), .int .u64 (dl : Nat), .int .u64 (ini : Nat)] 26)) (.cells #[.slice X nx cx, .slice K nk ck, .slice V nv cv] 120)
  rw [World.size_alloc] at ka
  have HOF := Lib.hid (fun W => rof21_any op qt fu bad oq KQ VQ fl ex cs dl ini W)
  have hcb := codeB_lt op qt fu
  obtain ⟨kl, hkl⟩ : ∃ kl : Nat, kl = nk % 65536 := ⟨_, rfl⟩
  obtain ⟨el, hel⟩ : ∃ el : Nat, el = nx % 256 := ⟨_, rfl⟩
  obtain ⟨sq, hsq⟩ : ∃ sq : Nat, sq = (st % 65536).toNat := ⟨_, rfl⟩
  obtain ⟨bl, hbl⟩ : ∃ bl : Nat, bl = (nx + nk + nv) % 4294967296 := ⟨_, rfl⟩
  rw [← hkl, ← hel, ← hsq, ← hbl]
  have HKL : Hid (IntKind.u16.wrap (nk : Int) = (kl : Nat)) := Lib.hid (by show (nk : Int) % 65536 = _; omega)
  have HEL : Hid (IntKind.u8.wrap (nx : Int) = (el : Nat)) := Lib.hid (by show (nx : Int) % 256 = _; omega)
  have HSQ : Hid (IntKind.u16.wrap st = (sq : Nat)) := Lib.hid (by show st % 65536 = _; omega)
  have HBL : Hid (IntKind.u32.wrap (IntKind.i64.wrap (IntKind.i64.wrap ((nx : Int) + (nk : Int)) + (nv : Int))) = (bl : Nat)) := Lib.hid (by rw [IntWalk.i64_in ((nx : Int) + (nk : Int)) (by omega), IntWalk.i64_in _ (by omega)]; show ((nx : Int) + (nk : Int) + (nv : Int)) % 4294967296 = _; omega)
  have hF : HdF 129 (codeB op qt fu) kl el 0 sq bl oq cas := ⟨by omega, hcb, by omega, by omega, by omega, by omega, by omega, hoq, hcas⟩
  have HB := Lib.hid (fun W (b : Below w.heap.size w W) => rbytes19 129 (codeB op qt fu) kl el 0 sq bl oq cas hF X K V nx cx nk ck nv cv hs lx lk lv W ((rx.below b).more b.size) ((rk.below b).more b.size) ((rv.below b).more b.size))
  unfold frV frC at HB
  clear hkl hel hsq hbl hF hcb rx rk rv
  unfold reqV at HOF ⊢
  generalize codeB op qt fu = cb at HOF HB ⊢
  go_enter Try.func80, Try.ntmps80
  go_upto_region 1 with fail
  generalize (w.alloc (.cells #[.int .i64 op, .bool qt, .bool fu, .int .i64 bad, .int .u32 (oq : Nat), KQ, VQ, .int .u32 (fl : Nat), .int .u32 (ex : Nat), .int .u64 (cs : Nat), .int .u64 (dl : Nat), .int .u64 (ini : Nat)] 26)).alloc (.cells #[.slice X nx cx, .slice K nk ck, .slice V nv cv] 120) = W0 at kq ka b ⊢
  go_cut [9] (fun s9 wx => FrQ21 #[.int .u8 129, .int .u8 (cb : Nat), .int .u16 (kl : Nat), .int .u8 (el : Nat), .int .u8 0, .int .u16 (sq : Nat), .int .u32 (bl : Nat), .int .u32 (oq : Nat), .int .u64 (cas : Nat)] w.heap.size #[.slice X nx cx, .slice K nk ck, .slice V nv cv] s9 wx w)
  case first =>
    refine wp_region_noPanic ?_
    refine region_T (fun wx => Blk wx w.heap.size #[.int .i64 op, .bool qt, .bool fu, .int .i64 bad, .int .u32 (oq : Nat), KQ, VQ, .int .u32 (fl : Nat), .int .u32 (ex : Nat), .int .u64 (cs : Nat), .int .u64 (dl : Nat), .int .u64 (ini : Nat)] 26 ∧ Blk wx (w.heap.size + 1) #[.slice X nx cx, .slice K nk ck, .slice V nv cv] 120) 29 (by kernel_rfl) ?_
    have bD : Below W0.heap.size W0 W0.drew := (Below.refl _ _).drew
    replace kq := kq.step bD
    replace ka := ka.step bD
    replace b := below_step b bD
    have hHeld := And.intro kq ka
    clear bD
    generalize W0.drew = Y0 at kq ka b hHeld ⊢
    refine takeT (i := 0) (v := ?_) rfl (by kernel_rfl) (by kernel_rfl) (by decide) (by kernel_rfl) (by kernel_rfl) (fun _ _ _ h => h) (Or.inl ⟨by rfl, ?_⟩) hHeld ?_
    rotate_left
    · (intro wx hSw; obtain ⟨sa, sb⟩ := hSw; obtain ⟨a0, a1, a2, a3, a4, a5, a6, a7, a8, a9, a10, a11⟩ := box12 sa; obtain ⟨c0, c1, c2⟩ := box3 sb; go_simp; try (with_reducible rfl))
    try simp only [Act.put, List.setIfInBounds_toArray, List.set_cons_zero, List.set_cons_succ]
    refine takeT (i := 2) (v := ?_) rfl (by kernel_rfl) (by kernel_rfl) (by decide) (by kernel_rfl) (by kernel_rfl) (fun _ _ _ h => h) (Or.inl ⟨by rfl, ?_⟩) hHeld ?_
    rotate_left
    · (intro wx hSw; obtain ⟨sa, sb⟩ := hSw; obtain ⟨a0, a1, a2, a3, a4, a5, a6, a7, a8, a9, a10, a11⟩ := box12 sa; obtain ⟨c0, c1, c2⟩ := box3 sb; go_simp; try (with_reducible rfl))
    try simp only [Act.put, List.setIfInBounds_toArray, List.set_cons_zero, List.set_cons_succ]
    refine takeT (i := 3) (v := ?_) rfl (by kernel_rfl) (by kernel_rfl) (by decide) (by kernel_rfl) (by kernel_rfl) (fun _ _ _ h => h) (Or.inl ⟨by rfl, ?_⟩) hHeld ?_
    rotate_left
    · (intro wx hSw; obtain ⟨sa, sb⟩ := hSw; obtain ⟨a0, a1, a2, a3, a4, a5, a6, a7, a8, a9, a10, a11⟩ := box12 sa; obtain ⟨c0, c1, c2⟩ := box3 sb; go_simp; try (with_reducible rfl))
    try simp only [Act.put, List.setIfInBounds_toArray, List.set_cons_zero, List.set_cons_succ]
    refine takeT (i := 4) (v := ?_) rfl (by kernel_rfl) (by kernel_rfl) (by decide) (by kernel_rfl) (by kernel_rfl) (fun _ _ _ h => h) (Or.inl ⟨by rfl, ?_⟩) hHeld ?_
    rotate_left
    · (intro wx hSw; obtain ⟨sa, sb⟩ := hSw; obtain ⟨a0, a1, a2, a3, a4, a5, a6, a7, a8, a9, a10, a11⟩ := box12 sa; obtain ⟨c0, c1, c2⟩ := box3 sb; go_simp; try (with_reducible rfl))
    try simp only [Act.put, List.setIfInBounds_toArray, List.set_cons_zero, List.set_cons_succ]
    refine takeT (i := 5) (v := ?_) rfl (by kernel_rfl) (by kernel_rfl) (by decide) (by kernel_rfl) (by kernel_rfl) (fun _ _ _ h => h) (Or.inl ⟨by rfl, ?_⟩) hHeld ?_
    rotate_left
    · (intro wx hSw; obtain ⟨sa, sb⟩ := hSw; obtain ⟨a0, a1, a2, a3, a4, a5, a6, a7, a8, a9, a10, a11⟩ := box12 sa; obtain ⟨c0, c1, c2⟩ := box3 sb; go_simp; rw [HKL.out]; try (with_reducible rfl))
    try simp only [Act.put, List.setIfInBounds_toArray, List.set_cons_zero, List.set_cons_succ]
    refine takeT (i := 6) (v := ?_) rfl (by kernel_rfl) (by kernel_rfl) (by decide) (by kernel_rfl) (by kernel_rfl) (fun _ _ _ h => h) (Or.inl ⟨by rfl, ?_⟩) hHeld ?_
    rotate_left
    · (intro wx hSw; obtain ⟨sa, sb⟩ := hSw; obtain ⟨a0, a1, a2, a3, a4, a5, a6, a7, a8, a9, a10, a11⟩ := box12 sa; obtain ⟨c0, c1, c2⟩ := box3 sb; go_simp; try (with_reducible rfl))
    try simp only [Act.put, List.setIfInBounds_toArray, List.set_cons_zero, List.set_cons_succ]
    refine takeT (i := 7) (v := ?_) rfl (by kernel_rfl) (by kernel_rfl) (by decide) (by kernel_rfl) (by kernel_rfl) (fun _ _ _ h => h) (Or.inl ⟨by rfl, ?_⟩) hHeld ?_
    rotate_left
    · (intro wx hSw; obtain ⟨sa, sb⟩ := hSw; obtain ⟨a0, a1, a2, a3, a4, a5, a6, a7, a8, a9, a10, a11⟩ := box12 sa; obtain ⟨c0, c1, c2⟩ := box3 sb; go_simp; try (with_reducible rfl))
    try simp only [Act.put, List.setIfInBounds_toArray, List.set_cons_zero, List.set_cons_succ]
    refine takeT (i := 8) (v := ?_) rfl (by kernel_rfl) (by kernel_rfl) (by decide) (by kernel_rfl) (by kernel_rfl) (fun _ _ _ h => h) (Or.inl ⟨by rfl, ?_⟩) hHeld ?_
    rotate_left
    · (intro wx hSw; obtain ⟨sa, sb⟩ := hSw; obtain ⟨a0, a1, a2, a3, a4, a5, a6, a7, a8, a9, a10, a11⟩ := box12 sa; obtain ⟨c0, c1, c2⟩ := box3 sb; go_simp; try (with_reducible rfl))
    try simp only [Act.put, List.setIfInBounds_toArray, List.set_cons_zero, List.set_cons_succ]
    refine takeT (i := 9) (v := ?_) rfl (by kernel_rfl) (by kernel_rfl) (by decide) (by kernel_rfl) (by kernel_rfl) (fun _ _ _ h => h) (Or.inl ⟨by rfl, ?_⟩) hHeld ?_
    rotate_left
    · (intro wx hSw; obtain ⟨sa, sb⟩ := hSw; obtain ⟨a0, a1, a2, a3, a4, a5, a6, a7, a8, a9, a10, a11⟩ := box12 sa; obtain ⟨c0, c1, c2⟩ := box3 sb; go_simp; rw [HEL.out]; try (with_reducible rfl))
    try simp only [Act.put, List.setIfInBounds_toArray, List.set_cons_zero, List.set_cons_succ]
    refine takeT (i := 10) (v := ?_) rfl (by kernel_rfl) (by kernel_rfl) (by decide) (by kernel_rfl) (by kernel_rfl) (fun _ _ _ h => h) (Or.inl ⟨by rfl, ?_⟩) hHeld ?_
    rotate_left
    · (intro wx hSw; obtain ⟨sa, sb⟩ := hSw; obtain ⟨a0, a1, a2, a3, a4, a5, a6, a7, a8, a9, a10, a11⟩ := box12 sa; obtain ⟨c0, c1, c2⟩ := box3 sb; go_simp; try (with_reducible rfl))
    try simp only [Act.put, List.setIfInBounds_toArray, List.set_cons_zero, List.set_cons_succ]
    refine takeT (i := 11) (v := ?_) rfl (by kernel_rfl) (by kernel_rfl) (by decide) (by kernel_rfl) (by kernel_rfl) (fun _ _ _ h => h) (Or.inl ⟨by rfl, ?_⟩) hHeld ?_
    rotate_left
    · (intro wx hSw; obtain ⟨sa, sb⟩ := hSw; obtain ⟨a0, a1, a2, a3, a4, a5, a6, a7, a8, a9, a10, a11⟩ := box12 sa; obtain ⟨c0, c1, c2⟩ := box3 sb; go_simp; rw [HSQ.out]; try (with_reducible rfl))
    try simp only [Act.put, List.setIfInBounds_toArray, List.set_cons_zero, List.set_cons_succ]
    refine takeT (i := 12) (v := ?_) rfl (by kernel_rfl) (by kernel_rfl) (by decide) (by kernel_rfl) (by kernel_rfl) (fun _ _ _ h => h) (Or.inl ⟨by rfl, ?_⟩) hHeld ?_
    rotate_left
    · (intro wx hSw; obtain ⟨sa, sb⟩ := hSw; obtain ⟨a0, a1, a2, a3, a4, a5, a6, a7, a8, a9, a10, a11⟩ := box12 sa; obtain ⟨c0, c1, c2⟩ := box3 sb; go_simp; try (with_reducible rfl))
    try simp only [Act.put, List.setIfInBounds_toArray, List.set_cons_zero, List.set_cons_succ]
    refine takeT (i := 13) (v := ?_) rfl (by kernel_rfl) (by kernel_rfl) (by decide) (by kernel_rfl) (by kernel_rfl) (fun _ _ _ h => h) (Or.inl ⟨by rfl, ?_⟩) hHeld ?_
    rotate_left
    · (intro wx hSw; obtain ⟨sa, sb⟩ := hSw; obtain ⟨a0, a1, a2, a3, a4, a5, a6, a7, a8, a9, a10, a11⟩ := box12 sa; obtain ⟨c0, c1, c2⟩ := box3 sb; go_simp; try (with_reducible rfl))
    try simp only [Act.put, List.setIfInBounds_toArray, List.set_cons_zero, List.set_cons_succ]
    refine takeT (i := 14) (v := ?_) rfl (by kernel_rfl) (by kernel_rfl) (by decide) (by kernel_rfl) (by kernel_rfl) (fun _ _ _ h => h) (Or.inl ⟨by rfl, ?_⟩) hHeld ?_
    rotate_left
    · (intro wx hSw; obtain ⟨sa, sb⟩ := hSw; obtain ⟨a0, a1, a2, a3, a4, a5, a6, a7, a8, a9, a10, a11⟩ := box12 sa; obtain ⟨c0, c1, c2⟩ := box3 sb; go_simp; try (with_reducible rfl))
    try simp only [Act.put, List.setIfInBounds_toArray, List.set_cons_zero, List.set_cons_succ]
    refine takeT (i := 15) (v := ?_) rfl (by kernel_rfl) (by kernel_rfl) (by decide) (by kernel_rfl) (by kernel_rfl) (fun _ _ _ h => h) (Or.inl ⟨by rfl, ?_⟩) hHeld ?_
    rotate_left
    · (intro wx hSw; obtain ⟨sa, sb⟩ := hSw; obtain ⟨a0, a1, a2, a3, a4, a5, a6, a7, a8, a9, a10, a11⟩ := box12 sa; obtain ⟨c0, c1, c2⟩ := box3 sb; go_simp; try (with_reducible rfl))
    try simp only [Act.put, List.setIfInBounds_toArray, List.set_cons_zero, List.set_cons_succ]
    refine takeT (i := 16) (v := ?_) rfl (by kernel_rfl) (by kernel_rfl) (by decide) (by kernel_rfl) (by kernel_rfl) (fun _ _ _ h => h) (Or.inl ⟨by rfl, ?_⟩) hHeld ?_
    rotate_left
    · (intro wx hSw; obtain ⟨sa, sb⟩ := hSw; obtain ⟨a0, a1, a2, a3, a4, a5, a6, a7, a8, a9, a10, a11⟩ := box12 sa; obtain ⟨c0, c1, c2⟩ := box3 sb; go_simp; try (with_reducible rfl))
    try simp only [Act.put, List.setIfInBounds_toArray, List.set_cons_zero, List.set_cons_succ]
    refine takeT (i := 17) (v := ?_) rfl (by kernel_rfl) (by kernel_rfl) (by decide) (by kernel_rfl) (by kernel_rfl) (fun _ _ _ h => h) (Or.inl ⟨by rfl, ?_⟩) hHeld ?_
    rotate_left
    · (intro wx hSw; obtain ⟨sa, sb⟩ := hSw; obtain ⟨a0, a1, a2, a3, a4, a5, a6, a7, a8, a9, a10, a11⟩ := box12 sa; obtain ⟨c0, c1, c2⟩ := box3 sb; go_simp; try (with_reducible rfl))
    try simp only [Act.put, List.setIfInBounds_toArray, List.set_cons_zero, List.set_cons_succ]
    refine takeT (i := 18) (v := ?_) rfl (by kernel_rfl) (by kernel_rfl) (by decide) (by kernel_rfl) (by kernel_rfl) (fun _ _ _ h => h) (Or.inl ⟨by rfl, ?_⟩) hHeld ?_
    rotate_left
    · (intro wx hSw; obtain ⟨sa, sb⟩ := hSw; obtain ⟨a0, a1, a2, a3, a4, a5, a6, a7, a8, a9, a10, a11⟩ := box12 sa; obtain ⟨c0, c1, c2⟩ := box3 sb; go_simp; try (with_reducible rfl))
    try simp only [Act.put, List.setIfInBounds_toArray, List.set_cons_zero, List.set_cons_succ]
    refine takeT (i := 19) (v := ?_) rfl (by kernel_rfl) (by kernel_rfl) (by decide) (by kernel_rfl) (by kernel_rfl) (fun _ _ _ h => h) (Or.inl ⟨by rfl, ?_⟩) hHeld ?_
    rotate_left
    · (intro wx hSw; obtain ⟨sa, sb⟩ := hSw; obtain ⟨a0, a1, a2, a3, a4, a5, a6, a7, a8, a9, a10, a11⟩ := box12 sa; obtain ⟨c0, c1, c2⟩ := box3 sb; go_simp; try (with_reducible rfl))
    try simp only [Act.put, List.setIfInBounds_toArray, List.set_cons_zero, List.set_cons_succ]
    refine takeT (i := 20) (v := ?_) rfl (by kernel_rfl) (by kernel_rfl) (by decide) (by kernel_rfl) (by kernel_rfl) (fun _ _ _ h => h) (Or.inl ⟨by rfl, ?_⟩) hHeld ?_
    rotate_left
    · (intro wx hSw; obtain ⟨sa, sb⟩ := hSw; obtain ⟨a0, a1, a2, a3, a4, a5, a6, a7, a8, a9, a10, a11⟩ := box12 sa; obtain ⟨c0, c1, c2⟩ := box3 sb; go_simp; try (with_reducible rfl))
    try simp only [Act.put, List.setIfInBounds_toArray, List.set_cons_zero, List.set_cons_succ]
    refine takeT (i := 21) (v := ?_) rfl (by kernel_rfl) (by kernel_rfl) (by decide) (by kernel_rfl) (by kernel_rfl) (fun _ _ _ h => h) (Or.inl ⟨by rfl, ?_⟩) hHeld ?_
    rotate_left
    · (intro wx hSw; obtain ⟨sa, sb⟩ := hSw; obtain ⟨a0, a1, a2, a3, a4, a5, a6, a7, a8, a9, a10, a11⟩ := box12 sa; obtain ⟨c0, c1, c2⟩ := box3 sb; go_simp; try (with_reducible rfl))
    try simp only [Act.put, List.setIfInBounds_toArray, List.set_cons_zero, List.set_cons_succ]
    refine takeT (i := 22) (v := ?_) rfl (by kernel_rfl) (by kernel_rfl) (by decide) (by kernel_rfl) (by kernel_rfl) (fun _ _ _ h => h) (Or.inl ⟨by rfl, ?_⟩) hHeld ?_
    rotate_left
    · (intro wx hSw; obtain ⟨sa, sb⟩ := hSw; obtain ⟨a0, a1, a2, a3, a4, a5, a6, a7, a8, a9, a10, a11⟩ := box12 sa; obtain ⟨c0, c1, c2⟩ := box3 sb; go_simp; try (with_reducible rfl))
    try simp only [Act.put, List.setIfInBounds_toArray, List.set_cons_zero, List.set_cons_succ]
    refine takeT (i := 23) (v := ?_) rfl (by kernel_rfl) (by kernel_rfl) (by decide) (by kernel_rfl) (by kernel_rfl) (fun _ _ _ h => h) (Or.inl ⟨by rfl, ?_⟩) hHeld ?_
    rotate_left
    · (intro wx hSw; obtain ⟨sa, sb⟩ := hSw; obtain ⟨a0, a1, a2, a3, a4, a5, a6, a7, a8, a9, a10, a11⟩ := box12 sa; obtain ⟨c0, c1, c2⟩ := box3 sb; go_simp; rw [HBL.out]; try (with_reducible rfl))
    try simp only [Act.put, List.setIfInBounds_toArray, List.set_cons_zero, List.set_cons_succ]
    refine takeT (i := 24) (v := ?_) rfl (by kernel_rfl) (by kernel_rfl) (by decide) (by kernel_rfl) (by kernel_rfl) (fun _ _ _ h => h) (Or.inl ⟨by rfl, ?_⟩) hHeld ?_
    rotate_left
    · (intro wx hSw; obtain ⟨sa, sb⟩ := hSw; obtain ⟨a0, a1, a2, a3, a4, a5, a6, a7, a8, a9, a10, a11⟩ := box12 sa; obtain ⟨c0, c1, c2⟩ := box3 sb; go_simp; try (with_reducible rfl))
    try simp only [Act.put, List.setIfInBounds_toArray, List.set_cons_zero, List.set_cons_succ]
    refine takeT (i := 25) (v := ?_) rfl (by kernel_rfl) (by kernel_rfl) (by decide) (by kernel_rfl) (by kernel_rfl) (fun _ _ _ h => h) (Or.inl ⟨by rfl, ?_⟩) hHeld ?_
    rotate_left
    · (intro wx hSw; obtain ⟨sa, sb⟩ := hSw; obtain ⟨a0, a1, a2, a3, a4, a5, a6, a7, a8, a9, a10, a11⟩ := box12 sa; obtain ⟨c0, c1, c2⟩ := box3 sb; go_simp; try (with_reducible rfl))
    try simp only [Act.put, List.setIfInBounds_toArray, List.set_cons_zero, List.set_cons_succ]
    refine takeT (i := 26) (v := ?_) rfl (by kernel_rfl) (by kernel_rfl) (by decide) (by kernel_rfl) (by kernel_rfl) (fun _ _ _ h => h) (Or.inl ⟨by rfl, ?_⟩) hHeld ?_
    rotate_left
    · (intro wx hSw; obtain ⟨sa, sb⟩ := hSw; obtain ⟨a0, a1, a2, a3, a4, a5, a6, a7, a8, a9, a10, a11⟩ := box12 sa; obtain ⟨c0, c1, c2⟩ := box3 sb; go_simp; try (with_reducible rfl))
    try simp only [Act.put, List.setIfInBounds_toArray, List.set_cons_zero, List.set_cons_succ]
    refine twoT (i := 1) (j := 28) rfl rfl (by kernel_rfl) (fun KK hK => ?_) (fun KK hK => ?_)
    · go_simp
      refine (HOF.out Y0).mono ?_
      rintro e Y1 ⟨rfl, b1⟩
      replace kq := kq.step b1
      replace ka := ka.step b1
      replace b := below_step b b1
      clear b1
      replace hHeld := And.intro kq ka
      refine hK.out _ _ (fun _ => hHeld) ?_
      clear hK KK
      try simp only [Act.put, List.setIfInBounds_toArray, List.set_cons_zero, List.set_cons_succ]
      refine takeT (i := 27) (v := ?_) rfl (by kernel_rfl) (by kernel_rfl) (by decide) (by kernel_rfl) (by kernel_rfl) (fun _ _ _ h => h) (Or.inl ⟨by rfl, ?_⟩) hHeld ?_
      rotate_left
      · (intro wx hSw; obtain ⟨sa, sb⟩ := hSw; obtain ⟨a0, a1, a2, a3, a4, a5, a6, a7, a8, a9, a10, a11⟩ := box12 sa; obtain ⟨c0, c1, c2⟩ := box3 sb; go_simp; try (with_reducible rfl))
      try simp only [Act.put, List.setIfInBounds_toArray, List.set_cons_zero, List.set_cons_succ]
      refine oneT (i := 28) rfl (by kernel_rfl) (fun KK hK => ?_)
      go_simp
      have hg9 := ka.lt
      have k9 := Blk.new Y1 #[.int .u8 0, .int .u8 0, .int .u16 0, .int .u8 0, .int .u8 0, .int .u16 0, .int .u32 0, .int .u32 0, .int .u64 0] 59
      have b1 := below_a1' (Below.refl Y1.heap.size Y1) (.cells #[.int .u8 0, .int .u8 0, .int .u16 0, .int .u8 0, .int .u8 0, .int .u16 0, .int .u32 0, .int .u32 0, .int .u64 0] 59)
      replace kq := kq.step b1
      replace ka := ka.step b1
      replace b := below_step b b1
      generalize hW : Y1.alloc (.cells #[.int .u8 0, .int .u8 0, .int .u16 0, .int .u8 0, .int .u8 0, .int .u16 0, .int .u32 0, .int .u32 0, .int .u64 0] 59) = Y2 at k9 kq ka b b1 ⊢
      clear hW
      generalize hG : Y1.heap.size = g9 at k9 hg9 b1 ⊢
      clear b1
      replace hHeld := And.intro kq ka
      refine hK.out _ _ (fun _ => hHeld) ?_
      clear hK KK
      try simp only [Act.put, List.setIfInBounds_toArray, List.set_cons_zero, List.set_cons_succ]
      obtain ⟨z0, z1, z2, z3, z4, z5, z6, z7, z8⟩ := box9 k9
      have y0 := k9.frozen 0
      have y1 := k9.frozen 1
      have y2 := k9.frozen 2
      have y3 := k9.frozen 3
      have y4 := k9.frozen 4
      have y5 := k9.frozen 5
      have y6 := k9.frozen 6
      have y7 := k9.frozen 7
      have y8 := k9.frozen 8
      refine oneT (i := 29) rfl (by kernel_rfl) (fun KK hK => ?_)
      go_simp
      have gf := grown_set9 Y2 g9 (.int .u8 129) (.int .u8 (cb : Nat)) (.int .u16 (kl : Nat)) (.int .u8 (el : Nat)) (.int .u8 0) (.int .u16 (sq : Nat)) (.int .u32 (bl : Nat)) (.int .u32 (oq : Nat)) (.int .u64 (cas : Nat))
      have kf := blk_set9 k9 (.int .u8 129) (.int .u8 (cb : Nat)) (.int .u16 (kl : Nat)) (.int .u8 (el : Nat)) (.int .u8 0) (.int .u16 (sq : Nat)) (.int .u32 (bl : Nat)) (.int .u32 (oq : Nat)) (.int .u64 (cas : Nat))
      have ka := ka.left gf (by omega)
      have b := b.trans (below_grown gf (by omega) k9.lt)
      refine hK.out _ _ (fun h => absurd h (by decide)) ?_
      clear hK KK
      try simp only [Act.put, List.setIfInBounds_toArray, List.set_cons_zero, List.set_cons_succ]
      refine doneT (by kernel_rfl) ?_ _
      refine NoPanic.normal ?_
      go_wp2_with fail
      go_meet
      exact ⟨g9, rfl, kf, ka, b⟩
    · go_simp
      have hg9 := ka.lt
      have k9 := Blk.new Y0 #[.int .u8 0, .int .u8 0, .int .u16 0, .int .u8 0, .int .u8 0, .int .u16 0, .int .u32 0, .int .u32 0, .int .u64 0] 59
      have b1 := below_a1' (Below.refl Y0.heap.size Y0) (.cells #[.int .u8 0, .int .u8 0, .int .u16 0, .int .u8 0, .int .u8 0, .int .u16 0, .int .u32 0, .int .u32 0, .int .u64 0] 59)
      replace kq := kq.step b1
      replace ka := ka.step b1
      replace b := below_step b b1
      generalize hW : Y0.alloc (.cells #[.int .u8 0, .int .u8 0, .int .u16 0, .int .u8 0, .int .u8 0, .int .u16 0, .int .u32 0, .int .u32 0, .int .u64 0] 59) = Y1 at k9 kq ka b b1 ⊢
      clear hW
      generalize hG : Y0.heap.size = g9 at k9 hg9 b1 ⊢
      clear b1
      replace hHeld := And.intro kq ka
      refine hK.out _ _ (fun _ => hHeld) ?_
      clear hK KK
      try simp only [Act.put, List.setIfInBounds_toArray, List.set_cons_zero, List.set_cons_succ]
      refine oneT (i := 1) rfl (by kernel_rfl) (fun KK hK => ?_)
      go_simp
      refine (HOF.out Y1).mono ?_
      rintro e Y2 ⟨rfl, b1⟩
      replace kq := kq.step b1
      replace ka := ka.step b1
      replace b := below_step b b1
      have k9 := k9.step b1
      clear b1
      replace hHeld := And.intro kq ka
      refine hK.out _ _ (fun _ => hHeld) ?_
      clear hK KK
      try simp only [Act.put, List.setIfInBounds_toArray, List.set_cons_zero, List.set_cons_succ]
      refine takeT (i := 27) (v := ?_) rfl (by kernel_rfl) (by kernel_rfl) (by decide) (by kernel_rfl) (by kernel_rfl) (fun _ _ _ h => h) (Or.inl ⟨by rfl, ?_⟩) hHeld ?_
      rotate_left
      · (intro wx hSw; obtain ⟨sa, sb⟩ := hSw; obtain ⟨a0, a1, a2, a3, a4, a5, a6, a7, a8, a9, a10, a11⟩ := box12 sa; obtain ⟨c0, c1, c2⟩ := box3 sb; go_simp; try (with_reducible rfl))
      try simp only [Act.put, List.setIfInBounds_toArray, List.set_cons_zero, List.set_cons_succ]
      obtain ⟨z0, z1, z2, z3, z4, z5, z6, z7, z8⟩ := box9 k9
      have y0 := k9.frozen 0
      have y1 := k9.frozen 1
      have y2 := k9.frozen 2
      have y3 := k9.frozen 3
      have y4 := k9.frozen 4
      have y5 := k9.frozen 5
      have y6 := k9.frozen 6
      have y7 := k9.frozen 7
      have y8 := k9.frozen 8
      refine oneT (i := 29) rfl (by kernel_rfl) (fun KK hK => ?_)
      go_simp
      have gf := grown_set9 Y2 g9 (.int .u8 129) (.int .u8 (cb : Nat)) (.int .u16 (kl : Nat)) (.int .u8 (el : Nat)) (.int .u8 0) (.int .u16 (sq : Nat)) (.int .u32 (bl : Nat)) (.int .u32 (oq : Nat)) (.int .u64 (cas : Nat))
      have kf := blk_set9 k9 (.int .u8 129) (.int .u8 (cb : Nat)) (.int .u16 (kl : Nat)) (.int .u8 (el : Nat)) (.int .u8 0) (.int .u16 (sq : Nat)) (.int .u32 (bl : Nat)) (.int .u32 (oq : Nat)) (.int .u64 (cas : Nat))
      have ka := ka.left gf (by omega)
      have b := b.trans (below_grown gf (by omega) k9.lt)
      refine hK.out _ _ (fun h => absurd h (by decide)) ?_
      clear hK KK
      try simp only [Act.put, List.setIfInBounds_toArray, List.set_cons_zero, List.set_cons_succ]
      refine doneT (by kernel_rfl) ?_ _
      refine NoPanic.normal ?_
      go_wp2_with fail
      go_meet
      exact ⟨g9, rfl, kf, ka, b⟩
  case rest =>
    obtain ⟨g9, rfl, k9, ka, b⟩ := hcut
    clear kq
    obtain ⟨z0, z1, z2, z3, z4, z5, z6, z7, z8⟩ := box9 k9
    obtain ⟨c0, c1, c2⟩ := box3 ka
    go_wp2_with fail
    refine (HB.out _ b).mono ?_
    rintro e w2 ⟨A2, c2, rfl, o2, b2⟩
    go_wp2_with fail
    go_ret
    exact ⟨A2, c2, rfl, o2.more b.size, below_step b b2⟩
end
end Go.Proofs.Ytnghmgbmflcngaa

/- A frame's header: its shape, whether it may be, its bytes. Conditions: typed in each theorem. -/
import Derived.Test.YtnghmgbmflcngaaOctr
import Derived.Deep.RegionHeld3
namespace Go.Proofs.Ytnghmgbmflcngaa
set_option linter.unusedVariables false
open Go.RowKit

def hdV (mg op kl el ty st bl oq cas : Nat) : Value :=
  .agg #[.int .u8 mg, .int .u8 op, .int .u16 kl, .int .u8 el, .int .u8 ty, .int .u16 st, .int .u32 bl, .int .u32 oq, .int .u64 cas]
/-- Its numbers' bounds. -/
def HdF (mg op kl el ty st bl oq cas : Nat) : Prop := mg < 256 ∧ op < 256 ∧ kl < 65536 ∧ el < 256 ∧ ty < 256 ∧ st < 65536 ∧ bl < 4294967296 ∧ oq < 4294967296 ∧ cas < 18446744073709551616
def mayB (mg kl el bl : Nat) : Bool := (mg == 128 || mg == 129) && decide (kl + el ≤ bl)
def BoxQ (v : Value) (w : World) (e : Ending) (w' : World) : Prop := e = .returned v ∧ Below w.heap.size w w'
theorem mayB_yes {m kl el bl : Nat} (h : m = 128 ∨ m = 129) : mayB m kl el bl = decide (kl + el ≤ bl) := by
  rcases h with rfl | rfl <;> simp [mayB]
theorem mayB_no {m kl el bl : Nat} (h : m ≠ 128) (h' : m ≠ 129) : mayB m kl el bl = false := by
  unfold mayB
  rw [show (m == 128) = false from beq_eq_false_iff_ne.2 h, show (m == 129) = false from beq_eq_false_iff_ne.2 h']; rfl
theorem eqNf {x : Nat} {k : Int} (h : (x : Int) ≠ k) : ((x : Int) == k) = false := by rw [beq_eq_false_iff_ne]; exact h
theorem retB {a b : Bool} (h : a = b) : Ending.returned (.bool a) = .returned (.bool b) := by rw [h]

set_option maxRecDepth 100000 in
set_option maxHeartbeats 400000 in
theorem may_any (mg op kl el ty st bl oq cas : Nat) (hf : HdF mg op kl el ty st bl oq cas) (w : World) :
    Calls Try.prog 102 #[hdV mg op kl el ty st bl oq cas] w (BoxQ (.bool (mayB mg kl el bl)) w) := by
  obtain ⟨f0, f1, f2, f3, f4, f5, f6, f7, f8⟩ := hf
  unfold hdV
  by_cases h1 : mg = 128 ∨ mg = 129
  · rw [mayB_yes h1]
    rcases h1 with rfl | rfl
    all_goals
      go_enter Try.func102, Try.ntmps102
      go_wp2_with fail
      go_ret
      exact ⟨retB (by rw [decide_eq_decide]; omega), below_a1' (Below.refl _ _) _⟩
  · have t0 := eqNf (x := mg) (k := 128) (by omega)
    have t1 := eqNf (x := mg) (k := 129) (by omega)
    rw [mayB_no (by omega) (by omega)]
    clear h1
    go_enter Try.func102, Try.ntmps102
    go_wp2_with fail
    go_ret
    exact ⟨rfl, below_a1' (Below.refl _ _) _⟩
set_option maxRecDepth 100000 in
set_option maxHeartbeats 400000 in
theorem right19_any (mg op kl el ty st bl oq cas : Nat) (hf : HdF mg op kl el ty st bl oq cas) (w : World) :
    Calls Try.prog 100 #[hdV mg op kl el ty st bl oq cas] w (BoxQ (.bool (mayB mg kl el bl)) w) := by
  obtain ⟨f0, f1, f2, f3, f4, f5, f6, f7, f8⟩ := hf
  unfold hdV
  by_cases h1 : mg = 128 ∨ mg = 129
  · rw [mayB_yes h1]
    rcases h1 with rfl | rfl
    all_goals
      go_enter Try.func100, Try.ntmps100
      go_wp2_with fail
      go_ret
      exact ⟨retB (by rw [decide_eq_decide]; omega), below_a1' (Below.refl _ _) _⟩
  · have t0 := eqNf (x := mg) (k := 128) (by omega)
    have t1 := eqNf (x := mg) (k := 129) (by omega)
    rw [mayB_no (by omega) (by omega)]
    clear h1
    go_enter Try.func100, Try.ntmps100
    go_wp2_with fail
    go_ret
    exact ⟨rfl, below_a1' (Below.refl _ _) _⟩

/-- A header's bytes. -/
def hdB (mg op kl el ty st bl oq cas : Nat) : List UInt8 :=
  [UInt8.ofNat mg, UInt8.ofNat op] ++ highB kl 2 ++ [UInt8.ofNat el, UInt8.ofNat ty] ++ highB st 2 ++ highB bl 4 ++ highB oq 4 ++ highB cas 8
theorem hdB_length (mg op kl el ty st bl oq cas : Nat) : (hdB mg op kl el ty st bl oq cas).length = 24 := by simp [hdB, length_highB]
def BytesQ (n : Nat) (l : List UInt8) (w : World) (e : Ending) (w' : World) : Prop := ∃ A' c', e = .returned (.slice A' n c') ∧ Own w' w.heap.size A' n c' l ∧ Below w.heap.size w w'

theorem cb_ofNat {x : Nat} (h : x < 256) : Value.int .u8 (x : Int) = cb (UInt8.ofNat x) := by
  unfold cb
  rw [show (UInt8.ofNat x).toNat = x from by simp; omega]
/-- Two bytes, laid by the call. -/
theorem own_two {w : World} {x y : Nat} (hx : x < 256) (hy : y < 256) (B k : Nat) (hk : w.heap.size = k) (hB : B ≤ k) : Own (w.alloc (.cells #[.int .u8 (x : Int), .int .u8 (y : Int)] 5)) B (some ⟨k, 0, none⟩) 2 2 [UInt8.ofNat x, UInt8.ofNat y] :=
  Own.litK w k _ B 2 _ hk hB (by simp [maxLen]) rfl (by rw [cb_ofNat hx, cb_ofNat hy]; rfl)

def hdC (mg op kl el ty st bl oq cas : Nat) : Array Value := #[.int .u8 mg, .int .u8 op, .int .u16 kl, .int .u8 el, .int .u8 ty, .int .u16 st, .int .u32 bl, .int .u32 oq, .int .u64 cas]
set_option maxRecDepth 100000 in
set_option maxHeartbeats 2000000 in
theorem putHeader_any (mg op kl el ty st bl oq cas : Nat) (hf : HdF mg op kl el ty st bl oq cas) (w : World) :
    Calls Try.prog 104 #[hdV mg op kl el ty st bl oq cas] w (BytesQ 24 (hdB mg op kl el ty st bl oq cas) w) := by
  obtain ⟨f0, f1, f2, f3, f4, f5, f6, f7, f8⟩ := hf
  have k0 : Blk _ _ (hdC mg op kl el ty st bl oq cas) _ := Blk.new w _ 59
  unfold hdV
  go_enter Try.func104, Try.ntmps104
  go_wp2_with fail
  refine (put16_any _ 2 2 _ kl f2 [UInt8.ofNat mg, UInt8.ofNat op] _ (Own.rd (own_two f0 f1 0 _ (by simp) (by omega))) (Nat.le_refl _) (by omega)).mono ?_
  rintro e w1 ⟨A1, c1, rfl, o1, b1⟩
  replace k0 := (k0.alloc _).step b1
  have b : Below w.heap.size w w1 := (below_a1' (below_a1' (Below.refl _ _) _) _).trans (b1.mono (by simp; omega))
  obtain ⟨q0, q1, q2, q3, q4, q5, q6, q7, q8⟩ := box9 k0
  simp only [World.size_alloc] at o1
  go_wp2_with fail
  have hs1 : w.heap.size + 1 + 1 ≤ w1.heap.size := by have := b1.size; simpa using this
  have oa : Own (w1.alloc (.cells #[.int .u8 (el : Int), .int .u8 (ty : Int)] 5)).drew (w.heap.size + 1 + 1) A1 4 c1 ([UInt8.ofNat mg, UInt8.ofNat op] ++ highB kl 2) := o1.alloc _
  have ob : Rd (w1.alloc (.cells #[.int .u8 (el : Int), .int .u8 (ty : Int)] 5)).drew (w1.heap.size + 1) (some ⟨w1.heap.size, 0, none⟩) 2 2 [UInt8.ofNat el, UInt8.ofNat ty] := (Own.rd (own_two f3 f4 0 _ rfl (by omega))).more (by simp)
  have hba : w.heap.size + 1 + 1 ≤ (w1.alloc (.cells #[.int .u8 (el : Int), .int .u8 (ty : Int)] 5)).drew.heap.size := by show _ ≤ (w1.heap.push _).size; simp; omega
  go_region_held3 (fun w' => w'.cell? ⟨w.heap.size, 3, none⟩ = some (.int .u8 el) ∧ w'.cell? ⟨w.heap.size, 4, none⟩ = some (.int .u8 ty) ∧ w'.cell? ⟨w.heap.size, 5, none⟩ = some (.int .u16 st)) (first | exact ⟨q3, q4, q5⟩ | go_keep)
    (first
      | (go_at_call 126
         refine (put16_any A2 6 c2 _ st f5 _ _ o2.rd (Nat.le_refl _) (by omega)).mono ?_
         rintro e w3 ⟨A3, c3, rfl, o3, b3⟩
         replace k0 := k0.step b3
         replace b := below_step b b3
         clear q0 q1 q2 q3 q4 q5 q6 q7 q8
         obtain ⟨q0, q1, q2, q3, q4, q5, q6, q7, q8⟩ := box9 k0)
      | (refine step_app8 _ rfl _ _ rfl _ _ _ _ _ rfl oa _ _ _ _ _ rfl ob (by omega) hba ?_
         intro A2 c2 w2 o2 b2
         replace k0 : Blk w2 w.heap.size _ _ := (b2.block _ (by omega)).trans (k0.alloc _)
         replace b := b.trans ((((Below.refl _ w1).alloc hs1 _).drew.trans b2).mono (by omega))
         clear q0 q1 q2 q3 q4 q5 q6 q7 q8
         obtain ⟨q0, q1, q2, q3, q4, q5, q6, q7, q8⟩ := box9 k0))
  clear oa ob hba o1
  go_wp2_with fail
  go_region_held3 (fun w' => w'.cell? ⟨w.heap.size, 6, none⟩ = some (.int .u32 bl) ∧ w'.cell? ⟨w.heap.size, 7, none⟩ = some (.int .u32 oq) ∧ w'.cell? ⟨w.heap.size, 8, none⟩ = some (.int .u64 cas)) (first | exact ⟨q6, q7, q8⟩ | go_keep)
    (first
      | (go_at_call 87
         refine (put32_any A3 8 c3 _ bl f6 _ _ (o3.rd.drewN 1) (Nat.le_refl _) (by omega)).mono ?_
         rintro e w4 ⟨A4, c4, rfl, o4, b4⟩
         replace k0 : Blk w4 w.heap.size _ _ := Blk.step (w := w3.drew) k0 b4
         replace b := below_step (w1 := w3.drew) b.drew b4
         clear q0 q1 q2 q3 q4 q5 q6 q7 q8
         obtain ⟨q0, q1, q2, q3, q4, q5, q6, q7, q8⟩ := box9 k0)
      | (go_at_call 87
         refine (put32_any A4 12 c4 _ oq f7 _ _ o4.rd (Nat.le_refl _) (by omega)).mono ?_
         rintro e w5 ⟨A5, c5, rfl, o5, b5⟩
         replace k0 := k0.step b5
         replace b := below_step b b5
         clear q0 q1 q2 q3 q4 q5 q6 q7 q8
         obtain ⟨q0, q1, q2, q3, q4, q5, q6, q7, q8⟩ := box9 k0)
      | (go_at_call 88
         refine (put64_any A5 16 c5 _ cas f8 _ _ o5.rd (Nat.le_refl _) (by omega)).mono ?_
         rintro e w6 ⟨A6, c6, rfl, o6, b6⟩
         have hb5 := b.size
         replace k0 := k0.step b6
         replace b := below_step b b6
         clear q0 q1 q2 q3 q4 q5 q6 q7 q8
         obtain ⟨q0, q1, q2, q3, q4, q5, q6, q7, q8⟩ := box9 k0))
  go_wp2_with fail
  go_ret
  exact ⟨A6, c6, rfl, o6.more hb5, b⟩
end Go.Proofs.Ytnghmgbmflcngaa

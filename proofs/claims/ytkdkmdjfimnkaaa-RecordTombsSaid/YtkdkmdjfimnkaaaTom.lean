/- record.Tomb. Conditions: typed in each theorem. -/
import Derived.Test.YtkdkmdjfimnkaaaWho
namespace Go.Proofs.Ytkdkmdjfimnkaaa
set_option linter.unusedVariables false
open Go.RowKit

def TombNo (w : World) (e : Ending) (w' : World) : Prop := e = .returned (.tuple #[zeroRec, .int .i64 160]) ∧ Below w.heap.size w w'
def TombOk (n : Nat) (l : List UInt8) (sq : Nat) (w : World) (e : Ending) (w' : World) : Prop := ∃ K c', e = .returned (.tuple #[.agg #[.int .i64 2, .int .u32 0, .int .u32 0, .int .u64 (sq : Nat), .slice K n c', .slice none 0 0], .int .i64 0]) ∧ Own w' w.heap.size K n c' l ∧ Below w.heap.size w w'
set_option maxRecDepth 20000 in
set_option maxHeartbeats 4000000 in
theorem tomb_ok (A : Option Addr) (n c : Nat) (l : List UInt8) (sq : Nat) (w : World) (h : Rd w w.heap.size A n c l) (hn : n ≤ 281474976710656) (hr : rightR 2 0 0 sq n 0 = true) :
    Calls Try.prog 19 #[.slice A n c, .int .u64 sq] w (TombOk n l sq w) := by
  have k0 := Blk.new w #[.int .i64 0, .int .u32 0, .int .u32 0, .int .u64 0, .slice none 0 0, .slice none 0 0] 26
  have b0 : Below w.heap.size w (w.alloc (.cells #[.int .i64 0, .int .u32 0, .int .u32 0, .int .u64 0, .slice none 0 0, .slice none 0 0] 26)) := below_a1' (Below.refl _ _) _
  have hc : ∀ K c' W, Calls Try.prog 18 #[.agg #[.int .i64 2, .int .u32 0, .int .u32 0, .int .u64 (sq : Nat), .slice K n c', .slice none 0 0]] W fun e w' => e = .returned (.int .i64 0) ∧ Below W.heap.size W w' := fun K c' W => by
    have := check_any 2 0 0 sq K none n c' 0 0 W
    rw [checkR_yes hr] at this
    exact this
  have HC := Lib.hid hc
  clear hc hr
  go_enter Try.func19, Try.ntmps19
  go_wp2_with fail
  generalize w.alloc (.cells #[.int .i64 0, .int .u32 0, .int .u32 0, .int .u64 0, .slice none 0 0, .slice none 0 0] 26) = W0 at k0 b0 ⊢
  refine (clone_any A n c _ l _ (h.below b0) b0.size hn).mono ?_
  rintro e w1 ⟨K, c', rfl, oK, b1⟩
  have ba := below_a1' (Below.refl w1.heap.size w1) (.cells #[.int .i64 2, .int .u32 0, .int .u32 0, .int .u64 (sq : Nat), .slice K n c', .slice none 0 0] 26)
  have hlt : w.heap.size < W0.heap.size := k0.lt
  have k1 := Blk.new w1 #[.int .i64 2, .int .u32 0, .int .u32 0, .int .u64 (sq : Nat), .slice K n c', .slice none 0 0] 26
  replace k0 := (k0.step b1).step ba
  replace b0 := below_step (below_step b0 b1) ba
  replace oK := oK.below ba
  clear b1 ba
  go_wp2_with fail
  refine (HC.out K c' _).mono ?_
  rintro e w2 ⟨rfl, b2⟩
  replace k0 := k0.step b2
  replace k1 := k1.step b2
  replace b0 := below_step b0 b2
  replace oK := oK.below b2
  obtain ⟨q0, q1, q2, q3, q4, q5⟩ := box6 k1
  obtain ⟨z0, z1, z2, z3, z4, z5⟩ := box6 k0
  have y0 := k0.frozen 0
  have y1 := k0.frozen 1
  have y2 := k0.frozen 2
  have y3 := k0.frozen 3
  have y4 := k0.frozen 4
  have y5 := k0.frozen 5
  have kf := blk_set6 k0 (.int .i64 2) (.int .u32 0) (.int .u32 0) (.int .u64 (sq : Nat)) (.slice K n c') (.slice none 0 0)
  have hg := grown_set6 w2 w.heap.size (.int .i64 2) (.int .u32 0) (.int .u32 0) (.int .u64 (sq : Nat)) (.slice K n c') (.slice none 0 0)
  have bff := b0.trans (below_grown hg (Nat.le_refl _) k0.lt)
  have gK := (oK.kept hg hlt).more (Nat.le_of_lt hlt)
  obtain ⟨t0, t1, t2, t3, t4, t5⟩ := box6 kf
  clear kf hg k0 k1 b0 oK b2 HC
  go_wp2_with fail
  refine bodyPost_ret (v := .tuple #[.agg #[.int .i64 2, .int .u32 0, .int .u32 0, .int .u64 (sq : Nat), .slice K n c', .slice none 0 0], .int .i64 0]) (by simp [results, Try.results19, go_sem, t0, t1, t2, t3, t4, t5]) rfl ?_
  exact ⟨K, c', rfl, gK, bff⟩
set_option maxRecDepth 20000 in
set_option maxHeartbeats 4000000 in
theorem tomb_no (A : Option Addr) (n c : Nat) (l : List UInt8) (sq : Nat) (w : World) (h : Rd w w.heap.size A n c l) (hn : n ≤ 281474976710656) (hr : rightR 2 0 0 sq n 0 = false) :
    Calls Try.prog 19 #[.slice A n c, .int .u64 sq] w (TombNo w) := by
  have k0 := Blk.new w #[.int .i64 0, .int .u32 0, .int .u32 0, .int .u64 0, .slice none 0 0, .slice none 0 0] 26
  have b0 : Below w.heap.size w (w.alloc (.cells #[.int .i64 0, .int .u32 0, .int .u32 0, .int .u64 0, .slice none 0 0, .slice none 0 0] 26)) := below_a1' (Below.refl _ _) _
  have hc : ∀ K c' W, Calls Try.prog 18 #[.agg #[.int .i64 2, .int .u32 0, .int .u32 0, .int .u64 (sq : Nat), .slice K n c', .slice none 0 0]] W fun e w' => e = .returned (.int .i64 160) ∧ Below W.heap.size W w' := fun K c' W => by
    have := check_any 2 0 0 sq K none n c' 0 0 W
    rw [checkR_no hr] at this
    exact this
  have HC := Lib.hid hc
  clear hc hr
  go_enter Try.func19, Try.ntmps19
  go_wp2_with fail
  generalize w.alloc (.cells #[.int .i64 0, .int .u32 0, .int .u32 0, .int .u64 0, .slice none 0 0, .slice none 0 0] 26) = W0 at k0 b0 ⊢
  refine (clone_any A n c _ l _ (h.below b0) b0.size hn).mono ?_
  rintro e w1 ⟨K, c', rfl, oK, b1⟩
  have ba := below_a1' (Below.refl w1.heap.size w1) (.cells #[.int .i64 2, .int .u32 0, .int .u32 0, .int .u64 (sq : Nat), .slice K n c', .slice none 0 0] 26)
  have hlt : w.heap.size < W0.heap.size := k0.lt
  have k1 := Blk.new w1 #[.int .i64 2, .int .u32 0, .int .u32 0, .int .u64 (sq : Nat), .slice K n c', .slice none 0 0] 26
  replace k0 := (k0.step b1).step ba
  replace b0 := below_step (below_step b0 b1) ba
  replace oK := oK.below ba
  clear b1 ba
  go_wp2_with fail
  refine (HC.out K c' _).mono ?_
  rintro e w2 ⟨rfl, b2⟩
  replace k0 := k0.step b2
  replace k1 := k1.step b2
  replace b0 := below_step b0 b2
  replace oK := oK.below b2
  obtain ⟨q0, q1, q2, q3, q4, q5⟩ := box6 k1
  obtain ⟨z0, z1, z2, z3, z4, z5⟩ := box6 k0
  have y0 := k0.frozen 0
  have y1 := k0.frozen 1
  have y2 := k0.frozen 2
  have y3 := k0.frozen 3
  have y4 := k0.frozen 4
  have y5 := k0.frozen 5
  have kf := blk_set6 k0 (.int .i64 0) (.int .u32 0) (.int .u32 0) (.int .u64 0) (.slice none 0 0) (.slice none 0 0)
  have hg := grown_set6 w2 w.heap.size (.int .i64 0) (.int .u32 0) (.int .u32 0) (.int .u64 0) (.slice none 0 0) (.slice none 0 0)
  have bff := b0.trans (below_grown hg (Nat.le_refl _) k0.lt)
  have gK := (oK.kept hg hlt).more (Nat.le_of_lt hlt)
  obtain ⟨t0, t1, t2, t3, t4, t5⟩ := box6 kf
  clear kf hg k0 k1 b0 oK b2 HC
  go_wp2_with fail
  refine bodyPost_ret (v := .tuple #[.agg #[.int .i64 0, .int .u32 0, .int .u32 0, .int .u64 0, .slice none 0 0, .slice none 0 0], .int .i64 160]) (by simp [results, Try.results19, go_sem, t0, t1, t2, t3, t4, t5]) rfl ?_
  exact ⟨rfl, bff⟩
end Go.Proofs.Ytkdkmdjfimnkaaa

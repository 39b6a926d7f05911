/- The refusals of frame.Get and of icehouseref19.Get. Conditions: typed in each theorem. -/
import Derived.Test.YtnghmgbmflcngaaFro
namespace Go.Proofs.Ytnghmgbmflcngaa
set_option linter.unusedVariables false
open Go.RowKit

theorem neInt' {x : Int} (h : x ≠ 0) : (x != 0) = true := by rw [bne_iff_ne]; exact h
def GetNo (err : Int) (w : World) (e : Ending) (w' : World) : Prop := e = .returned (.tuple #[zeroFr, .int .i64 0, .int .i64 err]) ∧ Below w.heap.size w w'
set_option maxRecDepth 100000 in
set_option maxHeartbeats 2000000 in
theorem get_no (A : Option Addr) (n c : Nat) (l : List UInt8) (w : World) (h : Rd w w.heap.size A n c l) (he : needE l ≠ 0) : Calls Try.prog 51 #[.slice A n c] w (GetNo (needE l) w) := by
  have k0 := Blk.new w #[.int .u8 0, .int .u8 0, .int .u16 0, .int .u8 0, .int .u8 0, .int .u16 0, .int .u32 0, .int .u32 0, .int .u64 0, .slice none 0 0, .slice none 0 0, .slice none 0 0] 61
  have b0 : Below w.heap.size w (w.alloc (.cells #[.int .u8 0, .int .u8 0, .int .u16 0, .int .u8 0, .int .u8 0, .int .u16 0, .int .u32 0, .int .u32 0, .int .u64 0, .slice none 0 0, .slice none 0 0, .slice none 0 0] 61)) := below_a1' (Below.refl _ _) _
  have hN := fun W (r : Rd W W.heap.size A n c l) => need_any A n c l W r
  have e2 : needN l = 0 := by unfold needN; rw [if_neg he]
  rw [e2] at hN
  have tn := neInt' he
  generalize needE l = er at hN tn ⊢
  have HN := Lib.hid hN
  clear he hN e2
  go_enter Try.func51, Try.ntmps51
  go_wp2_with fail
  generalize w.alloc (.cells #[.int .u8 0, .int .u8 0, .int .u16 0, .int .u8 0, .int .u8 0, .int .u16 0, .int .u32 0, .int .u32 0, .int .u64 0, .slice none 0 0, .slice none 0 0, .slice none 0 0] 61) = W0 at k0 b0 ⊢
  refine (HN.out _ ((h.below b0).more b0.size)).mono ?_
  rintro e w1 ⟨rfl, b1⟩
  have kx := k0.step b1
  have b := below_step b0 b1
  obtain ⟨z0, z1, z2, z3, z4, z5, z6, z7, z8, z9, z10, z11⟩ := box12 kx
  have y0 := kx.frozen 0
  have y1 := kx.frozen 1
  have y2 := kx.frozen 2
  have y3 := kx.frozen 3
  have y4 := kx.frozen 4
  have y5 := kx.frozen 5
  have y6 := kx.frozen 6
  have y7 := kx.frozen 7
  have y8 := kx.frozen 8
  have y9 := kx.frozen 9
  have y10 := kx.frozen 10
  have y11 := kx.frozen 11
  have kf := blk_set12 kx (.int .u8 0) (.int .u8 0) (.int .u16 0) (.int .u8 0) (.int .u8 0) (.int .u16 0) (.int .u32 0) (.int .u32 0) (.int .u64 0) (.slice none 0 0) (.slice none 0 0) (.slice none 0 0)
  have hg := grown_set12 w1 w.heap.size (.int .u8 0) (.int .u8 0) (.int .u16 0) (.int .u8 0) (.int .u8 0) (.int .u16 0) (.int .u32 0) (.int .u32 0) (.int .u64 0) (.slice none 0 0) (.slice none 0 0) (.slice none 0 0)
  have bff := b.trans (below_grown hg (Nat.le_refl _) kx.lt)
  obtain ⟨t0, t1, t2, t3, t4, t5, t6, t7, t8, t9, t10, t11⟩ := box12 kf
  clear hg kf kx k0 b1
  go_wp2_with fail
  refine bodyPost_ret (v := .tuple #[.agg #[.int .u8 0, .int .u8 0, .int .u16 0, .int .u8 0, .int .u8 0, .int .u16 0, .int .u32 0, .int .u32 0, .int .u64 0, .slice none 0 0, .slice none 0 0, .slice none 0 0], .int .i64 0, .int .i64 er]) (by simp [results, Try.results51, go_sem, t0, t1, t2, t3, t4, t5, t6, t7, t8, t9, t10, t11]) rfl ?_
  exact ⟨rfl, bff⟩
set_option maxRecDepth 100000 in
set_option maxHeartbeats 2000000 in
theorem get_short (A : Option Addr) (n c : Nat) (l : List UInt8) (w : World) (h : Rd w w.heap.size A n c l) (he : needE l = 0) (hs : n < needN l) : Calls Try.prog 51 #[.slice A n c] w (GetNo 9 w) := by
  have k0 := Blk.new w #[.int .u8 0, .int .u8 0, .int .u16 0, .int .u8 0, .int .u8 0, .int .u16 0, .int .u32 0, .int .u32 0, .int .u64 0, .slice none 0 0, .slice none 0 0, .slice none 0 0] 61
  have b0 : Below w.heap.size w (w.alloc (.cells #[.int .u8 0, .int .u8 0, .int .u16 0, .int .u8 0, .int .u8 0, .int .u16 0, .int .u32 0, .int .u32 0, .int .u64 0, .slice none 0 0, .slice none 0 0, .slice none 0 0] 61)) := below_a1' (Below.refl _ _) _
  have hN := fun W (r : Rd W W.heap.size A n c l) => need_any A n c l W r
  rw [he] at hN
  generalize needN l = N at hN hs
  have HN := Lib.hid hN
  clear he hN
  go_enter Try.func51, Try.ntmps51
  go_wp2_with fail
  generalize w.alloc (.cells #[.int .u8 0, .int .u8 0, .int .u16 0, .int .u8 0, .int .u8 0, .int .u16 0, .int .u32 0, .int .u32 0, .int .u64 0, .slice none 0 0, .slice none 0 0, .slice none 0 0] 61) = W0 at k0 b0 ⊢
  refine (HN.out _ ((h.below b0).more b0.size)).mono ?_
  rintro e w1 ⟨rfl, b1⟩
  have kx := k0.step b1
  have b := below_step b0 b1
  obtain ⟨z0, z1, z2, z3, z4, z5, z6, z7, z8, z9, z10, z11⟩ := box12 kx
  have y0 := kx.frozen 0
  have y1 := kx.frozen 1
  have y2 := kx.frozen 2
  have y3 := kx.frozen 3
  have y4 := kx.frozen 4
  have y5 := kx.frozen 5
  have y6 := kx.frozen 6
  have y7 := kx.frozen 7
  have y8 := kx.frozen 8
  have y9 := kx.frozen 9
  have y10 := kx.frozen 10
  have y11 := kx.frozen 11
  have kf := blk_set12 kx (.int .u8 0) (.int .u8 0) (.int .u16 0) (.int .u8 0) (.int .u8 0) (.int .u16 0) (.int .u32 0) (.int .u32 0) (.int .u64 0) (.slice none 0 0) (.slice none 0 0) (.slice none 0 0)
  have hg := grown_set12 w1 w.heap.size (.int .u8 0) (.int .u8 0) (.int .u16 0) (.int .u8 0) (.int .u8 0) (.int .u16 0) (.int .u32 0) (.int .u32 0) (.int .u64 0) (.slice none 0 0) (.slice none 0 0) (.slice none 0 0)
  have bff := b.trans (below_grown hg (Nat.le_refl _) kx.lt)
  obtain ⟨t0, t1, t2, t3, t4, t5, t6, t7, t8, t9, t10, t11⟩ := box12 kf
  clear hg kf kx k0 b1
  go_wp2_with fail
  refine bodyPost_ret (v := .tuple #[.agg #[.int .u8 0, .int .u8 0, .int .u16 0, .int .u8 0, .int .u8 0, .int .u16 0, .int .u32 0, .int .u32 0, .int .u64 0, .slice none 0 0, .slice none 0 0, .slice none 0 0], .int .i64 0, .int .i64 9]) (by simp [results, Try.results51, go_sem, t0, t1, t2, t3, t4, t5, t6, t7, t8, t9, t10, t11]) rfl ?_
  exact ⟨rfl, bff⟩
set_option maxRecDepth 100000 in
set_option maxHeartbeats 2000000 in
theorem rget_no (A : Option Addr) (n c : Nat) (l : List UInt8) (w : World) (h : Rd w w.heap.size A n c l) (he : needE l ≠ 0) : Calls Try.prog 106 #[.slice A n c] w (GetNo (needE l) w) := by
  have k0 := Blk.new w #[.int .u8 0, .int .u8 0, .int .u16 0, .int .u8 0, .int .u8 0, .int .u16 0, .int .u32 0, .int .u32 0, .int .u64 0, .slice none 0 0, .slice none 0 0, .slice none 0 0] 61
  have b0 : Below w.heap.size w (w.alloc (.cells #[.int .u8 0, .int .u8 0, .int .u16 0, .int .u8 0, .int .u8 0, .int .u16 0, .int .u32 0, .int .u32 0, .int .u64 0, .slice none 0 0, .slice none 0 0, .slice none 0 0] 61)) := below_a1' (Below.refl _ _) _
  have hN := fun W (r : Rd W W.heap.size A n c l) => rneed_any A n c l W r
  have e2 : needN l = 0 := by unfold needN; rw [if_neg he]
  rw [e2] at hN
  have tn := neInt' he
  generalize needE l = er at hN tn ⊢
  have HN := Lib.hid hN
  clear he hN e2
  go_enter Try.func106, Try.ntmps106
  go_wp2_with fail
  generalize w.alloc (.cells #[.int .u8 0, .int .u8 0, .int .u16 0, .int .u8 0, .int .u8 0, .int .u16 0, .int .u32 0, .int .u32 0, .int .u64 0, .slice none 0 0, .slice none 0 0, .slice none 0 0] 61) = W0 at k0 b0 ⊢
  refine (HN.out _ ((h.below b0).more b0.size)).mono ?_
  rintro e w1 ⟨rfl, b1⟩
  have kx := k0.step b1
  have b := below_step b0 b1
  obtain ⟨z0, z1, z2, z3, z4, z5, z6, z7, z8, z9, z10, z11⟩ := box12 kx
  have y0 := kx.frozen 0
  have y1 := kx.frozen 1
  have y2 := kx.frozen 2
  have y3 := kx.frozen 3
  have y4 := kx.frozen 4
  have y5 := kx.frozen 5
  have y6 := kx.frozen 6
  have y7 := kx.frozen 7
  have y8 := kx.frozen 8
  have y9 := kx.frozen 9
  have y10 := kx.frozen 10
  have y11 := kx.frozen 11
  have kf := blk_set12 kx (.int .u8 0) (.int .u8 0) (.int .u16 0) (.int .u8 0) (.int .u8 0) (.int .u16 0) (.int .u32 0) (.int .u32 0) (.int .u64 0) (.slice none 0 0) (.slice none 0 0) (.slice none 0 0)
  have hg := grown_set12 w1 w.heap.size (.int .u8 0) (.int .u8 0) (.int .u16 0) (.int .u8 0) (.int .u8 0) (.int .u16 0) (.int .u32 0) (.int .u32 0) (.int .u64 0) (.slice none 0 0) (.slice none 0 0) (.slice none 0 0)
  have bff := b.trans (below_grown hg (Nat.le_refl _) kx.lt)
  obtain ⟨t0, t1, t2, t3, t4, t5, t6, t7, t8, t9, t10, t11⟩ := box12 kf
  clear hg kf kx k0 b1
  go_wp2_with fail
  refine bodyPost_ret (v := .tuple #[.agg #[.int .u8 0, .int .u8 0, .int .u16 0, .int .u8 0, .int .u8 0, .int .u16 0, .int .u32 0, .int .u32 0, .int .u64 0, .slice none 0 0, .slice none 0 0, .slice none 0 0], .int .i64 0, .int .i64 er]) (by simp [results, Try.results106, go_sem, t0, t1, t2, t3, t4, t5, t6, t7, t8, t9, t10, t11]) rfl ?_
  exact ⟨rfl, bff⟩
set_option maxRecDepth 100000 in
set_option maxHeartbeats 2000000 in
theorem rget_short (A : Option Addr) (n c : Nat) (l : List UInt8) (w : World) (h : Rd w w.heap.size A n c l) (he : needE l = 0) (hs : n < needN l) : Calls Try.prog 106 #[.slice A n c] w (GetNo 9 w) := by
  have k0 := Blk.new w #[.int .u8 0, .int .u8 0, .int .u16 0, .int .u8 0, .int .u8 0, .int .u16 0, .int .u32 0, .int .u32 0, .int .u64 0, .slice none 0 0, .slice none 0 0, .slice none 0 0] 61
  have b0 : Below w.heap.size w (w.alloc (.cells #[.int .u8 0, .int .u8 0, .int .u16 0, .int .u8 0, .int .u8 0, .int .u16 0, .int .u32 0, .int .u32 0, .int .u64 0, .slice none 0 0, .slice none 0 0, .slice none 0 0] 61)) := below_a1' (Below.refl _ _) _
  have hN := fun W (r : Rd W W.heap.size A n c l) => rneed_any A n c l W r
  rw [he] at hN
  generalize needN l = N at hN hs
  have HN := Lib.hid hN
  clear he hN
  go_enter Try.func106, Try.ntmps106
  go_wp2_with fail
  generalize w.alloc (.cells #[.int .u8 0, .int .u8 0, .int .u16 0, .int .u8 0, .int .u8 0, .int .u16 0, .int .u32 0, .int .u32 0, .int .u64 0, .slice none 0 0, .slice none 0 0, .slice none 0 0] 61) = W0 at k0 b0 ⊢
  refine (HN.out _ ((h.below b0).more b0.size)).mono ?_
  rintro e w1 ⟨rfl, b1⟩
  have kx := k0.step b1
  have b := below_step b0 b1
  obtain ⟨z0, z1, z2, z3, z4, z5, z6, z7, z8, z9, z10, z11⟩ := box12 kx
  have y0 := kx.frozen 0
  have y1 := kx.frozen 1
  have y2 := kx.frozen 2
  have y3 := kx.frozen 3
  have y4 := kx.frozen 4
  have y5 := kx.frozen 5
  have y6 := kx.frozen 6
  have y7 := kx.frozen 7
  have y8 := kx.frozen 8
  have y9 := kx.frozen 9
  have y10 := kx.frozen 10
  have y11 := kx.frozen 11
  have kf := blk_set12 kx (.int .u8 0) (.int .u8 0) (.int .u16 0) (.int .u8 0) (.int .u8 0) (.int .u16 0) (.int .u32 0) (.int .u32 0) (.int .u64 0) (.slice none 0 0) (.slice none 0 0) (.slice none 0 0)
  have hg := grown_set12 w1 w.heap.size (.int .u8 0) (.int .u8 0) (.int .u16 0) (.int .u8 0) (.int .u8 0) (.int .u16 0) (.int .u32 0) (.int .u32 0) (.int .u64 0) (.slice none 0 0) (.slice none 0 0) (.slice none 0 0)
  have bff := b.trans (below_grown hg (Nat.le_refl _) kx.lt)
  obtain ⟨t0, t1, t2, t3, t4, t5, t6, t7, t8, t9, t10, t11⟩ := box12 kf
  clear hg kf kx k0 b1
  go_wp2_with fail
  refine bodyPost_ret (v := .tuple #[.agg #[.int .u8 0, .int .u8 0, .int .u16 0, .int .u8 0, .int .u8 0, .int .u16 0, .int .u32 0, .int .u32 0, .int .u64 0, .slice none 0 0, .slice none 0 0, .slice none 0 0], .int .i64 0, .int .i64 9]) (by simp [results, Try.results106, go_sem, t0, t1, t2, t3, t4, t5, t6, t7, t8, t9, t10, t11]) rfl ?_
  exact ⟨rfl, bff⟩
end Go.Proofs.Ytnghmgbmflcngaa

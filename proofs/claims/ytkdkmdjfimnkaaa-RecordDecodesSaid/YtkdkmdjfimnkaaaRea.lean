/- record.Same, field by field. Conditions: typed in each theorem. -/
import Derived.Test.YtkdkmdjfimnkaaaSpa
namespace Go.Proofs.Ytkdkmdjfimnkaaa
set_option linter.unusedVariables false
open Go.RowKit

def PSame (v : Bool) (w : World) (e : Ending) (w' : World) : Prop := e = .returned (.bool v) ∧ Below w.heap.size w w'
set_option maxHeartbeats 1000000 in
theorem psame_0 (k1 k2 : Int) (f1 f2 e1 e2 s1 s2 : Nat) (A C A' C' : Option Addr) (na ca nc cc na' ca' nc' cc' : Nat) (la lc la' lc' : List UInt8) (w : World) (ra : Rd w w.heap.size A na ca la) (rc : Rd w w.heap.size C nc cc lc) (ra' : Rd w w.heap.size A' na' ca' la') (rc' : Rd w w.heap.size C' nc' cc' lc')  (hk : (k1 == k2) = false) :
    Calls Try.prog 12 #[recV k1 f1 e1 s1 (.slice A na ca) (.slice C nc cc), recV k2 f2 e2 s2 (.slice A' na' ca') (.slice C' nc' cc')] w (PSame false w) := by
  have k0 := (Blk.new w #[.int .i64 k1, .int .u32 (f1 : Int), .int .u32 (e1 : Int), .int .u64 (s1 : Int), .slice A na ca, .slice C nc cc] 26).alloc (.cells #[.int .i64 k2, .int .u32 (f2 : Int), .int .u32 (e2 : Int), .int .u64 (s2 : Int), .slice A' na' ca', .slice C' nc' cc'] 26)
  have k1' := Blk.new (w.alloc (.cells #[.int .i64 k1, .int .u32 (f1 : Int), .int .u32 (e1 : Int), .int .u64 (s1 : Int), .slice A na ca, .slice C nc cc] 26)) #[.int .i64 k2, .int .u32 (f2 : Int), .int .u32 (e2 : Int), .int .u64 (s2 : Int), .slice A' na' ca', .slice C' nc' cc'] 26
  have b : Below w.heap.size w ((w.alloc (.cells #[.int .i64 k1, .int .u32 (f1 : Int), .int .u32 (e1 : Int), .int .u64 (s1 : Int), .slice A na ca, .slice C nc cc] 26)).alloc (.cells #[.int .i64 k2, .int .u32 (f2 : Int), .int .u32 (e2 : Int), .int .u64 (s2 : Int), .slice A' na' ca', .slice C' nc' cc'] 26)) := below_a1' (below_a1' (Below.refl _ _) _) _
  simp only [World.size_alloc] at k1'
  unfold recV
  go_enter Try.func12, Try.ntmps12
  go_wp2_with fail
  go_ret
  exact ⟨rfl, b⟩
set_option maxHeartbeats 1000000 in
theorem psame_1 (k1 k2 : Int) (f1 f2 e1 e2 s1 s2 : Nat) (A C A' C' : Option Addr) (na ca nc cc na' ca' nc' cc' : Nat) (la lc la' lc' : List UInt8) (w : World) (ra : Rd w w.heap.size A na ca la) (rc : Rd w w.heap.size C nc cc lc) (ra' : Rd w w.heap.size A' na' ca' la') (rc' : Rd w w.heap.size C' nc' cc' lc') (hk : (k1 == k2) = true) (hf : ((f1 : Int) == (f2 : Int)) = false) :
    Calls Try.prog 12 #[recV k1 f1 e1 s1 (.slice A na ca) (.slice C nc cc), recV k2 f2 e2 s2 (.slice A' na' ca') (.slice C' nc' cc')] w (PSame false w) := by
  have k0 := (Blk.new w #[.int .i64 k1, .int .u32 (f1 : Int), .int .u32 (e1 : Int), .int .u64 (s1 : Int), .slice A na ca, .slice C nc cc] 26).alloc (.cells #[.int .i64 k2, .int .u32 (f2 : Int), .int .u32 (e2 : Int), .int .u64 (s2 : Int), .slice A' na' ca', .slice C' nc' cc'] 26)
  have k1' := Blk.new (w.alloc (.cells #[.int .i64 k1, .int .u32 (f1 : Int), .int .u32 (e1 : Int), .int .u64 (s1 : Int), .slice A na ca, .slice C nc cc] 26)) #[.int .i64 k2, .int .u32 (f2 : Int), .int .u32 (e2 : Int), .int .u64 (s2 : Int), .slice A' na' ca', .slice C' nc' cc'] 26
  have b : Below w.heap.size w ((w.alloc (.cells #[.int .i64 k1, .int .u32 (f1 : Int), .int .u32 (e1 : Int), .int .u64 (s1 : Int), .slice A na ca, .slice C nc cc] 26)).alloc (.cells #[.int .i64 k2, .int .u32 (f2 : Int), .int .u32 (e2 : Int), .int .u64 (s2 : Int), .slice A' na' ca', .slice C' nc' cc'] 26)) := below_a1' (below_a1' (Below.refl _ _) _) _
  simp only [World.size_alloc] at k1'
  unfold recV
  go_enter Try.func12, Try.ntmps12
  go_wp2_with fail
  go_ret
  exact ⟨rfl, b⟩
set_option maxHeartbeats 1000000 in
theorem psame_2 (k1 k2 : Int) (f1 f2 e1 e2 s1 s2 : Nat) (A C A' C' : Option Addr) (na ca nc cc na' ca' nc' cc' : Nat) (la lc la' lc' : List UInt8) (w : World) (ra : Rd w w.heap.size A na ca la) (rc : Rd w w.heap.size C nc cc lc) (ra' : Rd w w.heap.size A' na' ca' la') (rc' : Rd w w.heap.size C' nc' cc' lc') (hk : (k1 == k2) = true) (hf : ((f1 : Int) == (f2 : Int)) = true) (he : ((e1 : Int) == (e2 : Int)) = false) :
    Calls Try.prog 12 #[recV k1 f1 e1 s1 (.slice A na ca) (.slice C nc cc), recV k2 f2 e2 s2 (.slice A' na' ca') (.slice C' nc' cc')] w (PSame false w) := by
  have k0 := (Blk.new w #[.int .i64 k1, .int .u32 (f1 : Int), .int .u32 (e1 : Int), .int .u64 (s1 : Int), .slice A na ca, .slice C nc cc] 26).alloc (.cells #[.int .i64 k2, .int .u32 (f2 : Int), .int .u32 (e2 : Int), .int .u64 (s2 : Int), .slice A' na' ca', .slice C' nc' cc'] 26)
  have k1' := Blk.new (w.alloc (.cells #[.int .i64 k1, .int .u32 (f1 : Int), .int .u32 (e1 : Int), .int .u64 (s1 : Int), .slice A na ca, .slice C nc cc] 26)) #[.int .i64 k2, .int .u32 (f2 : Int), .int .u32 (e2 : Int), .int .u64 (s2 : Int), .slice A' na' ca', .slice C' nc' cc'] 26
  have b : Below w.heap.size w ((w.alloc (.cells #[.int .i64 k1, .int .u32 (f1 : Int), .int .u32 (e1 : Int), .int .u64 (s1 : Int), .slice A na ca, .slice C nc cc] 26)).alloc (.cells #[.int .i64 k2, .int .u32 (f2 : Int), .int .u32 (e2 : Int), .int .u64 (s2 : Int), .slice A' na' ca', .slice C' nc' cc'] 26)) := below_a1' (below_a1' (Below.refl _ _) _) _
  simp only [World.size_alloc] at k1'
  unfold recV
  go_enter Try.func12, Try.ntmps12
  go_wp2_with fail
  go_ret
  exact ⟨rfl, b⟩
set_option maxHeartbeats 1000000 in
theorem psame_3 (k1 k2 : Int) (f1 f2 e1 e2 s1 s2 : Nat) (A C A' C' : Option Addr) (na ca nc cc na' ca' nc' cc' : Nat) (la lc la' lc' : List UInt8) (w : World) (ra : Rd w w.heap.size A na ca la) (rc : Rd w w.heap.size C nc cc lc) (ra' : Rd w w.heap.size A' na' ca' la') (rc' : Rd w w.heap.size C' nc' cc' lc') (hk : (k1 == k2) = true) (hf : ((f1 : Int) == (f2 : Int)) = true) (he : ((e1 : Int) == (e2 : Int)) = true) (hs : ((s1 : Int) == (s2 : Int)) = false) :
    Calls Try.prog 12 #[recV k1 f1 e1 s1 (.slice A na ca) (.slice C nc cc), recV k2 f2 e2 s2 (.slice A' na' ca') (.slice C' nc' cc')] w (PSame false w) := by
  have k0 := (Blk.new w #[.int .i64 k1, .int .u32 (f1 : Int), .int .u32 (e1 : Int), .int .u64 (s1 : Int), .slice A na ca, .slice C nc cc] 26).alloc (.cells #[.int .i64 k2, .int .u32 (f2 : Int), .int .u32 (e2 : Int), .int .u64 (s2 : Int), .slice A' na' ca', .slice C' nc' cc'] 26)
  have k1' := Blk.new (w.alloc (.cells #[.int .i64 k1, .int .u32 (f1 : Int), .int .u32 (e1 : Int), .int .u64 (s1 : Int), .slice A na ca, .slice C nc cc] 26)) #[.int .i64 k2, .int .u32 (f2 : Int), .int .u32 (e2 : Int), .int .u64 (s2 : Int), .slice A' na' ca', .slice C' nc' cc'] 26
  have b : Below w.heap.size w ((w.alloc (.cells #[.int .i64 k1, .int .u32 (f1 : Int), .int .u32 (e1 : Int), .int .u64 (s1 : Int), .slice A na ca, .slice C nc cc] 26)).alloc (.cells #[.int .i64 k2, .int .u32 (f2 : Int), .int .u32 (e2 : Int), .int .u64 (s2 : Int), .slice A' na' ca', .slice C' nc' cc'] 26)) := below_a1' (below_a1' (Below.refl _ _) _) _
  simp only [World.size_alloc] at k1'
  unfold recV
  go_enter Try.func12, Try.ntmps12
  go_wp2_with fail
  go_ret
  exact ⟨rfl, b⟩
set_option maxHeartbeats 1000000 in
theorem psame_4 (k1 k2 : Int) (f1 f2 e1 e2 s1 s2 : Nat) (A C A' C' : Option Addr) (na ca nc cc na' ca' nc' cc' : Nat) (la lc la' lc' : List UInt8) (w : World) (ra : Rd w w.heap.size A na ca la) (rc : Rd w w.heap.size C nc cc lc) (ra' : Rd w w.heap.size A' na' ca' la') (rc' : Rd w w.heap.size C' nc' cc' lc') (hk : (k1 == k2) = true) (hf : ((f1 : Int) == (f2 : Int)) = true) (he : ((e1 : Int) == (e2 : Int)) = true) (hs : ((s1 : Int) == (s2 : Int)) = true) (ha : eqB la la' = false) :
    Calls Try.prog 12 #[recV k1 f1 e1 s1 (.slice A na ca) (.slice C nc cc), recV k2 f2 e2 s2 (.slice A' na' ca') (.slice C' nc' cc')] w (PSame false w) := by
  have k0 := (Blk.new w #[.int .i64 k1, .int .u32 (f1 : Int), .int .u32 (e1 : Int), .int .u64 (s1 : Int), .slice A na ca, .slice C nc cc] 26).alloc (.cells #[.int .i64 k2, .int .u32 (f2 : Int), .int .u32 (e2 : Int), .int .u64 (s2 : Int), .slice A' na' ca', .slice C' nc' cc'] 26)
  have k1' := Blk.new (w.alloc (.cells #[.int .i64 k1, .int .u32 (f1 : Int), .int .u32 (e1 : Int), .int .u64 (s1 : Int), .slice A na ca, .slice C nc cc] 26)) #[.int .i64 k2, .int .u32 (f2 : Int), .int .u32 (e2 : Int), .int .u64 (s2 : Int), .slice A' na' ca', .slice C' nc' cc'] 26
  have b : Below w.heap.size w ((w.alloc (.cells #[.int .i64 k1, .int .u32 (f1 : Int), .int .u32 (e1 : Int), .int .u64 (s1 : Int), .slice A na ca, .slice C nc cc] 26)).alloc (.cells #[.int .i64 k2, .int .u32 (f2 : Int), .int .u32 (e2 : Int), .int .u64 (s2 : Int), .slice A' na' ca', .slice C' nc' cc'] 26)) := below_a1' (below_a1' (Below.refl _ _) _) _
  simp only [World.size_alloc] at k1'
  unfold recV
  go_enter Try.func12, Try.ntmps12
  go_wp2_with fail
  refine (sequal_any A A' na ca na' ca' w.heap.size la la' _ (ra.below b) (ra'.below b)).mono ?_
  rintro e w1 ⟨rfl, hq⟩
  have bq := quiet_self hq
  clear hq
  replace k0 := k0.step bq
  replace k1' := k1'.step bq
  replace b := below_step b bq
  obtain ⟨z0, z1, z2, z3, z4, z5⟩ := box6 k0
  obtain ⟨y0, y1, y2, y3, y4, y5⟩ := box6 k1'
  rw [ha]
  go_wp2_with fail
  go_ret
  exact ⟨rfl, b⟩
set_option maxHeartbeats 1000000 in
theorem psame_5 (k1 k2 : Int) (f1 f2 e1 e2 s1 s2 : Nat) (A C A' C' : Option Addr) (na ca nc cc na' ca' nc' cc' : Nat) (la lc la' lc' : List UInt8) (w : World) (ra : Rd w w.heap.size A na ca la) (rc : Rd w w.heap.size C nc cc lc) (ra' : Rd w w.heap.size A' na' ca' la') (rc' : Rd w w.heap.size C' nc' cc' lc') (hk : (k1 == k2) = true) (hf : ((f1 : Int) == (f2 : Int)) = true) (he : ((e1 : Int) == (e2 : Int)) = true) (hs : ((s1 : Int) == (s2 : Int)) = true) (ha : eqB la la' = true) :
    Calls Try.prog 12 #[recV k1 f1 e1 s1 (.slice A na ca) (.slice C nc cc), recV k2 f2 e2 s2 (.slice A' na' ca') (.slice C' nc' cc')] w (PSame (eqB lc lc') w) := by
  have k0 := (Blk.new w #[.int .i64 k1, .int .u32 (f1 : Int), .int .u32 (e1 : Int), .int .u64 (s1 : Int), .slice A na ca, .slice C nc cc] 26).alloc (.cells #[.int .i64 k2, .int .u32 (f2 : Int), .int .u32 (e2 : Int), .int .u64 (s2 : Int), .slice A' na' ca', .slice C' nc' cc'] 26)
  have k1' := Blk.new (w.alloc (.cells #[.int .i64 k1, .int .u32 (f1 : Int), .int .u32 (e1 : Int), .int .u64 (s1 : Int), .slice A na ca, .slice C nc cc] 26)) #[.int .i64 k2, .int .u32 (f2 : Int), .int .u32 (e2 : Int), .int .u64 (s2 : Int), .slice A' na' ca', .slice C' nc' cc'] 26
  have b : Below w.heap.size w ((w.alloc (.cells #[.int .i64 k1, .int .u32 (f1 : Int), .int .u32 (e1 : Int), .int .u64 (s1 : Int), .slice A na ca, .slice C nc cc] 26)).alloc (.cells #[.int .i64 k2, .int .u32 (f2 : Int), .int .u32 (e2 : Int), .int .u64 (s2 : Int), .slice A' na' ca', .slice C' nc' cc'] 26)) := below_a1' (below_a1' (Below.refl _ _) _) _
  simp only [World.size_alloc] at k1'
  unfold recV
  go_enter Try.func12, Try.ntmps12
  go_wp2_with fail
  refine (sequal_any A A' na ca na' ca' w.heap.size la la' _ (ra.below b) (ra'.below b)).mono ?_
  rintro e w1 ⟨rfl, hq⟩
  have bq := quiet_self hq
  clear hq
  replace k0 := k0.step bq
  replace k1' := k1'.step bq
  replace b := below_step b bq
  obtain ⟨z0, z1, z2, z3, z4, z5⟩ := box6 k0
  obtain ⟨y0, y1, y2, y3, y4, y5⟩ := box6 k1'
  rw [ha]
  go_wp2_with fail
  refine (sequal_any C C' nc cc nc' cc' w.heap.size lc lc' _ (rc.below b) (rc'.below b)).mono ?_
  rintro e w2 ⟨rfl, hq⟩
  have bq' := quiet_self hq
  replace b := below_step b bq'
  clear hq
  go_wp2_with fail
  go_ret
  exact ⟨rfl, b⟩
end Go.Proofs.Ytkdkmdjfimnkaaa

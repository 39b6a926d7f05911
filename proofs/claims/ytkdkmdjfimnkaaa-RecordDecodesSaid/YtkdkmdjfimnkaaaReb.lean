/- icehouseref06.Same. Conditions: typed in each theorem. -/
import Derived.Test.YtkdkmdjfimnkaaaRea
import Derived.Laws.IdiomStrings
import Derived.Lib.Strings
namespace Go.Proofs.Ytkdkmdjfimnkaaa
set_option linter.unusedVariables false
open Go.RowKit

theorem run_str {w : World} {B : Nat} {A : Option Addr} {n c : Nat} {l : List UInt8} (h : Rd w B A n c l) (hn : 0 < n) :
    (convert 24 9 (.slice A n c)).run Try.prog w = .ok (.string ⟨l.toArray⟩) w := by
  obtain ⟨ad, x, rfl, -, -, -⟩ := h.at_ hn
  have hl := h.len
  subst hl
  refine run_convert_bytes_back w 24 9 5 ad c l Try.underlying24 Try.underlying5 Try.underlying9 fun j hj => ?_
  have := h.2.2.2.2.2 ad j (cb l[j]) rfl (by rw [cbs_get?, List.getElem?_eq_getElem hj]; rfl)
  exact this
theorem run_strA {w : World} {B : Nat} {A : Option Addr} {n c : Nat} {l : List UInt8} (h : Rd w B A n c l) :
    (convert 24 9 (.slice A n c)).run Try.prog w = .ok (.string ⟨l.toArray⟩) w := by
  by_cases hn : 0 < n
  · exact run_str h hn
  · obtain rfl : n = 0 := by omega
    have hl : l = [] := List.eq_nil_of_length_eq_zero h.len
    subst hl
    cases A with
    | none =>
      obtain rfl : c = 0 := h.2.2.2.1 rfl
      rfl
    | some ad => exact run_convert_bytes_back w 24 9 5 ad c [] Try.underlying24 Try.underlying5 Try.underlying9 fun j hj => by simp at hj
set_option maxHeartbeats 400000 in
theorem eqB_beq (a b : List UInt8) : eqB a b = (a == b) := by
  unfold eqB
  by_cases h : a = b
  · subst h; simp
  · rw [decide_eq_false h]; exact (beq_eq_false_iff_ne.2 h).symm
set_option maxHeartbeats 400000 in
theorem bequal_gen (A1 A2 : Option Addr) (n1 c1 n2 c2 B B2 : Nat) (l1 l2 : List UInt8) (w : World) (h1 : Rd w B A1 n1 c1 l1) (h2 : Rd w B2 A2 n2 c2 l2) :
    Calls Try.prog 17 #[.slice A1 n1 c1, .slice A2 n2 c2] w fun e w' => e = .returned (.bool (eqB l1 l2)) ∧ w = w' := by
  have r1 := run_strA h1
  have r2 := run_strA h2
  rw [eqB_beq]
  go_enter Try.func17, Try.ntmps17
  go_wp2
  go_ret
  exact ⟨rfl, rfl⟩
set_option maxHeartbeats 1000000 in
theorem rsame_0 (k1 k2 : Int) (f1 f2 e1 e2 s1 s2 : Nat) (A C A' C' : Option Addr) (na ca nc cc na' ca' nc' cc' : Nat) (la lc la' lc' : List UInt8) (w : World) (ra : Rd w w.heap.size A na ca la) (rc : Rd w w.heap.size C nc cc lc) (ra' : Rd w w.heap.size A' na' ca' la') (rc' : Rd w w.heap.size C' nc' cc' lc')  (hk : (k1 == k2) = false) :
    Calls Try.prog 13 #[recV k1 f1 e1 s1 (.slice A na ca) (.slice C nc cc), recV k2 f2 e2 s2 (.slice A' na' ca') (.slice C' nc' cc')] w (PSame false w) := by
  have b : Below w.heap.size w ((w.alloc (.cells #[.int .i64 k1, .int .u32 (f1 : Int), .int .u32 (e1 : Int), .int .u64 (s1 : Int), .slice A na ca, .slice C nc cc] 26)).alloc (.cells #[.int .i64 k2, .int .u32 (f2 : Int), .int .u32 (e2 : Int), .int .u64 (s2 : Int), .slice A' na' ca', .slice C' nc' cc'] 26)) := below_a1' (below_a1' (Below.refl _ _) _) _
  have c1 := run_strA (ra.below b)
  have c2 := run_strA (ra'.below b)
  have c3 := run_strA (rc.below b)
  have c4 := run_strA (rc'.below b)
  unfold recV
  go_enter Try.func13, Try.ntmps13
  go_wp2_with fail
  go_ret
  exact ⟨rfl, b⟩
set_option maxHeartbeats 1000000 in
theorem rsame_1 (k1 k2 : Int) (f1 f2 e1 e2 s1 s2 : Nat) (A C A' C' : Option Addr) (na ca nc cc na' ca' nc' cc' : Nat) (la lc la' lc' : List UInt8) (w : World) (ra : Rd w w.heap.size A na ca la) (rc : Rd w w.heap.size C nc cc lc) (ra' : Rd w w.heap.size A' na' ca' la') (rc' : Rd w w.heap.size C' nc' cc' lc') (hk : (k1 == k2) = true) (hf : ((f1 : Int) == (f2 : Int)) = false) :
    Calls Try.prog 13 #[recV k1 f1 e1 s1 (.slice A na ca) (.slice C nc cc), recV k2 f2 e2 s2 (.slice A' na' ca') (.slice C' nc' cc')] w (PSame false w) := by
  have b : Below w.heap.size w ((w.alloc (.cells #[.int .i64 k1, .int .u32 (f1 : Int), .int .u32 (e1 : Int), .int .u64 (s1 : Int), .slice A na ca, .slice C nc cc] 26)).alloc (.cells #[.int .i64 k2, .int .u32 (f2 : Int), .int .u32 (e2 : Int), .int .u64 (s2 : Int), .slice A' na' ca', .slice C' nc' cc'] 26)) := below_a1' (below_a1' (Below.refl _ _) _) _
  have c1 := run_strA (ra.below b)
  have c2 := run_strA (ra'.below b)
  have c3 := run_strA (rc.below b)
  have c4 := run_strA (rc'.below b)
  unfold recV
  go_enter Try.func13, Try.ntmps13
  go_wp2_with fail
  go_ret
  exact ⟨rfl, b⟩
set_option maxHeartbeats 1000000 in
theorem rsame_2 (k1 k2 : Int) (f1 f2 e1 e2 s1 s2 : Nat) (A C A' C' : Option Addr) (na ca nc cc na' ca' nc' cc' : Nat) (la lc la' lc' : List UInt8) (w : World) (ra : Rd w w.heap.size A na ca la) (rc : Rd w w.heap.size C nc cc lc) (ra' : Rd w w.heap.size A' na' ca' la') (rc' : Rd w w.heap.size C' nc' cc' lc') (hk : (k1 == k2) = true) (hf : ((f1 : Int) == (f2 : Int)) = true) (he : ((e1 : Int) == (e2 : Int)) = false) :
    Calls Try.prog 13 #[recV k1 f1 e1 s1 (.slice A na ca) (.slice C nc cc), recV k2 f2 e2 s2 (.slice A' na' ca') (.slice C' nc' cc')] w (PSame false w) := by
  have b : Below w.heap.size w ((w.alloc (.cells #[.int .i64 k1, .int .u32 (f1 : Int), .int .u32 (e1 : Int), .int .u64 (s1 : Int), .slice A na ca, .slice C nc cc] 26)).alloc (.cells #[.int .i64 k2, .int .u32 (f2 : Int), .int .u32 (e2 : Int), .int .u64 (s2 : Int), .slice A' na' ca', .slice C' nc' cc'] 26)) := below_a1' (below_a1' (Below.refl _ _) _) _
  have c1 := run_strA (ra.below b)
  have c2 := run_strA (ra'.below b)
  have c3 := run_strA (rc.below b)
  have c4 := run_strA (rc'.below b)
  unfold recV
  go_enter Try.func13, Try.ntmps13
  go_wp2_with fail
  go_ret
  exact ⟨rfl, b⟩
set_option maxHeartbeats 1000000 in
theorem rsame_3 (k1 k2 : Int) (f1 f2 e1 e2 s1 s2 : Nat) (A C A' C' : Option Addr) (na ca nc cc na' ca' nc' cc' : Nat) (la lc la' lc' : List UInt8) (w : World) (ra : Rd w w.heap.size A na ca la) (rc : Rd w w.heap.size C nc cc lc) (ra' : Rd w w.heap.size A' na' ca' la') (rc' : Rd w w.heap.size C' nc' cc' lc') (hk : (k1 == k2) = true) (hf : ((f1 : Int) == (f2 : Int)) = true) (he : ((e1 : Int) == (e2 : Int)) = true) (hs : ((s1 : Int) == (s2 : Int)) = false) :
    Calls Try.prog 13 #[recV k1 f1 e1 s1 (.slice A na ca) (.slice C nc cc), recV k2 f2 e2 s2 (.slice A' na' ca') (.slice C' nc' cc')] w (PSame false w) := by
  have b : Below w.heap.size w ((w.alloc (.cells #[.int .i64 k1, .int .u32 (f1 : Int), .int .u32 (e1 : Int), .int .u64 (s1 : Int), .slice A na ca, .slice C nc cc] 26)).alloc (.cells #[.int .i64 k2, .int .u32 (f2 : Int), .int .u32 (e2 : Int), .int .u64 (s2 : Int), .slice A' na' ca', .slice C' nc' cc'] 26)) := below_a1' (below_a1' (Below.refl _ _) _) _
  have c1 := run_strA (ra.below b)
  have c2 := run_strA (ra'.below b)
  have c3 := run_strA (rc.below b)
  have c4 := run_strA (rc'.below b)
  unfold recV
  go_enter Try.func13, Try.ntmps13
  go_wp2_with fail
  go_ret
  exact ⟨rfl, b⟩
set_option maxHeartbeats 1000000 in
theorem rsame_4 (k1 k2 : Int) (f1 f2 e1 e2 s1 s2 : Nat) (A C A' C' : Option Addr) (na ca nc cc na' ca' nc' cc' : Nat) (la lc la' lc' : List UInt8) (w : World) (ra : Rd w w.heap.size A na ca la) (rc : Rd w w.heap.size C nc cc lc) (ra' : Rd w w.heap.size A' na' ca' la') (rc' : Rd w w.heap.size C' nc' cc' lc') (hk : (k1 == k2) = true) (hf : ((f1 : Int) == (f2 : Int)) = true) (he : ((e1 : Int) == (e2 : Int)) = true) (hs : ((s1 : Int) == (s2 : Int)) = true) (ha : (la == la') = false) :
    Calls Try.prog 13 #[recV k1 f1 e1 s1 (.slice A na ca) (.slice C nc cc), recV k2 f2 e2 s2 (.slice A' na' ca') (.slice C' nc' cc')] w (PSame false w) := by
  have b : Below w.heap.size w ((w.alloc (.cells #[.int .i64 k1, .int .u32 (f1 : Int), .int .u32 (e1 : Int), .int .u64 (s1 : Int), .slice A na ca, .slice C nc cc] 26)).alloc (.cells #[.int .i64 k2, .int .u32 (f2 : Int), .int .u32 (e2 : Int), .int .u64 (s2 : Int), .slice A' na' ca', .slice C' nc' cc'] 26)) := below_a1' (below_a1' (Below.refl _ _) _) _
  have c1 := run_strA (ra.below b)
  have c2 := run_strA (ra'.below b)
  have c3 := run_strA (rc.below b)
  have c4 := run_strA (rc'.below b)
  unfold recV
  go_enter Try.func13, Try.ntmps13
  go_wp2_with fail
  go_ret
  exact ⟨rfl, b⟩
set_option maxHeartbeats 1000000 in
theorem rsame_5 (k1 k2 : Int) (f1 f2 e1 e2 s1 s2 : Nat) (A C A' C' : Option Addr) (na ca nc cc na' ca' nc' cc' : Nat) (la lc la' lc' : List UInt8) (w : World) (ra : Rd w w.heap.size A na ca la) (rc : Rd w w.heap.size C nc cc lc) (ra' : Rd w w.heap.size A' na' ca' la') (rc' : Rd w w.heap.size C' nc' cc' lc') (hk : (k1 == k2) = true) (hf : ((f1 : Int) == (f2 : Int)) = true) (he : ((e1 : Int) == (e2 : Int)) = true) (hs : ((s1 : Int) == (s2 : Int)) = true) (ha : (la == la') = true) :
    Calls Try.prog 13 #[recV k1 f1 e1 s1 (.slice A na ca) (.slice C nc cc), recV k2 f2 e2 s2 (.slice A' na' ca') (.slice C' nc' cc')] w (PSame (lc == lc') w) := by
  have b : Below w.heap.size w ((w.alloc (.cells #[.int .i64 k1, .int .u32 (f1 : Int), .int .u32 (e1 : Int), .int .u64 (s1 : Int), .slice A na ca, .slice C nc cc] 26)).alloc (.cells #[.int .i64 k2, .int .u32 (f2 : Int), .int .u32 (e2 : Int), .int .u64 (s2 : Int), .slice A' na' ca', .slice C' nc' cc'] 26)) := below_a1' (below_a1' (Below.refl _ _) _) _
  have c1 := run_strA (ra.below b)
  have c2 := run_strA (ra'.below b)
  have c3 := run_strA (rc.below b)
  have c4 := run_strA (rc'.below b)
  unfold recV
  go_enter Try.func13, Try.ntmps13
  go_wp2_with fail
  go_ret
  exact ⟨rfl, b⟩
end Go.Proofs.Ytkdkmdjfimnkaaa

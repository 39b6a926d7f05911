/- icehouselaw06.whole, icehouseref06.Sectors. Conditions: typed in each theorem. -/
import Derived.Test.YtkdkmdjfimnkaaaRpl
namespace Go.Proofs.Ytkdkmdjfimnkaaa
set_option linter.unusedVariables false
open Go.RowKit

theorem sec06_any (n : Nat) (hn : n ≤ 100000) (w : World) : Calls Try.prog 26 #[.int .i64 n] w fun e w' => e = .returned (.int .i64 ((n + 47) / 48 : Nat)) ∧ w = w' := by
  go_enter Try.func26, Try.ntmps26
  go_wp2
  go_ret
  refine ⟨ret_int ?_, rfl⟩
  first
    | rfl
    | omega
    | (rw [Int.tdiv_eq_ediv_of_nonneg (by omega)]; omega)
theorem slc_ext {w : World} {B g m c : Nat} {l : List UInt8} (h : Rd w B (some ⟨g, 0, none⟩) (m + 1) c l) (wx : World) :
    (Instr.slice 24 (.slice (some ⟨g, 0, none⟩) m c) none (some (.int .i64 ((m : Int) + 1))) none).run Try.prog wx = .ok (.slice (some ⟨g, 0, none⟩) (m + 1) c) wx := by
  have hc := h.cap
  rw [run_slice_h (P := Try.prog) wx _ (some ⟨g, 0, none⟩) m c un8 .i64 _ (by omega) (by omega), sz8 _ el8]
  simp only [Result.andThen, sliced, Nat.sub_zero]
  rw [show ((m : Int) + 1).toNat = m + 1 from by omega]
  split <;> rfl
theorem seven_at {w : World} {B g m c : Nat} {l : List UInt8} (h : Rd w B (some ⟨g, 0, none⟩) (m + 1) c (l ++ [7])) : w.cell? ⟨g, m, none⟩ = some (.int .u8 7) := by
  have hl := h.len
  rw [List.length_append, List.length_singleton] at hl
  obtain ⟨ad, x, hA, -, hx, hc⟩ := h.at_ (i := m) (by omega)
  injection hA with hA
  subst hA
  rw [List.getElem?_append_right (by omega), show m - l.length = 0 from by omega] at hx
  have e7 : (7 : UInt8) = x := by simpa using hx
  subst e7
  have ha : (⟨g, 0, none⟩ : Addr).add m = ⟨g, m, none⟩ := by
    unfold Addr.add
    by_cases hi : m = 0
    · subst hi; rfl
    · rw [if_neg hi]; simp
  rw [ha] at hc
  exact hc
theorem rd_fore7 {w : World} {B g m c : Nat} {l : List UInt8} (h : Rd w B (some ⟨g, 0, none⟩) (m + 1) c (l ++ [7])) : Rd w B (some ⟨g, 0, none⟩) m c l := by
  have h1 := rd_pre h (Nat.le_succ m)
  have hl := h.len
  rw [List.length_append, List.length_singleton] at hl
  rwa [List.take_append_of_le_length (by omega), List.take_of_length_le (by omega)] at h1
set_option maxRecDepth 20000 in
set_option maxHeartbeats 4000000 in
theorem whole_any (kind : Int) (fl ex sq : Nat) (g1 c1 g2 c2 mk mv : Nat) (A1 A2 : Option Addr) (a1 a2 : Nat) (lk lv : List UInt8) (w : World) (r1 : Rd w w.heap.size (some ⟨g1, 0, none⟩) (mk + 1) c1 (lk ++ [7])) (r2 : Rd w w.heap.size (some ⟨g2, 0, none⟩) (mv + 1) c2 (lv ++ [7])) (r3 : Rd w w.heap.size A1 mk a1 lk) (r4 : Rd w w.heap.size A2 mv a2 lv) (hmk : mk ≤ 1000) (hmv : mv ≤ 1000) :
    Calls Try.prog 24 #[.agg #[.int .i64 kind, .int .u32 (fl : Nat), .int .u32 (ex : Nat), .int .u64 (sq : Nat), .slice (some ⟨g1, 0, none⟩) mk c1, .slice (some ⟨g2, 0, none⟩) mv c2], .agg #[.int .i64 kind, .int .u32 (fl : Nat), .int .u32 (ex : Nat), .int .u64 (sq : Nat), .slice A1 mk a1, .slice A2 mv a2]] w fun e w' => e = .returned (.bool true) ∧ Below w.heap.size w w' := by
  have hS := fun W q1 q2 q3 q4 => rsame_5 kind kind fl fl ex ex sq sq (some ⟨g1, 0, none⟩) (some ⟨g2, 0, none⟩) A1 A2 mk c1 mv c2 mk a1 mv a2 lk lv lk lv W q1 q2 q3 q4 (beq_self_eq_true _) (beq_self_eq_true _) (beq_self_eq_true _) (beq_self_eq_true _) (beq_self_eq_true _)
  rw [beq_self_eq_true] at hS
  unfold recV at hS
  have HS := Lib.hid hS
  have hx1 := slc_ext r1
  have hx2 := slc_ext r2
  have v1 : IntKind.i64.wrap ((mk : Int) + 1) = (mk : Int) + 1 := IntWalk.i64_in _ (by omega)
  have v2 : IntKind.i64.wrap ((mv : Int) + 1) = (mv : Int) + 1 := IntWalk.i64_in _ (by omega)
  have i1 : (mk : Int) < (mk : Int) + 1 := by omega
  have i2 : (mv : Int) < (mv : Int) + 1 := by omega
  have j1 : (mk : Int) < ((mk + 1 : Nat) : Int) := by omega
  have j2 : (mv : Int) < ((mv + 1 : Nat) : Int) := by omega
  have n1 : (0 : Int) ≤ (mk : Int) := by omega
  have n2 : (0 : Int) ≤ (mv : Int) := by omega
  clear hS
  have k1 := (Blk.new w #[.int .i64 kind, .int .u32 (fl : Nat), .int .u32 (ex : Nat), .int .u64 (sq : Nat), .slice (some ⟨g1, 0, none⟩) mk c1, .slice (some ⟨g2, 0, none⟩) mv c2] 26).alloc (.cells #[.int .i64 kind, .int .u32 (fl : Nat), .int .u32 (ex : Nat), .int .u64 (sq : Nat), .slice A1 mk a1, .slice A2 mv a2] 26)
  have k2 : Blk ((w.alloc (.cells #[.int .i64 kind, .int .u32 (fl : Nat), .int .u32 (ex : Nat), .int .u64 (sq : Nat), .slice (some ⟨g1, 0, none⟩) mk c1, .slice (some ⟨g2, 0, none⟩) mv c2] 26)).alloc (.cells #[.int .i64 kind, .int .u32 (fl : Nat), .int .u32 (ex : Nat), .int .u64 (sq : Nat), .slice A1 mk a1, .slice A2 mv a2] 26)) (w.heap.size + 1) #[.int .i64 kind, .int .u32 (fl : Nat), .int .u32 (ex : Nat), .int .u64 (sq : Nat), .slice A1 mk a1, .slice A2 mv a2] 26 := by
    have := Blk.new (w.alloc (.cells #[.int .i64 kind, .int .u32 (fl : Nat), .int .u32 (ex : Nat), .int .u64 (sq : Nat), .slice (some ⟨g1, 0, none⟩) mk c1, .slice (some ⟨g2, 0, none⟩) mv c2] 26)) #[.int .i64 kind, .int .u32 (fl : Nat), .int .u32 (ex : Nat), .int .u64 (sq : Nat), .slice A1 mk a1, .slice A2 mv a2] 26
    rwa [World.size_alloc] at this
  have b : Below w.heap.size w ((w.alloc (.cells #[.int .i64 kind, .int .u32 (fl : Nat), .int .u32 (ex : Nat), .int .u64 (sq : Nat), .slice (some ⟨g1, 0, none⟩) mk c1, .slice (some ⟨g2, 0, none⟩) mv c2] 26)).alloc (.cells #[.int .i64 kind, .int .u32 (fl : Nat), .int .u32 (ex : Nat), .int .u64 (sq : Nat), .slice A1 mk a1, .slice A2 mv a2] 26)) := below_a1' (below_a1' (Below.refl _ _) _) _
  go_enter Try.func24, Try.ntmps24
  go_wp2_with fail
  generalize (w.alloc (.cells #[.int .i64 kind, .int .u32 (fl : Nat), .int .u32 (ex : Nat), .int .u64 (sq : Nat), .slice (some ⟨g1, 0, none⟩) mk c1, .slice (some ⟨g2, 0, none⟩) mv c2] 26)).alloc (.cells #[.int .i64 kind, .int .u32 (fl : Nat), .int .u32 (ex : Nat), .int .u64 (sq : Nat), .slice A1 mk a1, .slice A2 mv a2] 26) = W0 at k1 k2 b ⊢
  replace k1 : Blk W0.drew w.heap.size #[.int .i64 kind, .int .u32 (fl : Nat), .int .u32 (ex : Nat), .int .u64 (sq : Nat), .slice (some ⟨g1, 0, none⟩) mk c1, .slice (some ⟨g2, 0, none⟩) mv c2] 26 := k1
  replace k2 : Blk W0.drew (w.heap.size + 1) #[.int .i64 kind, .int .u32 (fl : Nat), .int .u32 (ex : Nat), .int .u64 (sq : Nat), .slice A1 mk a1, .slice A2 mv a2] 26 := k2
  replace b : Below w.heap.size w W0.drew := b.drew
  replace r1 := (r1.below b).more b.size
  replace r2 := (r2.below b).more b.size
  replace r3 := (r3.below b).more b.size
  replace r4 := (r4.below b).more b.size
  have u1 := seven_at r1
  have u2 := seven_at r2
  obtain ⟨q0, q1, q2, q3, q4, q5⟩ := box6 k1
  obtain ⟨y0, y1, y2, y3, y4, y5⟩ := box6 k2
  go_region_held3 (fun w' => w'.cell? ⟨w.heap.size, 0, none⟩ = some (.int .i64 kind) ∧ w'.cell? ⟨w.heap.size, 1, none⟩ = some (.int .u32 (fl : Nat)) ∧ w'.cell? ⟨w.heap.size, 2, none⟩ = some (.int .u32 (ex : Nat)) ∧ w'.cell? ⟨w.heap.size, 3, none⟩ = some (.int .u64 (sq : Nat)) ∧ w'.cell? ⟨w.heap.size, 4, none⟩ = some (.slice (some ⟨g1, 0, none⟩) mk c1) ∧ w'.cell? ⟨w.heap.size, 5, none⟩ = some (.slice (some ⟨g2, 0, none⟩) mv c2) ∧ w'.cell? ⟨w.heap.size + 1, 0, none⟩ = some (.int .i64 kind) ∧ w'.cell? ⟨w.heap.size + 1, 1, none⟩ = some (.int .u32 (fl : Nat)) ∧ w'.cell? ⟨w.heap.size + 1, 2, none⟩ = some (.int .u32 (ex : Nat)) ∧ w'.cell? ⟨w.heap.size + 1, 3, none⟩ = some (.int .u64 (sq : Nat)) ∧ w'.cell? ⟨w.heap.size + 1, 4, none⟩ = some (.slice A1 mk a1) ∧ w'.cell? ⟨w.heap.size + 1, 5, none⟩ = some (.slice A2 mv a2) ∧ w'.cell? ⟨g1, mk, none⟩ = some (.int .u8 7) ∧ w'.cell? ⟨g2, mv, none⟩ = some (.int .u8 7)) (first | with_reducible exact ⟨q0, q1, q2, q3, q4, q5, y0, y1, y2, y3, y4, y5, u1, u2⟩ | fail)
    (first
      | (go_at_call 13
         with_reducible refine (HS.out _ (rd_fore7 r1) (rd_fore7 r2) r3 r4).mono ?_
         rintro e w3 ⟨rfl, b3⟩
         replace k1 := k1.step b3
         replace k2 := k2.step b3
         replace b := below_step b b3
         replace r1 := (r1.below b3).more b3.size
         replace r2 := (r2.below b3).more b3.size
         clear q0 q1 q2 q3 q4 q5 y0 y1 y2 y3 y4 y5 u1 u2
         have u1 := seven_at r1
         have u2 := seven_at r2
         obtain ⟨q0, q1, q2, q3, q4, q5⟩ := box6 k1
         obtain ⟨y0, y1, y2, y3, y4, y5⟩ := box6 k2)
      | fail)
  go_wp2_with fail
  go_ret
  exact ⟨rfl, b⟩
end Go.Proofs.Ytkdkmdjfimnkaaa

/- RecordSame: which records are the same, for every two. Conditions: those of the given row alone. -/
import Derived.Test.YtkdkmdjfimnkaaaOpr
namespace Go.Proofs.Ytkdkmdjfimnkaaa
set_option linter.unusedVariables false
open Go.ChangeShapes Go.WideShapes Go.ChangeAt Go.RowKit

theorem rd_drew {w : World} {A : Option Addr} {n c : Nat} {l : List UInt8} (h : Rd w w.heap.size A n c l) : Rd w.drew w.drew.heap.size A n c l := h
theorem eqB_rfl (l : List UInt8) : eqB l l = true := decide_eq_true rfl
/-- The fore part of what was made with a byte behind. -/
theorem own_fore {w : World} {B g m c : Nat} {l : List UInt8} (h : Own w B (some ⟨g, 0, none⟩) (m + 1) c (l ++ [7])) : Rd w w.heap.size (some ⟨g, 0, none⟩) m c l := by
  have h1 := rd_pre h.rd (Nat.le_succ m)
  have hl := h.len
  rw [List.length_append, List.length_singleton] at hl
  rwa [List.take_append_of_le_length (by omega), List.take_of_length_le (by omega)] at h1
set_option maxRecDepth 20000 in
set_option maxHeartbeats 8000000 in
theorem walk_recordSame (k1 : Int) (f1 e1 s1 : Nat) (AK : Option Addr) (nk ck : Nat) (lk : List UInt8) (AV : Option Addr) (nv cv : Nat) (lv : List UInt8) (k2 : Int) (f2 e2 s2 : Nat) (AK' : Option Addr) (nk' ck' : Nat) (lk' : List UInt8) (AV' : Option Addr) (nv' cv' : Nat) (lv' : List UInt8) (w : World)
    (r0 : Rcd w w.heap.size k1 f1 e1 s1 AK nk ck lk AV nv cv lv) (z0 : ck ≤ 140737488351232 ∧ cv ≤ 140737488351232) (r1 : Rcd w w.heap.size k2 f2 e2 s2 AK' nk' ck' lk' AV' nv' cv' lv') (z1 : ck' ≤ 140737488351232 ∧ cv' ≤ 140737488351232) :
    Calls Try.prog 3 #[recV k1 f1 e1 s1 (.slice AK nk ck) (.slice AV nv cv), recV k2 f2 e2 s2 (.slice AK' nk' ck') (.slice AV' nv' cv')] w fun e w' => e = .returned (.bool true) ∧ Below w.heap.size w w' := by
  obtain ⟨rk, rv, -, -, -⟩ := r0
  obtain ⟨rk', rv', -, -, -⟩ := r1
  obtain ⟨v, hS1, hS2⟩ := both_same k1 k2 f1 f2 e1 e2 s1 s2 (lk.take (min nk 600)) (lv.take (min nv 600)) (lk'.take (min nk' 600)) (lv'.take (min nv' 600))
  have hSh1 := fun W r r' => short_any k1 f1 e1 s1 AK AV nk ck nv cv lk lv W r r'
  have hSh2 := fun W r r' => short_any k2 f2 e2 s2 AK' AV' nk' ck' nv' cv' lk' lv' W r r'
  have hCo := fun A1 A2 c1 c2 W r r' => copied_any k1 f1 e1 s1 A1 A2 (min nk 600) c1 (min nv 600) c2 (lk.take (min nk 600)) (lv.take (min nv 600)) W r r' (by omega) (by omega)
  have hSs := fun A C A' C' ca cc ca' cc' W r1 r2 r3 r4 => psame_5 k1 k1 f1 f1 e1 e1 s1 s1 A C A' C' (min nk 600) ca (min nv 600) cc (min nk 600) ca' (min nv 600) cc' (lk.take (min nk 600)) (lv.take (min nv 600)) (lk.take (min nk 600)) (lv.take (min nv 600)) W r1 r2 r3 r4 (beq_self_eq_true _) (beq_self_eq_true _) (beq_self_eq_true _) (beq_self_eq_true _) (eqB_rfl _)
  rw [eqB_rfl] at hSs
  unfold ShortQ at hSh1 hSh2
  unfold CopyQ at hCo
  unfold recV at hS1 hS2 hSh1 hSh2 hCo hSs
  have HA := Lib.hid hSh1
  have HB := Lib.hid hSh2
  have HC := Lib.hid hCo
  have HS := Lib.hid hSs
  have H1 := Lib.hid hS1
  have H2 := Lib.hid hS2
  clear hSh1 hSh2 hCo hSs hS1 hS2 z0 z1
  have k1' := (Blk.new w #[.int .i64 k1, .int .u32 (f1 : Nat), .int .u32 (e1 : Nat), .int .u64 (s1 : Nat), .slice AK nk ck, .slice AV nv cv] 26).alloc (.cells #[.int .i64 k2, .int .u32 (f2 : Nat), .int .u32 (e2 : Nat), .int .u64 (s2 : Nat), .slice AK' nk' ck', .slice AV' nv' cv'] 26)
  have k2' : Blk ((w.alloc (.cells #[.int .i64 k1, .int .u32 (f1 : Nat), .int .u32 (e1 : Nat), .int .u64 (s1 : Nat), .slice AK nk ck, .slice AV nv cv] 26)).alloc (.cells #[.int .i64 k2, .int .u32 (f2 : Nat), .int .u32 (e2 : Nat), .int .u64 (s2 : Nat), .slice AK' nk' ck', .slice AV' nv' cv'] 26)) (w.heap.size + 1) #[.int .i64 k2, .int .u32 (f2 : Nat), .int .u32 (e2 : Nat), .int .u64 (s2 : Nat), .slice AK' nk' ck', .slice AV' nv' cv'] 26 := by
    have := Blk.new (w.alloc (.cells #[.int .i64 k1, .int .u32 (f1 : Nat), .int .u32 (e1 : Nat), .int .u64 (s1 : Nat), .slice AK nk ck, .slice AV nv cv] 26)) #[.int .i64 k2, .int .u32 (f2 : Nat), .int .u32 (e2 : Nat), .int .u64 (s2 : Nat), .slice AK' nk' ck', .slice AV' nv' cv'] 26
    rwa [World.size_alloc] at this
  have b : Below w.heap.size w ((w.alloc (.cells #[.int .i64 k1, .int .u32 (f1 : Nat), .int .u32 (e1 : Nat), .int .u64 (s1 : Nat), .slice AK nk ck, .slice AV nv cv] 26)).alloc (.cells #[.int .i64 k2, .int .u32 (f2 : Nat), .int .u32 (e2 : Nat), .int .u64 (s2 : Nat), .slice AK' nk' ck', .slice AV' nv' cv'] 26)) := below_a1' (below_a1' (Below.refl _ _) _) _
  unfold recV
  go_enter Try.func3, Try.ntmps3
  go_wp2_with fail
  generalize (w.alloc (.cells #[.int .i64 k1, .int .u32 (f1 : Nat), .int .u32 (e1 : Nat), .int .u64 (s1 : Nat), .slice AK nk ck, .slice AV nv cv] 26)).alloc (.cells #[.int .i64 k2, .int .u32 (f2 : Nat), .int .u32 (e2 : Nat), .int .u64 (s2 : Nat), .slice AK' nk' ck', .slice AV' nv' cv'] 26) = W0 at k1' k2' b ⊢
  refine (wakes06 _).mono ?_
  rintro e w1 ⟨rfl, b1⟩
  replace k1' := k1'.step b1
  replace k2' := k2'.step b1
  replace b := below_step b b1
  clear b1
  go_wp2_with fail
  refine wp_region_noPanic ?_
  refine region_T (fun w' => w'.cell? ⟨w.heap.size, 0, none⟩ = some (.int .i64 k1) ∧ w'.cell? ⟨w.heap.size, 1, none⟩ = some (.int .u32 (f1 : Nat)) ∧ w'.cell? ⟨w.heap.size, 2, none⟩ = some (.int .u32 (e1 : Nat)) ∧ w'.cell? ⟨w.heap.size, 3, none⟩ = some (.int .u64 (s1 : Nat)) ∧ w'.cell? ⟨w.heap.size, 4, none⟩ = some (.slice AK nk ck) ∧ w'.cell? ⟨w.heap.size, 5, none⟩ = some (.slice AV nv cv) ∧ w'.cell? ⟨w.heap.size + 1, 0, none⟩ = some (.int .i64 k2) ∧ w'.cell? ⟨w.heap.size + 1, 1, none⟩ = some (.int .u32 (f2 : Nat)) ∧ w'.cell? ⟨w.heap.size + 1, 2, none⟩ = some (.int .u32 (e2 : Nat)) ∧ w'.cell? ⟨w.heap.size + 1, 3, none⟩ = some (.int .u64 (s2 : Nat)) ∧ w'.cell? ⟨w.heap.size + 1, 4, none⟩ = some (.slice AK' nk' ck') ∧ w'.cell? ⟨w.heap.size + 1, 5, none⟩ = some (.slice AV' nv' cv')) 4 (by kernel_rfl) ?_
  replace k1' : Blk w1.drew w.heap.size #[.int .i64 k1, .int .u32 (f1 : Nat), .int .u32 (e1 : Nat), .int .u64 (s1 : Nat), .slice AK nk ck, .slice AV nv cv] 26 := k1'
  replace k2' : Blk w1.drew (w.heap.size + 1) #[.int .i64 k2, .int .u32 (f2 : Nat), .int .u32 (e2 : Nat), .int .u64 (s2 : Nat), .slice AK' nk' ck', .slice AV' nv' cv'] 26 := k2'
  replace b : Below w.heap.size w w1.drew := b.drew
  generalize w1.drew = V0 at k1' k2' b ⊢
  have hgt : w.heap.size + 1 < V0.heap.size := k2'.lt
  obtain ⟨q0, q1, q2, q3, q4, q5⟩ := box6 k1'
  obtain ⟨y0, y1, y2, y3, y4, y5⟩ := box6 k2'
  have hHeld := (show _ ∧ _ ∧ _ ∧ _ ∧ _ ∧ _ ∧ _ ∧ _ ∧ _ ∧ _ ∧ _ ∧ _ from ⟨q0, q1, q2, q3, q4, q5, y0, y1, y2, y3, y4, y5⟩)
  refine takeU (i := 0) (v := ?_) rfl (by kernel_rfl) (by kernel_rfl) (by kernel_rfl) (by kernel_rfl) (by kernel_rfl) (fun _ _ _ h => h) (Or.inl ⟨by rfl, ?_⟩) hHeld ?_
  rotate_left
  · (intro wx hSw; (try dsimp only at hSw); go_simp; try (with_reducible rfl))
  try simp only [Act.put, List.setIfInBounds_toArray, List.set_cons_zero, List.set_cons_succ]
  refine takeU (i := 2) (v := ?_) rfl (by kernel_rfl) (by kernel_rfl) (by kernel_rfl) (by kernel_rfl) (by kernel_rfl) (fun _ _ _ h => h) (Or.inl ⟨by rfl, ?_⟩) hHeld ?_
  rotate_left
  · (intro wx hSw; (try dsimp only at hSw); go_simp; try (with_reducible rfl))
  try simp only [Act.put, List.setIfInBounds_toArray, List.set_cons_zero, List.set_cons_succ]
  refine oneT (i := 1) rfl (by kernel_rfl) (fun K hK => ?_)
  clear q0 q1 q2 q3 q4 q5 y0 y1 y2 y3 y4 y5
  go_simp
  refine (HA.out _ ((rk.below b).more b.size) ((rv.below b).more b.size)).mono ?_
  rintro e w2 ⟨g1, c1, g2, c2, rfl, hne, oK, oV, b2⟩
  replace k1' := k1'.step b2
  replace k2' := k2'.step b2
  replace b := below_step b b2
  obtain ⟨q0, q1, q2, q3, q4, q5⟩ := box6 k1'
  obtain ⟨y0, y1, y2, y3, y4, y5⟩ := box6 k2'
  have hHeld := (show _ ∧ _ ∧ _ ∧ _ ∧ _ ∧ _ ∧ _ ∧ _ ∧ _ ∧ _ ∧ _ ∧ _ from ⟨q0, q1, q2, q3, q4, q5, y0, y1, y2, y3, y4, y5⟩)
  refine hK.out _ _ (fun _ => hHeld) ?_
  clear hK K
  try simp only [Act.put, List.setIfInBounds_toArray, List.set_cons_zero, List.set_cons_succ]
  refine oneT (i := 3) rfl (by kernel_rfl) (fun K hK => ?_)
  clear q0 q1 q2 q3 q4 q5 y0 y1 y2 y3 y4 y5 hHeld
  go_simp
  refine (HB.out _ ((rk'.below b).more b.size) ((rv'.below b).more b.size)).mono ?_
  rintro e w3 ⟨h1, d1, h2, d2, rfl, hne', oK', oV', b3⟩
  replace k1' := k1'.step b3
  replace k2' := k2'.step b3
  replace b := below_step b b3
  have oK2 := oK.below b3
  have oV2 := oV.below b3
  have hs23 := b2.size
  have x0 := k1'.frozen 0
  have x1 := k1'.frozen 1
  have x2 := k1'.frozen 2
  have x3 := k1'.frozen 3
  have x4 := k1'.frozen 4
  have x5 := k1'.frozen 5
  obtain ⟨q0, q1, q2, q3, q4, q5⟩ := box6 k1'
  obtain ⟨y0, y1, y2, y3, y4, y5⟩ := box6 k2'
  have hHeld := (show _ ∧ _ ∧ _ ∧ _ ∧ _ ∧ _ ∧ _ ∧ _ ∧ _ ∧ _ ∧ _ ∧ _ from ⟨q0, q1, q2, q3, q4, q5, y0, y1, y2, y3, y4, y5⟩)
  refine hK.out _ _ (fun _ => hHeld) ?_
  clear hK K hHeld y0 y1 y2 y3 y4 y5
  try simp only [Act.put, List.setIfInBounds_toArray, List.set_cons_zero, List.set_cons_succ]
  have kf := blk_set6 k1' (.int .i64 k1) (.int .u32 (f1 : Nat)) (.int .u32 (e1 : Nat)) (.int .u64 (s1 : Nat)) (.slice (some ⟨g1, 0, none⟩) (min nk 600) c1) (.slice (some ⟨g2, 0, none⟩) (min nv 600) c2)
  have hg := grown_set6 w3 w.heap.size (.int .i64 k1) (.int .u32 (f1 : Nat)) (.int .u32 (e1 : Nat)) (.int .u64 (s1 : Nat)) (.slice (some ⟨g1, 0, none⟩) (min nk 600) c1) (.slice (some ⟨g2, 0, none⟩) (min nv 600) c2)
  have k2f : Blk _ (w.heap.size + 1) _ _ := k2'.left hg (by omega)
  have bf := b.trans (below_grown hg (Nat.le_refl _) k1'.lt)
  have pK := oK2.kept hg (by omega)
  have pV := oV2.kept hg (by omega)
  have pK' := oK'.kept hg (by omega)
  have pV' := oV'.kept hg (by omega)
  refine oneT (i := 4) rfl (by kernel_rfl) (fun K hK => ?_)
  go_simp
  refine hK.out _ _ (fun h => absurd h (by decide)) ?_
  clear hK K q0 q1 q2 q3 q4 q5 x0 x1 x2 x3 x4 x5 hg k1' k2' b oK oV oK2 oV2 oK' oV'
  try simp only [Act.put, List.setIfInBounds_toArray, List.set_cons_zero, List.set_cons_succ]
  generalize (((((w3.setCell ⟨w.heap.size, 0, none⟩ (.int .i64 k1)).setCell ⟨w.heap.size, 1, none⟩ (.int .u32 (f1 : Nat))).setCell ⟨w.heap.size, 2, none⟩ (.int .u32 (e1 : Nat))).setCell ⟨w.heap.size, 3, none⟩ (.int .u64 (s1 : Nat))).setCell ⟨w.heap.size, 4, none⟩ (.slice (some ⟨g1, 0, none⟩) (min nk 600) c1)).setCell ⟨w.heap.size, 5, none⟩ (.slice (some ⟨g2, 0, none⟩) (min nv 600) c2) = w4 at kf k2f bf pK pV pK' pV' ⊢
  have x0 := k2f.frozen 0
  have x1 := k2f.frozen 1
  have x2 := k2f.frozen 2
  have x3 := k2f.frozen 3
  have x4 := k2f.frozen 4
  have x5 := k2f.frozen 5
  obtain ⟨y0, y1, y2, y3, y4, y5⟩ := box6 k2f
  have kh := blk_set6 k2f (.int .i64 k2) (.int .u32 (f2 : Nat)) (.int .u32 (e2 : Nat)) (.int .u64 (s2 : Nat)) (.slice (some ⟨h1, 0, none⟩) (min nk' 600) d1) (.slice (some ⟨h2, 0, none⟩) (min nv' 600) d2)
  have hg := grown_set6 w4 (w.heap.size + 1) (.int .i64 k2) (.int .u32 (f2 : Nat)) (.int .u32 (e2 : Nat)) (.int .u64 (s2 : Nat)) (.slice (some ⟨h1, 0, none⟩) (min nk' 600) d1) (.slice (some ⟨h2, 0, none⟩) (min nv' 600) d2)
  have k1f : Blk _ w.heap.size _ _ := kf.left hg (by omega)
  replace bf := bf.trans (below_grown hg (Nat.le_succ _) k2f.lt)
  replace pK := own_fore (pK.kept hg (by omega))
  replace pV := own_fore (pV.kept hg (by omega))
  replace pK' := own_fore (pK'.kept hg (by omega))
  replace pV' := own_fore (pV'.kept hg (by omega))
  refine oneT (i := 5) rfl (by kernel_rfl) (fun K hK => ?_)
  go_simp
  refine hK.out _ _ (fun h => absurd h (by decide)) ?_
  clear hK K y0 y1 y2 y3 y4 y5 x0 x1 x2 x3 x4 x5 hg k2f kf
  try simp only [Act.put, List.setIfInBounds_toArray, List.set_cons_zero, List.set_cons_succ]
  generalize (((((w4.setCell ⟨w.heap.size + 1, 0, none⟩ (.int .i64 k2)).setCell ⟨w.heap.size + 1, 1, none⟩ (.int .u32 (f2 : Nat))).setCell ⟨w.heap.size + 1, 2, none⟩ (.int .u32 (e2 : Nat))).setCell ⟨w.heap.size + 1, 3, none⟩ (.int .u64 (s2 : Nat))).setCell ⟨w.heap.size + 1, 4, none⟩ (.slice (some ⟨h1, 0, none⟩) (min nk' 600) d1)).setCell ⟨w.heap.size + 1, 5, none⟩ (.slice (some ⟨h2, 0, none⟩) (min nv' 600) d2) = w5 at k1f kh bf pK pV pK' pV' ⊢
  refine doneT (by kernel_rfl) ?_ _
  refine NoPanic.normal ?_
  obtain ⟨q0, q1, q2, q3, q4, q5⟩ := box6 k1f
  obtain ⟨y0, y1, y2, y3, y4, y5⟩ := box6 kh
  replace k1f : Blk w5.drew w.heap.size #[.int .i64 k1, .int .u32 (f1 : Nat), .int .u32 (e1 : Nat), .int .u64 (s1 : Nat), .slice (some ⟨g1, 0, none⟩) (min nk 600) c1, .slice (some ⟨g2, 0, none⟩) (min nv 600) c2] 26 := k1f
  replace kh : Blk w5.drew (w.heap.size + 1) #[.int .i64 k2, .int .u32 (f2 : Nat), .int .u32 (e2 : Nat), .int .u64 (s2 : Nat), .slice (some ⟨h1, 0, none⟩) (min nk' 600) d1, .slice (some ⟨h2, 0, none⟩) (min nv' 600) d2] 26 := kh
  replace bf : Below w.heap.size w w5.drew := bf.drew
  replace pK := rd_drew pK
  replace pV := rd_drew pV
  replace pK' := rd_drew pK'
  replace pV' := rd_drew pV'
  clear q0 q1 q2 q3 q4 q5 y0 y1 y2 y3 y4 y5
  obtain ⟨q0, q1, q2, q3, q4, q5⟩ := box6 k1f
  obtain ⟨y0, y1, y2, y3, y4, y5⟩ := box6 kh
  go_wp2_with fail
  go_region_held3 (fun w' => w'.cell? ⟨w.heap.size, 0, none⟩ = some (.int .i64 k1) ∧ w'.cell? ⟨w.heap.size, 1, none⟩ = some (.int .u32 (f1 : Nat)) ∧ w'.cell? ⟨w.heap.size, 2, none⟩ = some (.int .u32 (e1 : Nat)) ∧ w'.cell? ⟨w.heap.size, 3, none⟩ = some (.int .u64 (s1 : Nat)) ∧ w'.cell? ⟨w.heap.size, 4, none⟩ = some (.slice (some ⟨g1, 0, none⟩) (min nk 600) c1) ∧ w'.cell? ⟨w.heap.size, 5, none⟩ = some (.slice (some ⟨g2, 0, none⟩) (min nv 600) c2) ∧ w'.cell? ⟨w.heap.size + 1, 0, none⟩ = some (.int .i64 k2) ∧ w'.cell? ⟨w.heap.size + 1, 1, none⟩ = some (.int .u32 (f2 : Nat)) ∧ w'.cell? ⟨w.heap.size + 1, 2, none⟩ = some (.int .u32 (e2 : Nat)) ∧ w'.cell? ⟨w.heap.size + 1, 3, none⟩ = some (.int .u64 (s2 : Nat)) ∧ w'.cell? ⟨w.heap.size + 1, 4, none⟩ = some (.slice (some ⟨h1, 0, none⟩) (min nk' 600) d1) ∧ w'.cell? ⟨w.heap.size + 1, 5, none⟩ = some (.slice (some ⟨h2, 0, none⟩) (min nv' 600) d2)) (first | with_reducible exact ⟨q0, q1, q2, q3, q4, q5, y0, y1, y2, y3, y4, y5⟩ | fail)
    (first
      | (go_at_call 12
         with_reducible refine (H1.out (some ⟨g1, 0, none⟩) (some ⟨g2, 0, none⟩) (some ⟨h1, 0, none⟩) (some ⟨h2, 0, none⟩) (min nk 600) c1 (min nv 600) c2 (min nk' 600) d1 (min nv' 600) d2 _ pK pV pK' pV').mono ?_
         rintro e w6 ⟨rfl, b6⟩
         replace k1f := k1f.step b6
         replace kh := kh.step b6
         replace bf := below_step bf b6
         replace pK := (pK.below b6).more b6.size
         replace pV := (pV.below b6).more b6.size
         replace pK' := (pK'.below b6).more b6.size
         replace pV' := (pV'.below b6).more b6.size
         clear q0 q1 q2 q3 q4 q5 y0 y1 y2 y3 y4 y5
         obtain ⟨q0, q1, q2, q3, q4, q5⟩ := box6 k1f
         obtain ⟨y0, y1, y2, y3, y4, y5⟩ := box6 kh)
      | (go_at_call 13
         with_reducible refine (H2.out (some ⟨g1, 0, none⟩) (some ⟨g2, 0, none⟩) (some ⟨h1, 0, none⟩) (some ⟨h2, 0, none⟩) (min nk 600) c1 (min nv 600) c2 (min nk' 600) d1 (min nv' 600) d2 _ pK pV pK' pV').mono ?_
         rintro e w7 ⟨rfl, b7⟩
         replace k1f := k1f.step b7
         replace kh := kh.step b7
         replace bf := below_step bf b7
         replace pK := (pK.below b7).more b7.size
         replace pV := (pV.below b7).more b7.size
         replace pK' := (pK'.below b7).more b7.size
         replace pV' := (pV'.below b7).more b7.size
         clear q0 q1 q2 q3 q4 q5 y0 y1 y2 y3 y4 y5
         obtain ⟨q0, q1, q2, q3, q4, q5⟩ := box6 k1f
         obtain ⟨y0, y1, y2, y3, y4, y5⟩ := box6 kh)
      | (go_at_call 14
         with_reducible refine (HC.out (some ⟨g1, 0, none⟩) (some ⟨g2, 0, none⟩) c1 c2 _ pK pV).mono ?_
         rintro e w8 ⟨A1, a1, A2, a2, rfl, oA, oB, b8⟩
         have rA := oA.rd
         have rB := oB.rd
         replace k1f := k1f.step b8
         replace kh := kh.step b8
         replace bf := below_step bf b8
         replace pK := (pK.below b8).more b8.size
         replace pV := (pV.below b8).more b8.size
         replace pK' := (pK'.below b8).more b8.size
         replace pV' := (pV'.below b8).more b8.size
         clear q0 q1 q2 q3 q4 q5 y0 y1 y2 y3 y4 y5
         obtain ⟨q0, q1, q2, q3, q4, q5⟩ := box6 k1f
         obtain ⟨y0, y1, y2, y3, y4, y5⟩ := box6 kh)
      | (go_at_call 12
         with_reducible refine (HS.out (some ⟨g1, 0, none⟩) (some ⟨g2, 0, none⟩) A1 A2 c1 c2 a1 a2 _ pK pV rA rB).mono ?_
         rintro e w9 ⟨rfl, b9⟩
         replace k1f := k1f.step b9
         replace kh := kh.step b9
         replace bf := below_step bf b9
         replace pK := (pK.below b9).more b9.size
         replace pV := (pV.below b9).more b9.size
         replace pK' := (pK'.below b9).more b9.size
         replace pV' := (pV'.below b9).more b9.size
         clear q0 q1 q2 q3 q4 q5 y0 y1 y2 y3 y4 y5
         obtain ⟨q0, q1, q2, q3, q4, q5⟩ := box6 k1f
         obtain ⟨y0, y1, y2, y3, y4, y5⟩ := box6 kh)
      | fail)
  go_wp2_with fail
  go_ret
  exact ⟨rfl, bf⟩


set_option maxRecDepth 100000 in
theorem lifted_recordSame (os : Os) (started : os.Started) (H : Type) (enc : TypeId × Value → H) :
    ReturnsInHanded {} Try.checked os 3 .any (Rows.recordSameSpec.pre6 enc Try.prog Try.f3 Rows.recordSameRow.domain false) (Rows.recordSameSpec.post enc Try.prog Try.f3 false true false false) := by
  refine returnsInHanded_of_change_sized (C := Try.checked) own started (by kernel_rfl) Try.func3
    (ChangeSpec.witness6 (enc := enc) (C := Try.checked) false ⟨#[], #[.agg #[.int .i64 0, .int .u32 0, .int .u32 0, .int .u64 0, .slice none 0 0, .slice none 0 0], .agg #[.int .i64 0, .int .u32 0, .int .u32 0, .int .u64 0, .slice none 0 0, .slice none 0 0]], []⟩ 8 (by kernel_rfl) (by kernel_rfl) (by kernel_rfl) (by kernel_rfl)) ?_
  intro W base args ds gs before hval0 hW hcnd hsz0 _
  have hval : ∀ (j : Nat) t v, Try.f3.params[j]? = some t → args[j]? = some v → Value.okWide Try.prog W .any base t v := hval0
  have hsz : (DataW.weightsEach Try.prog (Try.f3.params.toList ++ Rows.recordSameSpec.plain.varTypes Try.prog) (ds ++ gs)).all (· ≤ reachBytes) = true := hsz0
  have hW' := hW
  obtain ⟨p, q, hA0, hV, rfl, hfz, hnd⟩ := hW
  have hA : DataW.TrodAll enc Try.prog W 0 (fun _ => true) true Try.f3.params.toList args.toList ds p := hA0
  rw [Try.params3] at hA hval hsz
  obtain ⟨v0, vs0, d0, ds0, p0, q0, hargs, rfl, rfl, h0, t0⟩ := trodAll_cons hA
  obtain ⟨v1, vs1, d1, ds1, p1, q1, rfl, rfl, rfl, h1, t1⟩ := trodAll_cons t0
  obtain ⟨rfl, rfl, rfl⟩ := trodAll_nil t1
  obtain rfl : args = #[v0, v1] := by cases args; simp_all
  obtain ⟨rfl, rfl⟩ := trodVars_none hV
  have k0 := h0
  obtain ⟨kind0, fl0, ex0, sq0, AK0, nk0, ck0, lk0, AV0, nv0, cv0, lv0, rfl, r0, y0⟩ := open_rec (hval 0 26 v0 rfl rfl) h0
  have s0 := y0 (weights_of hsz (j := 0) rfl rfl)
  have k1 := h1
  obtain ⟨kind1, fl1, ex1, sq1, AK1, nk1, ck1, lk1, AV1, nv1, cv1, lv1, rfl, r1, y1⟩ := open_rec (hval 1 26 v1 rfl rfl) h1
  have s1 := y1 (weights_of hsz (j := 1) rfl rfl)
  clear hA0 hval0
  refine (walk_recordSame kind0 fl0 ex0 sq0 AK0 nk0 ck0 lk0 AV0 nv0 cv0 lv0 kind1 fl1 ex1 sq1 AK1 nk1 ck1 lk1 AV1 nv1 cv1 lv1 W r0 s0 r1 s1).mono fun e W' ⟨he, bel⟩ => ?_
  subst he
  exact ⟨_, rfl, _, _, _, [], _, [], hW', trodAll_mk1 (shut_bool Try.underlying4 _), (trodAll_cons_mk (Below.trod laidOut (by kernel_rfl) (of_decide_eq_true (by kernel_rfl)) k0 bel (trod_places k0)) (trodAll_cons_mk (Below.trod laidOut (by kernel_rfl) (of_decide_eq_true (by kernel_rfl)) k1 bel (trod_places k1)) trodAll_mk0)), rfl, bel.frame _, fun h => by cases h⟩

theorem over_recordSame : Rows.recordSameRow.holds Try.pinned (OpenSpec.ofChange Rows.recordSameSpec) :=
  OpenClaim.holds_of_wide 3 Try.f3 rfl rfl rfl rfl rfl rfl rfl ⟨rfl, rfl, rfl, rfl, rfl⟩ rfl rfl rfl rfl rfl (by kernel_rfl) Try.func3 (by kernel_rfl)
    (of_decide_eq_true (by kernel_rfl)) (by unfold Func.isWrapper; first | (rw [if_pos (by decide +kernel)]; kernel_rfl) | (rw [if_neg (by decide +kernel)]; exact ⟨rfl, rfl⟩))
    (fun os started H enc _ => lifted_recordSame os started H enc)

/-- The statement. -/
theorem recordSame_holds : Rows.RecordSameSaid := over_recordSame
#print axioms recordSame_holds

end Go.Proofs.Ytkdkmdjfimnkaaa

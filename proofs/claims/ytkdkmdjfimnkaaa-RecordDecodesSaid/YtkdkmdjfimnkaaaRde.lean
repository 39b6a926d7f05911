/- icehouseref06.Decode. Conditions: typed in each theorem. -/
import Derived.Test.YtkdkmdjfimnkaaaRnd
namespace Go.Proofs.Ytkdkmdjfimnkaaa
set_option linter.unusedVariables false
open Go.RowKit

set_option maxRecDepth 20000 in
set_option maxHeartbeats 2000000 in
theorem rdec_no (A : Option Addr) (n c : Nat) (l : List UInt8) (w : World) (h : Rd w w.heap.size A n c l) (he : headE l ≠ 0) : Calls Try.prog 27 #[.slice A n c] w (DecNo (headE l) w) := by
  have k0 := Blk.new w #[.int .i64 0, .int .u32 0, .int .u32 0, .int .u64 0, .slice none 0 0, .slice none 0 0] 26
  have b0 : Below w.heap.size w (w.alloc (.cells #[.int .i64 0, .int .u32 0, .int .u32 0, .int .u64 0, .slice none 0 0, .slice none 0 0] 26)) := below_a1' (Below.refl _ _) _
  have hG := fun W (r : Rd W W.heap.size A n c l) => (rneed06_any A n c l W r).2 he
  have tn := neInt' he
  generalize headE l = er at hG tn ⊢
  have HG := Lib.hid hG
  clear he hG
  go_enter Try.func27, Try.ntmps27
  go_wp2_with fail
  generalize w.alloc (.cells #[.int .i64 0, .int .u32 0, .int .u32 0, .int .u64 0, .slice none 0 0, .slice none 0 0] 26) = W0 at k0 b0 ⊢
  refine (HG.out _ ((h.below b0).more b0.size)).mono ?_
  rintro e w1 ⟨rfl, b1⟩
  have kx := k0.step b1
  have b := below_step b0 b1
  obtain ⟨z0, z1, z2, z3, z4, z5⟩ := box6 kx
  have y0 := kx.frozen 0
  have y1 := kx.frozen 1
  have y2 := kx.frozen 2
  have y3 := kx.frozen 3
  have y4 := kx.frozen 4
  have y5 := kx.frozen 5
  have kf := blk_set6 kx (.int .i64 0) (.int .u32 0) (.int .u32 0) (.int .u64 0) (.slice none 0 0) (.slice none 0 0)
  have hg := grown_set6 w1 w.heap.size (.int .i64 0) (.int .u32 0) (.int .u32 0) (.int .u64 0) (.slice none 0 0) (.slice none 0 0)
  have bff := b.trans (below_grown hg (Nat.le_refl _) kx.lt)
  obtain ⟨t0, t1, t2, t3, t4, t5⟩ := box6 kf
  clear hg kf kx k0 b1 b b0 HG
  go_wp2_with fail
  refine bodyPost_ret (v := .tuple #[.agg #[.int .i64 0, .int .u32 0, .int .u32 0, .int .u64 0, .slice none 0 0, .slice none 0 0], .int .i64 0, .int .i64 er]) (by simp [results, Try.results27, go_sem, t0, t1, t2, t3, t4, t5]) rfl ?_
  exact ⟨rfl, bff⟩
set_option maxRecDepth 20000 in
set_option maxHeartbeats 2000000 in
theorem rdec_short (A : Option Addr) (n c : Nat) (l : List UInt8) (w : World) (h : Rd w w.heap.size A n c l) (he : headE l = 0) (hs : n < 21 + fld l 17 2 + fld l 19 2) : Calls Try.prog 27 #[.slice A n c] w (DecNo 9 w) := by
  have k0 := Blk.new w #[.int .i64 0, .int .u32 0, .int .u32 0, .int .u64 0, .slice none 0 0, .slice none 0 0] 26
  have b0 : Below w.heap.size w (w.alloc (.cells #[.int .i64 0, .int .u32 0, .int .u32 0, .int .u64 0, .slice none 0 0, .slice none 0 0] 26)) := below_a1' (Below.refl _ _) _
  have hk := fld_lt l 17 2
  have hv := fld_lt l 19 2
  have hG := fun W (r : Rd W W.heap.size A n c l) => (rneed06_any A n c l W r).1 he
  generalize fld l 17 2 = k at hG hk hs
  generalize fld l 19 2 = v at hG hv hs
  have HG := Lib.hid hG
  have hs' : (n : Int) < 21 + (k : Int) + (v : Int) := by omega
  clear hG he
  go_enter Try.func27, Try.ntmps27
  go_wp2_with fail
  generalize w.alloc (.cells #[.int .i64 0, .int .u32 0, .int .u32 0, .int .u64 0, .slice none 0 0, .slice none 0 0] 26) = W0 at k0 b0 ⊢
  refine (HG.out _ ((h.below b0).more b0.size)).mono ?_
  rintro e w1 ⟨rfl, b1⟩
  have kx := k0.step b1
  have b := below_step b0 b1
  obtain ⟨z0, z1, z2, z3, z4, z5⟩ := box6 kx
  have y0 := kx.frozen 0
  have y1 := kx.frozen 1
  have y2 := kx.frozen 2
  have y3 := kx.frozen 3
  have y4 := kx.frozen 4
  have y5 := kx.frozen 5
  have kf := blk_set6 kx (.int .i64 0) (.int .u32 0) (.int .u32 0) (.int .u64 0) (.slice none 0 0) (.slice none 0 0)
  have hg := grown_set6 w1 w.heap.size (.int .i64 0) (.int .u32 0) (.int .u32 0) (.int .u64 0) (.slice none 0 0) (.slice none 0 0)
  have bff := b.trans (below_grown hg (Nat.le_refl _) kx.lt)
  obtain ⟨t0, t1, t2, t3, t4, t5⟩ := box6 kf
  clear hg kf kx k0 b1 b b0 HG
  go_wp2_with fail
  refine bodyPost_ret (v := .tuple #[.agg #[.int .i64 0, .int .u32 0, .int .u32 0, .int .u64 0, .slice none 0 0, .slice none 0 0], .int .i64 0, .int .i64 9]) (by simp [results, Try.results27, go_sem, t0, t1, t2, t3, t4, t5]) rfl ?_
  exact ⟨rfl, bff⟩
set_option maxRecDepth 20000 in
set_option maxHeartbeats 16000000 in
theorem rdec_ok (A : Option Addr) (n c : Nat) (l : List UInt8) (w : World) (h : Rd w w.heap.size A n c l) (he : headE l = 0) (hs : 21 + fld l 17 2 + fld l 19 2 ≤ n) : Calls Try.prog 27 #[.slice A n c] w (DecOk l w) := by
  have k0 := Blk.new w #[.int .i64 0, .int .u32 0, .int .u32 0, .int .u64 0, .slice none 0 0, .slice none 0 0] 26
  have b0 : Below w.heap.size w (w.alloc (.cells #[.int .i64 0, .int .u32 0, .int .u32 0, .int .u64 0, .slice none 0 0, .slice none 0 0] 26)) := below_a1' (Below.refl _ _) _
  have hl := h.len
  have hG := fun W (r : Rd W W.heap.size A n c l) => (rneed06_any A n c l W r).1 he
  unfold DecOk
  have fkd := fld_lt l 0 1
  have ffl := fld_lt l 1 4
  have fex := fld_lt l 5 4
  have fsq := fld_lt l 9 8
  have fk := fld_lt l 17 2
  have fv := fld_lt l 19 2
  obtain ⟨Xfl, cfl, HXfl, rXfl⟩ := slc_lh h 1 5 1 5 rfl rfl (by omega) (by omega)
  rw [show 5 - 1 = 4 from rfl] at HXfl rXfl
  have hNfl := fun W r => num06_fld Xfl 4 cfl l 1 (by omega) (by rw [h.len]; omega) W (rXfl W w.heap.size r)
  obtain ⟨Xex, cex, HXex, rXex⟩ := slc_lh h 5 9 5 9 rfl rfl (by omega) (by omega)
  rw [show 9 - 5 = 4 from rfl] at HXex rXex
  have hNex := fun W r => num06_fld Xex 4 cex l 5 (by omega) (by rw [h.len]; omega) W (rXex W w.heap.size r)
  obtain ⟨Xsq, csq, HXsq, rXsq⟩ := slc_lh h 9 17 9 17 rfl rfl (by omega) (by omega)
  rw [show 17 - 9 = 8 from rfl] at HXsq rXsq
  have hNsq := fun W r => num06_fld Xsq 8 csq l 9 (by omega) (by rw [h.len]; omega) W (rXsq W w.heap.size r)
  obtain ⟨Xk, ck, HXk, rXk⟩ := slc_lh h 17 19 17 19 rfl rfl (by omega) (by omega)
  rw [show 19 - 17 = 2 from rfl] at HXk rXk
  have hNk := fun W r => num06_fld Xk 2 ck l 17 (by omega) (by rw [h.len]; omega) W (rXk W w.heap.size r)
  obtain ⟨a, x, rfl, halt, -, -⟩ := h.at_ (i := 0) (by omega)
  have q0 := rd_byte h 0 (by omega)
  have hcap := h.cap
  generalize fld l 0 1 = kd at q0 fkd ⊢
  generalize fld l 1 4 = fl at hNfl ffl ⊢
  generalize fld l 5 4 = ex at hNex fex ⊢
  generalize fld l 9 8 = sq at hNsq fsq ⊢
  generalize fld l 17 2 = k at hG hs hNk fk ⊢
  generalize fld l 19 2 = v at hG hs fv ⊢
  have HG := Lib.hid hG
  have Hfl := Lib.hid hNfl
  have Hex := Lib.hid hNex
  have Hsq := Lib.hid hNsq
  have Hk := Lib.hid hNk
  clear hG he hl hNfl rXfl hNex rXex hNsq rXsq hNk rXk
  have Wkd : IntKind.i64.wrap (kd : Int) = (kd : Int) := IntWalk.i64_in _ (by omega)
  have Wk : IntKind.i64.wrap (k : Int) = (k : Int) := IntWalk.i64_in _ (by omega)
  have Wfl : IntKind.u32.wrap (fl : Int) = (fl : Int) := IntWalk.u32_in _ (by omega)
  have Wex : IntKind.u32.wrap (ex : Int) = (ex : Int) := IntWalk.u32_in _ (by omega)
  have i0 : (0 : Int) < (n : Int) := by omega
  have j0 : 0 < n := by omega
  have hs' : 21 + (k : Int) + (v : Int) ≤ (n : Int) := by omega
  obtain ⟨X, cx, HX, rX⟩ := slc_lh h 21 (21 + k) 21 (21 + (k : Int)) rfl (by omega) (by omega) (by omega)
  obtain ⟨Y, cy, HY, rY⟩ := slc_lh h (21 + k) (21 + k + v) (21 + (k : Int)) (21 + (k : Int) + (v : Int)) (by omega) (by omega) (by omega) (by omega)
  rw [show 21 + k - 21 = k from by omega] at HX rX
  rw [show 21 + k + v - (21 + k) = v from by omega] at HY rY
  have eX : (l.take (21 + k)).drop 21 = (l.drop 21).take k := by rw [List.drop_take, Nat.add_sub_cancel_left]
  have eY : (l.take (21 + k + v)).drop (21 + k) = ((l.drop 21).drop k).take v := by rw [List.drop_take, Nat.add_sub_cancel_left, List.drop_drop]
  rw [eX] at rX
  rw [eY] at rY
  have RX := Lib.hid rX
  have RY := Lib.hid rY
  replace q0 : w.cell? a = some (.int .u8 (kd : Nat)) := q0
  clear eX eY rX rY
  go_enter Try.func27, Try.ntmps27
  go_wp2_with fail
  generalize w.alloc (.cells #[.int .i64 0, .int .u32 0, .int .u32 0, .int .u64 0, .slice none 0 0, .slice none 0 0] 26) = W0 at k0 b0 ⊢
  refine (HG.out _ ((h.below b0).more b0.size)).mono ?_
  rintro e w1 ⟨rfl, b1⟩
  replace k0 := k0.step b1
  replace b0 := below_step b0 b1
  clear HG b1
  go_wp2_with fail
  refine (Hk.out _ (h.below b0)).mono ?_
  rintro e w2 ⟨rfl, hw⟩
  subst hw
  clear Hk HXk
  go_upto_region 7 with fail
  go_cut [3, 4] (fun s3 s4 wx => s3 = .int .i64 (21 + (k : Int) + (v : Int)) ∧ s4 = .int .i64 0 ∧ ∃ g1 c1 g2 c2, Blk wx w.heap.size #[.int .i64 (kd : Nat), .int .u32 (fl : Nat), .int .u32 (ex : Nat), .int .u64 (sq : Nat), .slice (some ⟨g1, 0, none⟩) k c1, .slice (some ⟨g2, 0, none⟩) v c2] 26 ∧ Own wx (w.heap.size + 1) (some ⟨g1, 0, none⟩) k c1 ((l.drop 21).take k) ∧ Own wx (w.heap.size + 1) (some ⟨g2, 0, none⟩) v c2 (((l.drop 21).drop k).take v) ∧ Below w.heap.size w wx)
  case first =>
    refine wp_region_noPanic ?_
    refine region_V (by kernel_rfl) ?_
    have k2 : Blk w1.drew w.heap.size #[.int .i64 0, .int .u32 0, .int .u32 0, .int .u64 0, .slice none 0 0, .slice none 0 0] 26 := k0
    have b : Below w.heap.size w w1.drew := b0.drew
    generalize w1.drew = V0 at k2 b ⊢
    have hHeld := (b.cell halt).trans q0
    refine takeV (i := 0) (v := ?_) rfl (by kernel_rfl) (by kernel_rfl) (by kernel_rfl) (fun _ _ _ h => h) (Or.inl ⟨by rfl, ?_⟩) ?_
    rotate_left
    · (intro wx; go_simp; try (with_reducible rfl))
    try simp only [Act.put, List.setIfInBounds_toArray, List.set_cons_zero, List.set_cons_succ]
    refine takeV (i := 1) (v := ?_) rfl (by kernel_rfl) (by kernel_rfl) (by kernel_rfl) (fun _ _ _ h => h) (Or.inl ⟨by rfl, ?_⟩) ?_
    rotate_left
    · (intro wx; go_simp; try (with_reducible rfl))
    try simp only [Act.put, List.setIfInBounds_toArray, List.set_cons_zero, List.set_cons_succ]
    refine takeV (i := 4) (v := ?_) rfl (by kernel_rfl) (by kernel_rfl) (by kernel_rfl) (fun _ _ _ h => h) (Or.inl ⟨by rfl, ?_⟩) ?_
    rotate_left
    · (intro wx; go_simp; try (with_reducible rfl))
    try simp only [Act.put, List.setIfInBounds_toArray, List.set_cons_zero, List.set_cons_succ]
    refine takeV (i := 5) (v := ?_) rfl (by kernel_rfl) (by kernel_rfl) (by kernel_rfl) (fun _ _ _ h => h) (Or.inl ⟨by rfl, ?_⟩) ?_
    rotate_left
    · (intro wx; go_simp; try (with_reducible rfl))
    try simp only [Act.put, List.setIfInBounds_toArray, List.set_cons_zero, List.set_cons_succ]
    refine takeV (i := 8) (v := ?_) rfl (by kernel_rfl) (by kernel_rfl) (by kernel_rfl) (fun _ _ _ h => h) (Or.inl ⟨by rfl, ?_⟩) ?_
    rotate_left
    · (intro wx; go_simp; try (with_reducible rfl))
    try simp only [Act.put, List.setIfInBounds_toArray, List.set_cons_zero, List.set_cons_succ]
    refine takeV (i := 9) (v := ?_) rfl (by kernel_rfl) (by kernel_rfl) (by kernel_rfl) (fun _ _ _ h => h) (Or.inl ⟨by rfl, ?_⟩) ?_
    rotate_left
    · (intro wx; go_simp; try (with_reducible rfl))
    try simp only [Act.put, List.setIfInBounds_toArray, List.set_cons_zero, List.set_cons_succ]
    refine takeV (i := 12) (v := ?_) rfl (by kernel_rfl) (by kernel_rfl) (by kernel_rfl) (fun _ _ _ h => h) (Or.inl ⟨by rfl, ?_⟩) ?_
    rotate_left
    · (intro wx; go_simp; try (with_reducible rfl))
    try simp only [Act.put, List.setIfInBounds_toArray, List.set_cons_zero, List.set_cons_succ]
    refine takeV (i := 13) (v := ?_) rfl (by kernel_rfl) (by kernel_rfl) (by kernel_rfl) (fun _ _ _ h => h) (Or.inl ⟨by rfl, ?_⟩) ?_
    rotate_left
    · (intro wx; go_simp; try (with_reducible rfl))
    try simp only [Act.put, List.setIfInBounds_toArray, List.set_cons_zero, List.set_cons_succ]
    refine takeV (i := 16) (v := ?_) rfl (by kernel_rfl) (by kernel_rfl) (by kernel_rfl) (fun _ _ _ h => h) (Or.inl ⟨by rfl, ?_⟩) ?_
    rotate_left
    · (intro wx; go_simp; try (with_reducible rfl))
    try simp only [Act.put, List.setIfInBounds_toArray, List.set_cons_zero, List.set_cons_succ]
    refine takeV (i := 17) (v := ?_) rfl (by kernel_rfl) (by kernel_rfl) (by kernel_rfl) (fun _ _ _ h => h) (Or.inl ⟨by rfl, ?_⟩) ?_
    rotate_left
    · (intro wx; go_simp; try (with_reducible rfl))
    try simp only [Act.put, List.setIfInBounds_toArray, List.set_cons_zero, List.set_cons_succ]
    refine takeV (i := 18) (v := ?_) rfl (by kernel_rfl) (by kernel_rfl) (by kernel_rfl) (fun _ _ _ h => h) (Or.inl ⟨by rfl, ?_⟩) ?_
    rotate_left
    · (intro wx; go_simp; try (with_reducible rfl))
    try simp only [Act.put, List.setIfInBounds_toArray, List.set_cons_zero, List.set_cons_succ]
    refine takeV (i := 21) (v := ?_) rfl (by kernel_rfl) (by kernel_rfl) (by kernel_rfl) (fun _ _ _ h => h) (Or.inl ⟨by rfl, ?_⟩) ?_
    rotate_left
    · (intro wx; go_simp; try (with_reducible rfl))
    try simp only [Act.put, List.setIfInBounds_toArray, List.set_cons_zero, List.set_cons_succ]
    refine takeV (i := 22) (v := ?_) rfl (by kernel_rfl) (by kernel_rfl) (by kernel_rfl) (fun _ _ _ h => h) (Or.inl ⟨by rfl, ?_⟩) ?_
    rotate_left
    · (intro wx; go_simp; try (with_reducible rfl))
    try simp only [Act.put, List.setIfInBounds_toArray, List.set_cons_zero, List.set_cons_succ]
    refine takeV (i := 23) (v := ?_) rfl (by kernel_rfl) (by kernel_rfl) (by kernel_rfl) (fun _ _ _ h => h) (Or.inl ⟨by rfl, ?_⟩) ?_
    rotate_left
    · (intro wx; go_simp; try (with_reducible rfl))
    try simp only [Act.put, List.setIfInBounds_toArray, List.set_cons_zero, List.set_cons_succ]
    refine takeV (i := 24) (v := ?_) rfl (by kernel_rfl) (by kernel_rfl) (by kernel_rfl) (fun _ _ _ h => h) (Or.inl ⟨by rfl, ?_⟩) ?_
    rotate_left
    · (intro wx; go_simp; try (with_reducible rfl))
    try simp only [Act.put, List.setIfInBounds_toArray, List.set_cons_zero, List.set_cons_succ]
    refine takeV (i := 27) (v := ?_) rfl (by kernel_rfl) (by kernel_rfl) (by kernel_rfl) (fun _ _ _ h => h) (Or.inl ⟨by rfl, ?_⟩) ?_
    rotate_left
    · (intro wx; go_simp; try (with_reducible rfl))
    try simp only [Act.put, List.setIfInBounds_toArray, List.set_cons_zero, List.set_cons_succ]
    refine into_T (fun w' => w'.cell? a = some (.int .u8 (kd : Nat))) 28 ?_
    refine takeU (i := 2) (v := ?_) rfl (by kernel_rfl) (by kernel_rfl) (by kernel_rfl) (by kernel_rfl) (by kernel_rfl) (fun _ _ _ h => h) (Or.inl ⟨by rfl, ?_⟩) hHeld ?_
    rotate_left
    · (intro wx hSw; (try dsimp only at hSw); go_simp; try (with_reducible rfl))
    try simp only [Act.put, List.setIfInBounds_toArray, List.set_cons_zero, List.set_cons_succ]
    refine takeU (i := 3) (v := ?_) rfl (by kernel_rfl) (by kernel_rfl) (by kernel_rfl) (by kernel_rfl) (by kernel_rfl) (fun _ _ _ h => h) (Or.inl ⟨by rfl, ?_⟩) hHeld ?_
    rotate_left
    · (intro wx hSw; (try dsimp only at hSw); go_simp; try (with_reducible rfl))
    try simp only [Act.put, List.setIfInBounds_toArray, List.set_cons_zero, List.set_cons_succ]
    refine threeT (i := 6) (j := 15) (k := 20) rfl rfl rfl (by kernel_rfl) (fun K hK => ?_) (fun K hK => ?_) (fun K hK => ?_)
    · go_simp
      refine (Hfl.out _ (h.below b)).mono ?_
      rintro e wq ⟨rfl, hw⟩
      subst hw
      refine hK.out _ _ (fun _ => hHeld) ?_
      clear hK K
      try simp only [Act.put, List.setIfInBounds_toArray, List.set_cons_zero, List.set_cons_succ]
      refine takeU (i := 7) (v := ?_) rfl (by kernel_rfl) (by kernel_rfl) (by kernel_rfl) (by kernel_rfl) (by kernel_rfl) (fun _ _ _ h => h) (Or.inl ⟨by rfl, ?_⟩) hHeld ?_
      rotate_left
      · (intro wx hSw; (try dsimp only at hSw); go_simp; try (with_reducible rfl))
      try simp only [Act.put, List.setIfInBounds_toArray, List.set_cons_zero, List.set_cons_succ]
      refine threeT (i := 10) (j := 15) (k := 20) rfl rfl rfl (by kernel_rfl) (fun K hK => ?_) (fun K hK => ?_) (fun K hK => ?_)
      · go_simp
        refine (Hex.out _ (h.below b)).mono ?_
        rintro e wq ⟨rfl, hw⟩
        subst hw
        refine hK.out _ _ (fun _ => hHeld) ?_
        clear hK K
        try simp only [Act.put, List.setIfInBounds_toArray, List.set_cons_zero, List.set_cons_succ]
        refine takeU (i := 11) (v := ?_) rfl (by kernel_rfl) (by kernel_rfl) (by kernel_rfl) (by kernel_rfl) (by kernel_rfl) (fun _ _ _ h => h) (Or.inl ⟨by rfl, ?_⟩) hHeld ?_
        rotate_left
        · (intro wx hSw; (try dsimp only at hSw); go_simp; try (with_reducible rfl))
        try simp only [Act.put, List.setIfInBounds_toArray, List.set_cons_zero, List.set_cons_succ]
        refine threeT (i := 14) (j := 15) (k := 20) rfl rfl rfl (by kernel_rfl) (fun K hK => ?_) (fun K hK => ?_) (fun K hK => ?_)
        · go_simp
          refine (Hsq.out _ (h.below b)).mono ?_
          rintro e wq ⟨rfl, hw⟩
          subst hw
          refine hK.out _ _ (fun _ => hHeld) ?_
          clear hK K
          try simp only [Act.put, List.setIfInBounds_toArray, List.set_cons_zero, List.set_cons_succ]
          refine twoT (i := 15) (j := 20) rfl rfl (by kernel_rfl) (fun K hK => ?_) (fun K hK => ?_)
          · go_simp
            have o15 : Own (V0.alloc (.cells #[] 5)) (w.heap.size + 1) (some ⟨V0.heap.size, 0, none⟩) 0 0 [] := Own.emptyK V0 _ _ rfl k2.lt
            have ba := below_a1' (Below.refl V0.heap.size V0) (.cells #[] 5)
            have k2 := k2.alloc (.cells #[] 5)
            have b := below_step b ba
            generalize hW : V0.alloc (.cells #[] 5) = V1 at o15 k2 b ba ⊢
            clear hW
            have hl15 := o15.base.2
            have hHeld := (b.cell halt).trans q0
            refine hK.out _ _ (fun _ => hHeld) ?_
            clear hK K
            try simp only [Act.put, List.setIfInBounds_toArray, List.set_cons_zero, List.set_cons_succ]
            refine twoT (i := 19) (j := 20) rfl rfl (by kernel_rfl) (fun K hK => ?_) (fun K hK => ?_)
            · refine step_app8g _ rfl _ _ rfl (w.heap.size + 1) (V0.heap.size) 0 0 [] rfl o15 w.heap.size X k cx ((l.drop 21).take k) rfl (RX.out _ _ (h.below b)) (by omega) k2.lt ?_
              intro g19 c19 V2 o19 gb19 hg19
              have h15 := o15.base
              simp only [Nat.zero_add, List.nil_append] at o19 ⊢
              have b := b.trans (below_grown gb19 (by omega) h15.2)
              have k2 := k2.left gb19 (by omega)
              have hl19 := o19.base.2
              have hHeld := (b.cell halt).trans q0
              refine hK.out _ _ (fun _ => hHeld) ?_
              clear hK K
              try simp only [Act.put, List.setIfInBounds_toArray, List.set_cons_zero, List.set_cons_succ]
              refine oneT (i := 20) rfl (by kernel_rfl) (fun K hK => ?_)
              go_simp
              have o20 : Own (V2.alloc (.cells #[] 5)) (w.heap.size + 1) (some ⟨V2.heap.size, 0, none⟩) 0 0 [] := Own.emptyK V2 _ _ rfl k2.lt
              have ba := below_a1' (Below.refl V2.heap.size V2) (.cells #[] 5)
              have k2 := k2.alloc (.cells #[] 5)
              have b := below_step b ba
              have o19 := o19.below ba
              generalize hW : V2.alloc (.cells #[] 5) = V3 at o20 k2 b ba o19 ⊢
              clear hW
              have hl20 := o20.base.2
              have hHeld := (b.cell halt).trans q0
              refine hK.out _ _ (fun _ => hHeld) ?_
              clear hK K
              try simp only [Act.put, List.setIfInBounds_toArray, List.set_cons_zero, List.set_cons_succ]
              refine oneT (i := 25) rfl (by kernel_rfl) (fun K hK => ?_)
              refine step_app8g _ rfl _ _ rfl (w.heap.size + 1) (V2.heap.size) 0 0 [] rfl o20 w.heap.size Y v cy (((l.drop 21).drop k).take v) rfl (RY.out _ _ (h.below b)) (by omega) k2.lt ?_
              intro g25 c25 V4 o25 gb25 hg25
              have h20 := o20.base
              simp only [Nat.zero_add, List.nil_append] at o25 ⊢
              have b := b.trans (below_grown gb25 (by omega) h20.2)
              have k2 := k2.left gb25 (by omega)
              have o19 := o19.left gb25 (by have := o19.base; omega)
              have hl25 := o25.base.2
              have hHeld := (b.cell halt).trans q0
              refine hK.out _ _ (fun _ => hHeld) ?_
              clear hK K
              try simp only [Act.put, List.setIfInBounds_toArray, List.set_cons_zero, List.set_cons_succ]
              refine takeU (i := 26) (v := ?_) rfl (by kernel_rfl) (by kernel_rfl) (by kernel_rfl) (by kernel_rfl) (by kernel_rfl) (fun _ _ _ h => h) (Or.inl ⟨by rfl, ?_⟩) hHeld ?_
              rotate_left
              · (intro wx hSw; (try dsimp only at hSw); go_simp; try (with_reducible rfl))
              try simp only [Act.put, List.setIfInBounds_toArray, List.set_cons_zero, List.set_cons_succ]
              have y0 := k2.frozen 0
              have y1 := k2.frozen 1
              have y2 := k2.frozen 2
              have y3 := k2.frozen 3
              have y4 := k2.frozen 4
              have y5 := k2.frozen 5
              obtain ⟨z0, z1, z2, z3, z4, z5⟩ := box6 k2
              have kf := blk_set6 k2 (.int .i64 (kd : Nat)) (.int .u32 (fl : Nat)) (.int .u32 (ex : Nat)) (.int .u64 (sq : Nat)) (.slice (some ⟨g19, 0, none⟩) k c19) (.slice (some ⟨g25, 0, none⟩) v c25)
              have gs := grown_set6 V4 w.heap.size (.int .i64 (kd : Nat)) (.int .u32 (fl : Nat)) (.int .u32 (ex : Nat)) (.int .u64 (sq : Nat)) (.slice (some ⟨g19, 0, none⟩) k c19) (.slice (some ⟨g25, 0, none⟩) v c25)
              refine oneT (i := 28) rfl (by kernel_rfl) (fun K hK => ?_)
              go_simp
              refine hK.out _ _ (fun h => absurd h (by decide)) ?_
              clear hK K
              try simp only [Act.put, List.setIfInBounds_toArray, List.set_cons_zero, List.set_cons_succ]
              refine oneT (i := 29) rfl (by kernel_rfl) (fun K hK => ?_)
              go_simp
              refine hK.out _ _ (fun h => absurd h (by decide)) ?_
              clear hK K
              try simp only [Act.put, List.setIfInBounds_toArray, List.set_cons_zero, List.set_cons_succ]
              refine oneT (i := 30) rfl (by kernel_rfl) (fun K hK => ?_)
              go_simp
              refine hK.out _ _ (fun h => absurd h (by decide)) ?_
              clear hK K
              try simp only [Act.put, List.setIfInBounds_toArray, List.set_cons_zero, List.set_cons_succ]
              refine doneT (by kernel_rfl) ?_ _
              refine NoPanic.normal ?_
              go_wp2_with fail
              go_meet
              exact ⟨rfl, rfl, g19, c19, g25, c25, kf, o19.kept gs (by omega), o25.kept gs (by omega), b.trans (below_grown gs (Nat.le_refl _) k2.lt)⟩
            · go_simp
              have o20 : Own (V1.alloc (.cells #[] 5)) (w.heap.size + 1) (some ⟨V1.heap.size, 0, none⟩) 0 0 [] := Own.emptyK V1 _ _ rfl k2.lt
              have ba := below_a1' (Below.refl V1.heap.size V1) (.cells #[] 5)
              have k2 := k2.alloc (.cells #[] 5)
              have b := below_step b ba
              have o15 := o15.below ba
              generalize hW : V1.alloc (.cells #[] 5) = V2 at o20 k2 b ba o15 ⊢
              clear hW
              have hl20 := o20.base.2
              have hHeld := (b.cell halt).trans q0
              refine hK.out _ _ (fun _ => hHeld) ?_
              clear hK K
              try simp only [Act.put, List.setIfInBounds_toArray, List.set_cons_zero, List.set_cons_succ]
              refine oneT (i := 19) rfl (by kernel_rfl) (fun K hK => ?_)
              refine step_app8g _ rfl _ _ rfl (w.heap.size + 1) (V0.heap.size) 0 0 [] rfl o15 w.heap.size X k cx ((l.drop 21).take k) rfl (RX.out _ _ (h.below b)) (by omega) k2.lt ?_
              intro g19 c19 V3 o19 gb19 hg19
              have h15 := o15.base
              simp only [Nat.zero_add, List.nil_append] at o19 ⊢
              have b := b.trans (below_grown gb19 (by omega) h15.2)
              have k2 := k2.left gb19 (by omega)
              have o20 := o20.left gb19 (by have := o20.base; omega)
              have hl19 := o19.base.2
              have hHeld := (b.cell halt).trans q0
              refine hK.out _ _ (fun _ => hHeld) ?_
              clear hK K
              try simp only [Act.put, List.setIfInBounds_toArray, List.set_cons_zero, List.set_cons_succ]
              refine oneT (i := 25) rfl (by kernel_rfl) (fun K hK => ?_)
              refine step_app8g _ rfl _ _ rfl (w.heap.size + 1) (V1.heap.size) 0 0 [] rfl o20 w.heap.size Y v cy (((l.drop 21).drop k).take v) rfl (RY.out _ _ (h.below b)) (by omega) k2.lt ?_
              intro g25 c25 V4 o25 gb25 hg25
              have h20 := o20.base
              simp only [Nat.zero_add, List.nil_append] at o25 ⊢
              have b := b.trans (below_grown gb25 (by omega) h20.2)
              have k2 := k2.left gb25 (by omega)
              have o19 := o19.left gb25 (by have := o19.base; omega)
              have hl25 := o25.base.2
              have hHeld := (b.cell halt).trans q0
              refine hK.out _ _ (fun _ => hHeld) ?_
              clear hK K
              try simp only [Act.put, List.setIfInBounds_toArray, List.set_cons_zero, List.set_cons_succ]
              refine takeU (i := 26) (v := ?_) rfl (by kernel_rfl) (by kernel_rfl) (by kernel_rfl) (by kernel_rfl) (by kernel_rfl) (fun _ _ _ h => h) (Or.inl ⟨by rfl, ?_⟩) hHeld ?_
              rotate_left
              · (intro wx hSw; (try dsimp only at hSw); go_simp; try (with_reducible rfl))
              try simp only [Act.put, List.setIfInBounds_toArray, List.set_cons_zero, List.set_cons_succ]
              have y0 := k2.frozen 0
              have y1 := k2.frozen 1
              have y2 := k2.frozen 2
              have y3 := k2.frozen 3
              have y4 := k2.frozen 4
              have y5 := k2.frozen 5
              obtain ⟨z0, z1, z2, z3, z4, z5⟩ := box6 k2
              have kf := blk_set6 k2 (.int .i64 (kd : Nat)) (.int .u32 (fl : Nat)) (.int .u32 (ex : Nat)) (.int .u64 (sq : Nat)) (.slice (some ⟨g19, 0, none⟩) k c19) (.slice (some ⟨g25, 0, none⟩) v c25)
              have gs := grown_set6 V4 w.heap.size (.int .i64 (kd : Nat)) (.int .u32 (fl : Nat)) (.int .u32 (ex : Nat)) (.int .u64 (sq : Nat)) (.slice (some ⟨g19, 0, none⟩) k c19) (.slice (some ⟨g25, 0, none⟩) v c25)
              refine oneT (i := 28) rfl (by kernel_rfl) (fun K hK => ?_)
              go_simp
              refine hK.out _ _ (fun h => absurd h (by decide)) ?_
              clear hK K
              try simp only [Act.put, List.setIfInBounds_toArray, List.set_cons_zero, List.set_cons_succ]
              refine oneT (i := 29) rfl (by kernel_rfl) (fun K hK => ?_)
              go_simp
              refine hK.out _ _ (fun h => absurd h (by decide)) ?_
              clear hK K
              try simp only [Act.put, List.setIfInBounds_toArray, List.set_cons_zero, List.set_cons_succ]
              refine oneT (i := 30) rfl (by kernel_rfl) (fun K hK => ?_)
              go_simp
              refine hK.out _ _ (fun h => absurd h (by decide)) ?_
              clear hK K
              try simp only [Act.put, List.setIfInBounds_toArray, List.set_cons_zero, List.set_cons_succ]
              refine doneT (by kernel_rfl) ?_ _
              refine NoPanic.normal ?_
              go_wp2_with fail
              go_meet
              exact ⟨rfl, rfl, g19, c19, g25, c25, kf, o19.kept gs (by omega), o25.kept gs (by omega), b.trans (below_grown gs (Nat.le_refl _) k2.lt)⟩
          · go_simp
            have o20 : Own (V0.alloc (.cells #[] 5)) (w.heap.size + 1) (some ⟨V0.heap.size, 0, none⟩) 0 0 [] := Own.emptyK V0 _ _ rfl k2.lt
            have ba := below_a1' (Below.refl V0.heap.size V0) (.cells #[] 5)
            have k2 := k2.alloc (.cells #[] 5)
            have b := below_step b ba
            generalize hW : V0.alloc (.cells #[] 5) = V1 at o20 k2 b ba ⊢
            clear hW
            have hl20 := o20.base.2
            have hHeld := (b.cell halt).trans q0
            refine hK.out _ _ (fun _ => hHeld) ?_
            clear hK K
            try simp only [Act.put, List.setIfInBounds_toArray, List.set_cons_zero, List.set_cons_succ]
            refine oneT (i := 15) rfl (by kernel_rfl) (fun K hK => ?_)
            go_simp
            have o15 : Own (V1.alloc (.cells #[] 5)) (w.heap.size + 1) (some ⟨V1.heap.size, 0, none⟩) 0 0 [] := Own.emptyK V1 _ _ rfl k2.lt
            have ba := below_a1' (Below.refl V1.heap.size V1) (.cells #[] 5)
            have k2 := k2.alloc (.cells #[] 5)
            have b := below_step b ba
            have o20 := o20.below ba
            generalize hW : V1.alloc (.cells #[] 5) = V2 at o15 k2 b ba o20 ⊢
            clear hW
            have hl15 := o15.base.2
            have hHeld := (b.cell halt).trans q0
            refine hK.out _ _ (fun _ => hHeld) ?_
            clear hK K
            try simp only [Act.put, List.setIfInBounds_toArray, List.set_cons_zero, List.set_cons_succ]
            refine oneT (i := 19) rfl (by kernel_rfl) (fun K hK => ?_)
            refine step_app8g _ rfl _ _ rfl (w.heap.size + 1) (V1.heap.size) 0 0 [] rfl o15 w.heap.size X k cx ((l.drop 21).take k) rfl (RX.out _ _ (h.below b)) (by omega) k2.lt ?_
            intro g19 c19 V3 o19 gb19 hg19
            have h15 := o15.base
            simp only [Nat.zero_add, List.nil_append] at o19 ⊢
            have b := b.trans (below_grown gb19 (by omega) h15.2)
            have k2 := k2.left gb19 (by omega)
            have o20 := o20.left gb19 (by have := o20.base; omega)
            have hl19 := o19.base.2
            have hHeld := (b.cell halt).trans q0
            refine hK.out _ _ (fun _ => hHeld) ?_
            clear hK K
            try simp only [Act.put, List.setIfInBounds_toArray, List.set_cons_zero, List.set_cons_succ]
            refine oneT (i := 25) rfl (by kernel_rfl) (fun K hK => ?_)
            refine step_app8g _ rfl _ _ rfl (w.heap.size + 1) (V0.heap.size) 0 0 [] rfl o20 w.heap.size Y v cy (((l.drop 21).drop k).take v) rfl (RY.out _ _ (h.below b)) (by omega) k2.lt ?_
            intro g25 c25 V4 o25 gb25 hg25
            have h20 := o20.base
            simp only [Nat.zero_add, List.nil_append] at o25 ⊢
            have b := b.trans (below_grown gb25 (by omega) h20.2)
            have k2 := k2.left gb25 (by omega)
            have o19 := o19.left gb25 (by have := o19.base; omega)
            have hl25 := o25.base.2
            have hHeld := (b.cell halt).trans q0
            refine hK.out _ _ (fun _ => hHeld) ?_
            clear hK K
            try simp only [Act.put, List.setIfInBounds_toArray, List.set_cons_zero, List.set_cons_succ]
            refine takeU (i := 26) (v := ?_) rfl (by kernel_rfl) (by kernel_rfl) (by kernel_rfl) (by kernel_rfl) (by kernel_rfl) (fun _ _ _ h => h) (Or.inl ⟨by rfl, ?_⟩) hHeld ?_
            rotate_left
            · (intro wx hSw; (try dsimp only at hSw); go_simp; try (with_reducible rfl))
            try simp only [Act.put, List.setIfInBounds_toArray, List.set_cons_zero, List.set_cons_succ]
            have y0 := k2.frozen 0
            have y1 := k2.frozen 1
            have y2 := k2.frozen 2
            have y3 := k2.frozen 3
            have y4 := k2.frozen 4
            have y5 := k2.frozen 5
            obtain ⟨z0, z1, z2, z3, z4, z5⟩ := box6 k2
            have kf := blk_set6 k2 (.int .i64 (kd : Nat)) (.int .u32 (fl : Nat)) (.int .u32 (ex : Nat)) (.int .u64 (sq : Nat)) (.slice (some ⟨g19, 0, none⟩) k c19) (.slice (some ⟨g25, 0, none⟩) v c25)
            have gs := grown_set6 V4 w.heap.size (.int .i64 (kd : Nat)) (.int .u32 (fl : Nat)) (.int .u32 (ex : Nat)) (.int .u64 (sq : Nat)) (.slice (some ⟨g19, 0, none⟩) k c19) (.slice (some ⟨g25, 0, none⟩) v c25)
            refine oneT (i := 28) rfl (by kernel_rfl) (fun K hK => ?_)
            go_simp
            refine hK.out _ _ (fun h => absurd h (by decide)) ?_
            clear hK K
            try simp only [Act.put, List.setIfInBounds_toArray, List.set_cons_zero, List.set_cons_succ]
            refine oneT (i := 29) rfl (by kernel_rfl) (fun K hK => ?_)
            go_simp
            refine hK.out _ _ (fun h => absurd h (by decide)) ?_
            clear hK K
            try simp only [Act.put, List.setIfInBounds_toArray, List.set_cons_zero, List.set_cons_succ]
            refine oneT (i := 30) rfl (by kernel_rfl) (fun K hK => ?_)
            go_simp
            refine hK.out _ _ (fun h => absurd h (by decide)) ?_
            clear hK K
            try simp only [Act.put, List.setIfInBounds_toArray, List.set_cons_zero, List.set_cons_succ]
            refine doneT (by kernel_rfl) ?_ _
            refine NoPanic.normal ?_
            go_wp2_with fail
            go_meet
            exact ⟨rfl, rfl, g19, c19, g25, c25, kf, o19.kept gs (by omega), o25.kept gs (by omega), b.trans (below_grown gs (Nat.le_refl _) k2.lt)⟩
        · go_simp
          have o15 : Own (V0.alloc (.cells #[] 5)) (w.heap.size + 1) (some ⟨V0.heap.size, 0, none⟩) 0 0 [] := Own.emptyK V0 _ _ rfl k2.lt
          have ba := below_a1' (Below.refl V0.heap.size V0) (.cells #[] 5)
          have k2 := k2.alloc (.cells #[] 5)
          have b := below_step b ba
          generalize hW : V0.alloc (.cells #[] 5) = V1 at o15 k2 b ba ⊢
          clear hW
          have hl15 := o15.base.2
          have hHeld := (b.cell halt).trans q0
          refine hK.out _ _ (fun _ => hHeld) ?_
          clear hK K
          try simp only [Act.put, List.setIfInBounds_toArray, List.set_cons_zero, List.set_cons_succ]
          refine twoT (i := 14) (j := 20) rfl rfl (by kernel_rfl) (fun K hK => ?_) (fun K hK => ?_)
          · go_simp
            refine (Hsq.out _ (h.below b)).mono ?_
            rintro e wq ⟨rfl, hw⟩
            subst hw
            refine hK.out _ _ (fun _ => hHeld) ?_
            clear hK K
            try simp only [Act.put, List.setIfInBounds_toArray, List.set_cons_zero, List.set_cons_succ]
            refine twoT (i := 19) (j := 20) rfl rfl (by kernel_rfl) (fun K hK => ?_) (fun K hK => ?_)
            · refine step_app8g _ rfl _ _ rfl (w.heap.size + 1) (V0.heap.size) 0 0 [] rfl o15 w.heap.size X k cx ((l.drop 21).take k) rfl (RX.out _ _ (h.below b)) (by omega) k2.lt ?_
              intro g19 c19 V2 o19 gb19 hg19
              have h15 := o15.base
              simp only [Nat.zero_add, List.nil_append] at o19 ⊢
              have b := b.trans (below_grown gb19 (by omega) h15.2)
              have k2 := k2.left gb19 (by omega)
              have hl19 := o19.base.2
              have hHeld := (b.cell halt).trans q0
              refine hK.out _ _ (fun _ => hHeld) ?_
              clear hK K
              try simp only [Act.put, List.setIfInBounds_toArray, List.set_cons_zero, List.set_cons_succ]
              refine oneT (i := 20) rfl (by kernel_rfl) (fun K hK => ?_)
              go_simp
              have o20 : Own (V2.alloc (.cells #[] 5)) (w.heap.size + 1) (some ⟨V2.heap.size, 0, none⟩) 0 0 [] := Own.emptyK V2 _ _ rfl k2.lt
              have ba := below_a1' (Below.refl V2.heap.size V2) (.cells #[] 5)
              have k2 := k2.alloc (.cells #[] 5)
              have b := below_step b ba
              have o19 := o19.below ba
              generalize hW : V2.alloc (.cells #[] 5) = V3 at o20 k2 b ba o19 ⊢
              clear hW
              have hl20 := o20.base.2
              have hHeld := (b.cell halt).trans q0
              refine hK.out _ _ (fun _ => hHeld) ?_
              clear hK K
              try simp only [Act.put, List.setIfInBounds_toArray, List.set_cons_zero, List.set_cons_succ]
              refine oneT (i := 25) rfl (by kernel_rfl) (fun K hK => ?_)
              refine step_app8g _ rfl _ _ rfl (w.heap.size + 1) (V2.heap.size) 0 0 [] rfl o20 w.heap.size Y v cy (((l.drop 21).drop k).take v) rfl (RY.out _ _ (h.below b)) (by omega) k2.lt ?_
              intro g25 c25 V4 o25 gb25 hg25
              have h20 := o20.base
              simp only [Nat.zero_add, List.nil_append] at o25 ⊢
              have b := b.trans (below_grown gb25 (by omega) h20.2)
              have k2 := k2.left gb25 (by omega)
              have o19 := o19.left gb25 (by have := o19.base; omega)
              have hl25 := o25.base.2
              have hHeld := (b.cell halt).trans q0
              refine hK.out _ _ (fun _ => hHeld) ?_
              clear hK K
              try simp only [Act.put, List.setIfInBounds_toArray, List.set_cons_zero, List.set_cons_succ]
              refine takeU (i := 26) (v := ?_) rfl (by kernel_rfl) (by kernel_rfl) (by kernel_rfl) (by kernel_rfl) (by kernel_rfl) (fun _ _ _ h => h) (Or.inl ⟨by rfl, ?_⟩) hHeld ?_
              rotate_left
              · (intro wx hSw; (try dsimp only at hSw); go_simp; try (with_reducible rfl))
              try simp only [Act.put, List.setIfInBounds_toArray, List.set_cons_zero, List.set_cons_succ]
              have y0 := k2.frozen 0
              have y1 := k2.frozen 1
              have y2 := k2.frozen 2
              have y3 := k2.frozen 3
              have y4 := k2.frozen 4
              have y5 := k2.frozen 5
              obtain ⟨z0, z1, z2, z3, z4, z5⟩ := box6 k2
              have kf := blk_set6 k2 (.int .i64 (kd : Nat)) (.int .u32 (fl : Nat)) (.int .u32 (ex : Nat)) (.int .u64 (sq : Nat)) (.slice (some ⟨g19, 0, none⟩) k c19) (.slice (some ⟨g25, 0, none⟩) v c25)
              have gs := grown_set6 V4 w.heap.size (.int .i64 (kd : Nat)) (.int .u32 (fl : Nat)) (.int .u32 (ex : Nat)) (.int .u64 (sq : Nat)) (.slice (some ⟨g19, 0, none⟩) k c19) (.slice (some ⟨g25, 0, none⟩) v c25)
              refine oneT (i := 28) rfl (by kernel_rfl) (fun K hK => ?_)
              go_simp
              refine hK.out _ _ (fun h => absurd h (by decide)) ?_
              clear hK K
              try simp only [Act.put, List.setIfInBounds_toArray, List.set_cons_zero, List.set_cons_succ]
              refine oneT (i := 29) rfl (by kernel_rfl) (fun K hK => ?_)
              go_simp
              refine hK.out _ _ (fun h => absurd h (by decide)) ?_
              clear hK K
              try simp only [Act.put, List.setIfInBounds_toArray, List.set_cons_zero, List.set_cons_succ]
              refine oneT (i := 30) rfl (by kernel_rfl) (fun K hK => ?_)
              go_simp
              refine hK.out _ _ (fun h => absurd h (by decide)) ?_
              clear hK K
              try simp only [Act.put, List.setIfInBounds_toArray, List.set_cons_zero, List.set_cons_succ]
              refine doneT (by kernel_rfl) ?_ _
              refine NoPanic.normal ?_
              go_wp2_with fail
              go_meet
              exact ⟨rfl, rfl, g19, c19, g25, c25, kf, o19.kept gs (by omega), o25.kept gs (by omega), b.trans (below_grown gs (Nat.le_refl _) k2.lt)⟩
            · go_simp
              have o20 : Own (V1.alloc (.cells #[] 5)) (w.heap.size + 1) (some ⟨V1.heap.size, 0, none⟩) 0 0 [] := Own.emptyK V1 _ _ rfl k2.lt
              have ba := below_a1' (Below.refl V1.heap.size V1) (.cells #[] 5)
              have k2 := k2.alloc (.cells #[] 5)
              have b := below_step b ba
              have o15 := o15.below ba
              generalize hW : V1.alloc (.cells #[] 5) = V2 at o20 k2 b ba o15 ⊢
              clear hW
              have hl20 := o20.base.2
              have hHeld := (b.cell halt).trans q0
              refine hK.out _ _ (fun _ => hHeld) ?_
              clear hK K
              try simp only [Act.put, List.setIfInBounds_toArray, List.set_cons_zero, List.set_cons_succ]
              refine oneT (i := 19) rfl (by kernel_rfl) (fun K hK => ?_)
              refine step_app8g _ rfl _ _ rfl (w.heap.size + 1) (V0.heap.size) 0 0 [] rfl o15 w.heap.size X k cx ((l.drop 21).take k) rfl (RX.out _ _ (h.below b)) (by omega) k2.lt ?_
              intro g19 c19 V3 o19 gb19 hg19
              have h15 := o15.base
              simp only [Nat.zero_add, List.nil_append] at o19 ⊢
              have b := b.trans (below_grown gb19 (by omega) h15.2)
              have k2 := k2.left gb19 (by omega)
              have o20 := o20.left gb19 (by have := o20.base; omega)
              have hl19 := o19.base.2
              have hHeld := (b.cell halt).trans q0
              refine hK.out _ _ (fun _ => hHeld) ?_
              clear hK K
              try simp only [Act.put, List.setIfInBounds_toArray, List.set_cons_zero, List.set_cons_succ]
              refine oneT (i := 25) rfl (by kernel_rfl) (fun K hK => ?_)
              refine step_app8g _ rfl _ _ rfl (w.heap.size + 1) (V1.heap.size) 0 0 [] rfl o20 w.heap.size Y v cy (((l.drop 21).drop k).take v) rfl (RY.out _ _ (h.below b)) (by omega) k2.lt ?_
              intro g25 c25 V4 o25 gb25 hg25
              have h20 := o20.base
              simp only [Nat.zero_add, List.nil_append] at o25 ⊢
              have b := b.trans (below_grown gb25 (by omega) h20.2)
              have k2 := k2.left gb25 (by omega)
              have o19 := o19.left gb25 (by have := o19.base; omega)
              have hl25 := o25.base.2
              have hHeld := (b.cell halt).trans q0
              refine hK.out _ _ (fun _ => hHeld) ?_
              clear hK K
              try simp only [Act.put, List.setIfInBounds_toArray, List.set_cons_zero, List.set_cons_succ]
              refine takeU (i := 26) (v := ?_) rfl (by kernel_rfl) (by kernel_rfl) (by kernel_rfl) (by kernel_rfl) (by kernel_rfl) (fun _ _ _ h => h) (Or.inl ⟨by rfl, ?_⟩) hHeld ?_
              rotate_left
              · (intro wx hSw; (try dsimp only at hSw); go_simp; try (with_reducible rfl))
              try simp only [Act.put, List.setIfInBounds_toArray, List.set_cons_zero, List.set_cons_succ]
              have y0 := k2.frozen 0
              have y1 := k2.frozen 1
              have y2 := k2.frozen 2
              have y3 := k2.frozen 3
              have y4 := k2.frozen 4
              have y5 := k2.frozen 5
              obtain ⟨z0, z1, z2, z3, z4, z5⟩ := box6 k2
              have kf := blk_set6 k2 (.int .i64 (kd : Nat)) (.int .u32 (fl : Nat)) (.int .u32 (ex : Nat)) (.int .u64 (sq : Nat)) (.slice (some ⟨g19, 0, none⟩) k c19) (.slice (some ⟨g25, 0, none⟩) v c25)
              have gs := grown_set6 V4 w.heap.size (.int .i64 (kd : Nat)) (.int .u32 (fl : Nat)) (.int .u32 (ex : Nat)) (.int .u64 (sq : Nat)) (.slice (some ⟨g19, 0, none⟩) k c19) (.slice (some ⟨g25, 0, none⟩) v c25)
              refine oneT (i := 28) rfl (by kernel_rfl) (fun K hK => ?_)
              go_simp
              refine hK.out _ _ (fun h => absurd h (by decide)) ?_
              clear hK K
              try simp only [Act.put, List.setIfInBounds_toArray, List.set_cons_zero, List.set_cons_succ]
              refine oneT (i := 29) rfl (by kernel_rfl) (fun K hK => ?_)
              go_simp
              refine hK.out _ _ (fun h => absurd h (by decide)) ?_
              clear hK K
              try simp only [Act.put, List.setIfInBounds_toArray, List.set_cons_zero, List.set_cons_succ]
              refine oneT (i := 30) rfl (by kernel_rfl) (fun K hK => ?_)
              go_simp
              refine hK.out _ _ (fun h => absurd h (by decide)) ?_
              clear hK K
              try simp only [Act.put, List.setIfInBounds_toArray, List.set_cons_zero, List.set_cons_succ]
              refine doneT (by kernel_rfl) ?_ _
              refine NoPanic.normal ?_
              go_wp2_with fail
              go_meet
              exact ⟨rfl, rfl, g19, c19, g25, c25, kf, o19.kept gs (by omega), o25.kept gs (by omega), b.trans (below_grown gs (Nat.le_refl _) k2.lt)⟩
          · go_simp
            have o20 : Own (V1.alloc (.cells #[] 5)) (w.heap.size + 1) (some ⟨V1.heap.size, 0, none⟩) 0 0 [] := Own.emptyK V1 _ _ rfl k2.lt
            have ba := below_a1' (Below.refl V1.heap.size V1) (.cells #[] 5)
            have k2 := k2.alloc (.cells #[] 5)
            have b := below_step b ba
            have o15 := o15.below ba
            generalize hW : V1.alloc (.cells #[] 5) = V2 at o20 k2 b ba o15 ⊢
            clear hW
            have hl20 := o20.base.2
            have hHeld := (b.cell halt).trans q0
            refine hK.out _ _ (fun _ => hHeld) ?_
            clear hK K
            try simp only [Act.put, List.setIfInBounds_toArray, List.set_cons_zero, List.set_cons_succ]
            refine oneT (i := 14) rfl (by kernel_rfl) (fun K hK => ?_)
            go_simp
            refine (Hsq.out _ (h.below b)).mono ?_
            rintro e wq ⟨rfl, hw⟩
            subst hw
            refine hK.out _ _ (fun _ => hHeld) ?_
            clear hK K
            try simp only [Act.put, List.setIfInBounds_toArray, List.set_cons_zero, List.set_cons_succ]
            refine oneT (i := 19) rfl (by kernel_rfl) (fun K hK => ?_)
            refine step_app8g _ rfl _ _ rfl (w.heap.size + 1) (V0.heap.size) 0 0 [] rfl o15 w.heap.size X k cx ((l.drop 21).take k) rfl (RX.out _ _ (h.below b)) (by omega) k2.lt ?_
            intro g19 c19 V3 o19 gb19 hg19
            have h15 := o15.base
            simp only [Nat.zero_add, List.nil_append] at o19 ⊢
            have b := b.trans (below_grown gb19 (by omega) h15.2)
            have k2 := k2.left gb19 (by omega)
            have o20 := o20.left gb19 (by have := o20.base; omega)
            have hl19 := o19.base.2
            have hHeld := (b.cell halt).trans q0
            refine hK.out _ _ (fun _ => hHeld) ?_
            clear hK K
            try simp only [Act.put, List.setIfInBounds_toArray, List.set_cons_zero, List.set_cons_succ]
            refine oneT (i := 25) rfl (by kernel_rfl) (fun K hK => ?_)
            refine step_app8g _ rfl _ _ rfl (w.heap.size + 1) (V1.heap.size) 0 0 [] rfl o20 w.heap.size Y v cy (((l.drop 21).drop k).take v) rfl (RY.out _ _ (h.below b)) (by omega) k2.lt ?_
            intro g25 c25 V4 o25 gb25 hg25
            have h20 := o20.base
            simp only [Nat.zero_add, List.nil_append] at o25 ⊢
            have b := b.trans (below_grown gb25 (by omega) h20.2)
            have k2 := k2.left gb25 (by omega)
            have o19 := o19.left gb25 (by have := o19.base; omega)
            have hl25 := o25.base.2
            have hHeld := (b.cell halt).trans q0
            refine hK.out _ _ (fun _ => hHeld) ?_
            clear hK K
            try simp only [Act.put, List.setIfInBounds_toArray, List.set_cons_zero, List.set_cons_succ]
            refine takeU (i := 26) (v := ?_) rfl (by kernel_rfl) (by kernel_rfl) (by kernel_rfl) (by kernel_rfl) (by kernel_rfl) (fun _ _ _ h => h) (Or.inl ⟨by rfl, ?_⟩) hHeld ?_
            rotate_left
            · (intro wx hSw; (try dsimp only at hSw); go_simp; try (with_reducible rfl))
            try simp only [Act.put, List.setIfInBounds_toArray, List.set_cons_zero, List.set_cons_succ]
            have y0 := k2.frozen 0
            have y1 := k2.frozen 1
            have y2 := k2.frozen 2
            have y3 := k2.frozen 3
            have y4 := k2.frozen 4
            have y5 := k2.frozen 5
            obtain ⟨z0, z1, z2, z3, z4, z5⟩ := box6 k2
            have kf := blk_set6 k2 (.int .i64 (kd : Nat)) (.int .u32 (fl : Nat)) (.int .u32 (ex : Nat)) (.int .u64 (sq : Nat)) (.slice (some ⟨g19, 0, none⟩) k c19) (.slice (some ⟨g25, 0, none⟩) v c25)
            have gs := grown_set6 V4 w.heap.size (.int .i64 (kd : Nat)) (.int .u32 (fl : Nat)) (.int .u32 (ex : Nat)) (.int .u64 (sq : Nat)) (.slice (some ⟨g19, 0, none⟩) k c19) (.slice (some ⟨g25, 0, none⟩) v c25)
            refine oneT (i := 28) rfl (by kernel_rfl) (fun K hK => ?_)
            go_simp
            refine hK.out _ _ (fun h => absurd h (by decide)) ?_
            clear hK K
            try simp only [Act.put, List.setIfInBounds_toArray, List.set_cons_zero, List.set_cons_succ]
            refine oneT (i := 29) rfl (by kernel_rfl) (fun K hK => ?_)
            go_simp
            refine hK.out _ _ (fun h => absurd h (by decide)) ?_
            clear hK K
            try simp only [Act.put, List.setIfInBounds_toArray, List.set_cons_zero, List.set_cons_succ]
            refine oneT (i := 30) rfl (by kernel_rfl) (fun K hK => ?_)
            go_simp
            refine hK.out _ _ (fun h => absurd h (by decide)) ?_
            clear hK K
            try simp only [Act.put, List.setIfInBounds_toArray, List.set_cons_zero, List.set_cons_succ]
            refine doneT (by kernel_rfl) ?_ _
            refine NoPanic.normal ?_
            go_wp2_with fail
            go_meet
            exact ⟨rfl, rfl, g19, c19, g25, c25, kf, o19.kept gs (by omega), o25.kept gs (by omega), b.trans (below_grown gs (Nat.le_refl _) k2.lt)⟩
        · go_simp
          have o20 : Own (V0.alloc (.cells #[] 5)) (w.heap.size + 1) (some ⟨V0.heap.size, 0, none⟩) 0 0 [] := Own.emptyK V0 _ _ rfl k2.lt
          have ba := below_a1' (Below.refl V0.heap.size V0) (.cells #[] 5)
          have k2 := k2.alloc (.cells #[] 5)
          have b := below_step b ba
          generalize hW : V0.alloc (.cells #[] 5) = V1 at o20 k2 b ba ⊢
          clear hW
          have hl20 := o20.base.2
          have hHeld := (b.cell halt).trans q0
          refine hK.out _ _ (fun _ => hHeld) ?_
          clear hK K
          try simp only [Act.put, List.setIfInBounds_toArray, List.set_cons_zero, List.set_cons_succ]
          refine twoT (i := 14) (j := 15) rfl rfl (by kernel_rfl) (fun K hK => ?_) (fun K hK => ?_)
          · go_simp
            refine (Hsq.out _ (h.below b)).mono ?_
            rintro e wq ⟨rfl, hw⟩
            subst hw
            refine hK.out _ _ (fun _ => hHeld) ?_
            clear hK K
            try simp only [Act.put, List.setIfInBounds_toArray, List.set_cons_zero, List.set_cons_succ]
            refine oneT (i := 15) rfl (by kernel_rfl) (fun K hK => ?_)
            go_simp
            have o15 : Own (V1.alloc (.cells #[] 5)) (w.heap.size + 1) (some ⟨V1.heap.size, 0, none⟩) 0 0 [] := Own.emptyK V1 _ _ rfl k2.lt
            have ba := below_a1' (Below.refl V1.heap.size V1) (.cells #[] 5)
            have k2 := k2.alloc (.cells #[] 5)
            have b := below_step b ba
            have o20 := o20.below ba
            generalize hW : V1.alloc (.cells #[] 5) = V2 at o15 k2 b ba o20 ⊢
            clear hW
            have hl15 := o15.base.2
            have hHeld := (b.cell halt).trans q0
            refine hK.out _ _ (fun _ => hHeld) ?_
            clear hK K
            try simp only [Act.put, List.setIfInBounds_toArray, List.set_cons_zero, List.set_cons_succ]
            refine oneT (i := 19) rfl (by kernel_rfl) (fun K hK => ?_)
            refine step_app8g _ rfl _ _ rfl (w.heap.size + 1) (V1.heap.size) 0 0 [] rfl o15 w.heap.size X k cx ((l.drop 21).take k) rfl (RX.out _ _ (h.below b)) (by omega) k2.lt ?_
            intro g19 c19 V3 o19 gb19 hg19
            have h15 := o15.base
            simp only [Nat.zero_add, List.nil_append] at o19 ⊢
            have b := b.trans (below_grown gb19 (by omega) h15.2)
            have k2 := k2.left gb19 (by omega)
            have o20 := o20.left gb19 (by have := o20.base; omega)
            have hl19 := o19.base.2
            have hHeld := (b.cell halt).trans q0
            refine hK.out _ _ (fun _ => hHeld) ?_
            clear hK K
            try simp only [Act.put, List.setIfInBounds_toArray, List.set_cons_zero, List.set_cons_succ]
            refine oneT (i := 25) rfl (by kernel_rfl) (fun K hK => ?_)
            refine step_app8g _ rfl _ _ rfl (w.heap.size + 1) (V0.heap.size) 0 0 [] rfl o20 w.heap.size Y v cy (((l.drop 21).drop k).take v) rfl (RY.out _ _ (h.below b)) (by omega) k2.lt ?_
            intro g25 c25 V4 o25 gb25 hg25
            have h20 := o20.base
            simp only [Nat.zero_add, List.nil_append] at o25 ⊢
            have b := b.trans (below_grown gb25 (by omega) h20.2)
            have k2 := k2.left gb25 (by omega)
            have o19 := o19.left gb25 (by have := o19.base; omega)
            have hl25 := o25.base.2
            have hHeld := (b.cell halt).trans q0
            refine hK.out _ _ (fun _ => hHeld) ?_
            clear hK K
            try simp only [Act.put, List.setIfInBounds_toArray, List.set_cons_zero, List.set_cons_succ]
            refine takeU (i := 26) (v := ?_) rfl (by kernel_rfl) (by kernel_rfl) (by kernel_rfl) (by kernel_rfl) (by kernel_rfl) (fun _ _ _ h => h) (Or.inl ⟨by rfl, ?_⟩) hHeld ?_
            rotate_left
            · (intro wx hSw; (try dsimp only at hSw); go_simp; try (with_reducible rfl))
            try simp only [Act.put, List.setIfInBounds_toArray, List.set_cons_zero, List.set_cons_succ]
            have y0 := k2.frozen 0
            have y1 := k2.frozen 1
            have y2 := k2.frozen 2
            have y3 := k2.frozen 3
            have y4 := k2.frozen 4
            have y5 := k2.frozen 5
            obtain ⟨z0, z1, z2, z3, z4, z5⟩ := box6 k2
            have kf := blk_set6 k2 (.int .i64 (kd : Nat)) (.int .u32 (fl : Nat)) (.int .u32 (ex : Nat)) (.int .u64 (sq : Nat)) (.slice (some ⟨g19, 0, none⟩) k c19) (.slice (some ⟨g25, 0, none⟩) v c25)
            have gs := grown_set6 V4 w.heap.size (.int .i64 (kd : Nat)) (.int .u32 (fl : Nat)) (.int .u32 (ex : Nat)) (.int .u64 (sq : Nat)) (.slice (some ⟨g19, 0, none⟩) k c19) (.slice (some ⟨g25, 0, none⟩) v c25)
            refine oneT (i := 28) rfl (by kernel_rfl) (fun K hK => ?_)
            go_simp
            refine hK.out _ _ (fun h => absurd h (by decide)) ?_
            clear hK K
            try simp only [Act.put, List.setIfInBounds_toArray, List.set_cons_zero, List.set_cons_succ]
            refine oneT (i := 29) rfl (by kernel_rfl) (fun K hK => ?_)
            go_simp
            refine hK.out _ _ (fun h => absurd h (by decide)) ?_
            clear hK K
            try simp only [Act.put, List.setIfInBounds_toArray, List.set_cons_zero, List.set_cons_succ]
            refine oneT (i := 30) rfl (by kernel_rfl) (fun K hK => ?_)
            go_simp
            refine hK.out _ _ (fun h => absurd h (by decide)) ?_
            clear hK K
            try simp only [Act.put, List.setIfInBounds_toArray, List.set_cons_zero, List.set_cons_succ]
            refine doneT (by kernel_rfl) ?_ _
            refine NoPanic.normal ?_
            go_wp2_with fail
            go_meet
            exact ⟨rfl, rfl, g19, c19, g25, c25, kf, o19.kept gs (by omega), o25.kept gs (by omega), b.trans (below_grown gs (Nat.le_refl _) k2.lt)⟩
          · go_simp
            have o15 : Own (V1.alloc (.cells #[] 5)) (w.heap.size + 1) (some ⟨V1.heap.size, 0, none⟩) 0 0 [] := Own.emptyK V1 _ _ rfl k2.lt
            have ba := below_a1' (Below.refl V1.heap.size V1) (.cells #[] 5)
            have k2 := k2.alloc (.cells #[] 5)
            have b := below_step b ba
            have o20 := o20.below ba
            generalize hW : V1.alloc (.cells #[] 5) = V2 at o15 k2 b ba o20 ⊢
            clear hW
            have hl15 := o15.base.2
            have hHeld := (b.cell halt).trans q0
            refine hK.out _ _ (fun _ => hHeld) ?_
            clear hK K
            try simp only [Act.put, List.setIfInBounds_toArray, List.set_cons_zero, List.set_cons_succ]
            refine oneT (i := 14) rfl (by kernel_rfl) (fun K hK => ?_)
            go_simp
            refine (Hsq.out _ (h.below b)).mono ?_
            rintro e wq ⟨rfl, hw⟩
            subst hw
            refine hK.out _ _ (fun _ => hHeld) ?_
            clear hK K
            try simp only [Act.put, List.setIfInBounds_toArray, List.set_cons_zero, List.set_cons_succ]
            refine oneT (i := 19) rfl (by kernel_rfl) (fun K hK => ?_)
            refine step_app8g _ rfl _ _ rfl (w.heap.size + 1) (V1.heap.size) 0 0 [] rfl o15 w.heap.size X k cx ((l.drop 21).take k) rfl (RX.out _ _ (h.below b)) (by omega) k2.lt ?_
            intro g19 c19 V3 o19 gb19 hg19
            have h15 := o15.base
            simp only [Nat.zero_add, List.nil_append] at o19 ⊢
            have b := b.trans (below_grown gb19 (by omega) h15.2)
            have k2 := k2.left gb19 (by omega)
            have o20 := o20.left gb19 (by have := o20.base; omega)
            have hl19 := o19.base.2
            have hHeld := (b.cell halt).trans q0
            refine hK.out _ _ (fun _ => hHeld) ?_
            clear hK K
            try simp only [Act.put, List.setIfInBounds_toArray, List.set_cons_zero, List.set_cons_succ]
            refine oneT (i := 25) rfl (by kernel_rfl) (fun K hK => ?_)
            refine step_app8g _ rfl _ _ rfl (w.heap.size + 1) (V0.heap.size) 0 0 [] rfl o20 w.heap.size Y v cy (((l.drop 21).drop k).take v) rfl (RY.out _ _ (h.below b)) (by omega) k2.lt ?_
            intro g25 c25 V4 o25 gb25 hg25
            have h20 := o20.base
            simp only [Nat.zero_add, List.nil_append] at o25 ⊢
            have b := b.trans (below_grown gb25 (by omega) h20.2)
            have k2 := k2.left gb25 (by omega)
            have o19 := o19.left gb25 (by have := o19.base; omega)
            have hl25 := o25.base.2
            have hHeld := (b.cell halt).trans q0
            refine hK.out _ _ (fun _ => hHeld) ?_
            clear hK K
            try simp only [Act.put, List.setIfInBounds_toArray, List.set_cons_zero, List.set_cons_succ]
            refine takeU (i := 26) (v := ?_) rfl (by kernel_rfl) (by kernel_rfl) (by kernel_rfl) (by kernel_rfl) (by kernel_rfl) (fun _ _ _ h => h) (Or.inl ⟨by rfl, ?_⟩) hHeld ?_
            rotate_left
            · (intro wx hSw; (try dsimp only at hSw); go_simp; try (with_reducible rfl))
            try simp only [Act.put, List.setIfInBounds_toArray, List.set_cons_zero, List.set_cons_succ]
            have y0 := k2.frozen 0
            have y1 := k2.frozen 1
            have y2 := k2.frozen 2
            have y3 := k2.frozen 3
            have y4 := k2.frozen 4
            have y5 := k2.frozen 5
            obtain ⟨z0, z1, z2, z3, z4, z5⟩ := box6 k2
            have kf := blk_set6 k2 (.int .i64 (kd : Nat)) (.int .u32 (fl : Nat)) (.int .u32 (ex : Nat)) (.int .u64 (sq : Nat)) (.slice (some ⟨g19, 0, none⟩) k c19) (.slice (some ⟨g25, 0, none⟩) v c25)
            have gs := grown_set6 V4 w.heap.size (.int .i64 (kd : Nat)) (.int .u32 (fl : Nat)) (.int .u32 (ex : Nat)) (.int .u64 (sq : Nat)) (.slice (some ⟨g19, 0, none⟩) k c19) (.slice (some ⟨g25, 0, none⟩) v c25)
            refine oneT (i := 28) rfl (by kernel_rfl) (fun K hK => ?_)
            go_simp
            refine hK.out _ _ (fun h => absurd h (by decide)) ?_
            clear hK K
            try simp only [Act.put, List.setIfInBounds_toArray, List.set_cons_zero, List.set_cons_succ]
            refine oneT (i := 29) rfl (by kernel_rfl) (fun K hK => ?_)
            go_simp
            refine hK.out _ _ (fun h => absurd h (by decide)) ?_
            clear hK K
            try simp only [Act.put, List.setIfInBounds_toArray, List.set_cons_zero, List.set_cons_succ]
            refine oneT (i := 30) rfl (by kernel_rfl) (fun K hK => ?_)
            go_simp
            refine hK.out _ _ (fun h => absurd h (by decide)) ?_
            clear hK K
            try simp only [Act.put, List.setIfInBounds_toArray, List.set_cons_zero, List.set_cons_succ]
            refine doneT (by kernel_rfl) ?_ _
            refine NoPanic.normal ?_
            go_wp2_with fail
            go_meet
            exact ⟨rfl, rfl, g19, c19, g25, c25, kf, o19.kept gs (by omega), o25.kept gs (by omega), b.trans (below_grown gs (Nat.le_refl _) k2.lt)⟩
      · go_simp
        have o15 : Own (V0.alloc (.cells #[] 5)) (w.heap.size + 1) (some ⟨V0.heap.size, 0, none⟩) 0 0 [] := Own.emptyK V0 _ _ rfl k2.lt
        have ba := below_a1' (Below.refl V0.heap.size V0) (.cells #[] 5)
        have k2 := k2.alloc (.cells #[] 5)
        have b := below_step b ba
        generalize hW : V0.alloc (.cells #[] 5) = V1 at o15 k2 b ba ⊢
        clear hW
        have hl15 := o15.base.2
        have hHeld := (b.cell halt).trans q0
        refine hK.out _ _ (fun _ => hHeld) ?_
        clear hK K
        try simp only [Act.put, List.setIfInBounds_toArray, List.set_cons_zero, List.set_cons_succ]
        refine twoT (i := 10) (j := 20) rfl rfl (by kernel_rfl) (fun K hK => ?_) (fun K hK => ?_)
        · go_simp
          refine (Hex.out _ (h.below b)).mono ?_
          rintro e wq ⟨rfl, hw⟩
          subst hw
          refine hK.out _ _ (fun _ => hHeld) ?_
          clear hK K
          try simp only [Act.put, List.setIfInBounds_toArray, List.set_cons_zero, List.set_cons_succ]
          refine takeU (i := 11) (v := ?_) rfl (by kernel_rfl) (by kernel_rfl) (by kernel_rfl) (by kernel_rfl) (by kernel_rfl) (fun _ _ _ h => h) (Or.inl ⟨by rfl, ?_⟩) hHeld ?_
          rotate_left
          · (intro wx hSw; (try dsimp only at hSw); go_simp; try (with_reducible rfl))
          try simp only [Act.put, List.setIfInBounds_toArray, List.set_cons_zero, List.set_cons_succ]
          refine twoT (i := 14) (j := 20) rfl rfl (by kernel_rfl) (fun K hK => ?_) (fun K hK => ?_)
          · go_simp
            refine (Hsq.out _ (h.below b)).mono ?_
            rintro e wq ⟨rfl, hw⟩
            subst hw
            refine hK.out _ _ (fun _ => hHeld) ?_
            clear hK K
            try simp only [Act.put, List.setIfInBounds_toArray, List.set_cons_zero, List.set_cons_succ]
            refine twoT (i := 19) (j := 20) rfl rfl (by kernel_rfl) (fun K hK => ?_) (fun K hK => ?_)
            · refine step_app8g _ rfl _ _ rfl (w.heap.size + 1) (V0.heap.size) 0 0 [] rfl o15 w.heap.size X k cx ((l.drop 21).take k) rfl (RX.out _ _ (h.below b)) (by omega) k2.lt ?_
              intro g19 c19 V2 o19 gb19 hg19
              have h15 := o15.base
              simp only [Nat.zero_add, List.nil_append] at o19 ⊢
              have b := b.trans (below_grown gb19 (by omega) h15.2)
              have k2 := k2.left gb19 (by omega)
              have hl19 := o19.base.2
              have hHeld := (b.cell halt).trans q0
              refine hK.out _ _ (fun _ => hHeld) ?_
              clear hK K
              try simp only [Act.put, List.setIfInBounds_toArray, List.set_cons_zero, List.set_cons_succ]
              refine oneT (i := 20) rfl (by kernel_rfl) (fun K hK => ?_)
              go_simp
              have o20 : Own (V2.alloc (.cells #[] 5)) (w.heap.size + 1) (some ⟨V2.heap.size, 0, none⟩) 0 0 [] := Own.emptyK V2 _ _ rfl k2.lt
              have ba := below_a1' (Below.refl V2.heap.size V2) (.cells #[] 5)
              have k2 := k2.alloc (.cells #[] 5)
              have b := below_step b ba
              have o19 := o19.below ba
              generalize hW : V2.alloc (.cells #[] 5) = V3 at o20 k2 b ba o19 ⊢
              clear hW
              have hl20 := o20.base.2
              have hHeld := (b.cell halt).trans q0
              refine hK.out _ _ (fun _ => hHeld) ?_
              clear hK K
              try simp only [Act.put, List.setIfInBounds_toArray, List.set_cons_zero, List.set_cons_succ]
              refine oneT (i := 25) rfl (by kernel_rfl) (fun K hK => ?_)
              refine step_app8g _ rfl _ _ rfl (w.heap.size + 1) (V2.heap.size) 0 0 [] rfl o20 w.heap.size Y v cy (((l.drop 21).drop k).take v) rfl (RY.out _ _ (h.below b)) (by omega) k2.lt ?_
              intro g25 c25 V4 o25 gb25 hg25
              have h20 := o20.base
              simp only [Nat.zero_add, List.nil_append] at o25 ⊢
              have b := b.trans (below_grown gb25 (by omega) h20.2)
              have k2 := k2.left gb25 (by omega)
              have o19 := o19.left gb25 (by have := o19.base; omega)
              have hl25 := o25.base.2
              have hHeld := (b.cell halt).trans q0
              refine hK.out _ _ (fun _ => hHeld) ?_
              clear hK K
              try simp only [Act.put, List.setIfInBounds_toArray, List.set_cons_zero, List.set_cons_succ]
              refine takeU (i := 26) (v := ?_) rfl (by kernel_rfl) (by kernel_rfl) (by kernel_rfl) (by kernel_rfl) (by kernel_rfl) (fun _ _ _ h => h) (Or.inl ⟨by rfl, ?_⟩) hHeld ?_
              rotate_left
              · (intro wx hSw; (try dsimp only at hSw); go_simp; try (with_reducible rfl))
              try simp only [Act.put, List.setIfInBounds_toArray, List.set_cons_zero, List.set_cons_succ]
              have y0 := k2.frozen 0
              have y1 := k2.frozen 1
              have y2 := k2.frozen 2
              have y3 := k2.frozen 3
              have y4 := k2.frozen 4
              have y5 := k2.frozen 5
              obtain ⟨z0, z1, z2, z3, z4, z5⟩ := box6 k2
              have kf := blk_set6 k2 (.int .i64 (kd : Nat)) (.int .u32 (fl : Nat)) (.int .u32 (ex : Nat)) (.int .u64 (sq : Nat)) (.slice (some ⟨g19, 0, none⟩) k c19) (.slice (some ⟨g25, 0, none⟩) v c25)
              have gs := grown_set6 V4 w.heap.size (.int .i64 (kd : Nat)) (.int .u32 (fl : Nat)) (.int .u32 (ex : Nat)) (.int .u64 (sq : Nat)) (.slice (some ⟨g19, 0, none⟩) k c19) (.slice (some ⟨g25, 0, none⟩) v c25)
              refine oneT (i := 28) rfl (by kernel_rfl) (fun K hK => ?_)
              go_simp
              refine hK.out _ _ (fun h => absurd h (by decide)) ?_
              clear hK K
              try simp only [Act.put, List.setIfInBounds_toArray, List.set_cons_zero, List.set_cons_succ]
              refine oneT (i := 29) rfl (by kernel_rfl) (fun K hK => ?_)
              go_simp
              refine hK.out _ _ (fun h => absurd h (by decide)) ?_
              clear hK K
              try simp only [Act.put, List.setIfInBounds_toArray, List.set_cons_zero, List.set_cons_succ]
              refine oneT (i := 30) rfl (by kernel_rfl) (fun K hK => ?_)
              go_simp
              refine hK.out _ _ (fun h => absurd h (by decide)) ?_
              clear hK K
              try simp only [Act.put, List.setIfInBounds_toArray, List.set_cons_zero, List.set_cons_succ]
              refine doneT (by kernel_rfl) ?_ _
              refine NoPanic.normal ?_
              go_wp2_with fail
              go_meet
              exact ⟨rfl, rfl, g19, c19, g25, c25, kf, o19.kept gs (by omega), o25.kept gs (by omega), b.trans (below_grown gs (Nat.le_refl _) k2.lt)⟩
            · go_simp
              have o20 : Own (V1.alloc (.cells #[] 5)) (w.heap.size + 1) (some ⟨V1.heap.size, 0, none⟩) 0 0 [] := Own.emptyK V1 _ _ rfl k2.lt
              have ba := below_a1' (Below.refl V1.heap.size V1) (.cells #[] 5)
              have k2 := k2.alloc (.cells #[] 5)
              have b := below_step b ba
              have o15 := o15.below ba
              generalize hW : V1.alloc (.cells #[] 5) = V2 at o20 k2 b ba o15 ⊢
              clear hW
              have hl20 := o20.base.2
              have hHeld := (b.cell halt).trans q0
              refine hK.out _ _ (fun _ => hHeld) ?_
              clear hK K
              try simp only [Act.put, List.setIfInBounds_toArray, List.set_cons_zero, List.set_cons_succ]
              refine oneT (i := 19) rfl (by kernel_rfl) (fun K hK => ?_)
              refine step_app8g _ rfl _ _ rfl (w.heap.size + 1) (V0.heap.size) 0 0 [] rfl o15 w.heap.size X k cx ((l.drop 21).take k) rfl (RX.out _ _ (h.below b)) (by omega) k2.lt ?_
              intro g19 c19 V3 o19 gb19 hg19
              have h15 := o15.base
              simp only [Nat.zero_add, List.nil_append] at o19 ⊢
              have b := b.trans (below_grown gb19 (by omega) h15.2)
              have k2 := k2.left gb19 (by omega)
              have o20 := o20.left gb19 (by have := o20.base; omega)
              have hl19 := o19.base.2
              have hHeld := (b.cell halt).trans q0
              refine hK.out _ _ (fun _ => hHeld) ?_
              clear hK K
              try simp only [Act.put, List.setIfInBounds_toArray, List.set_cons_zero, List.set_cons_succ]
              refine oneT (i := 25) rfl (by kernel_rfl) (fun K hK => ?_)
              refine step_app8g _ rfl _ _ rfl (w.heap.size + 1) (V1.heap.size) 0 0 [] rfl o20 w.heap.size Y v cy (((l.drop 21).drop k).take v) rfl (RY.out _ _ (h.below b)) (by omega) k2.lt ?_
              intro g25 c25 V4 o25 gb25 hg25
              have h20 := o20.base
              simp only [Nat.zero_add, List.nil_append] at o25 ⊢
              have b := b.trans (below_grown gb25 (by omega) h20.2)
              have k2 := k2.left gb25 (by omega)
              have o19 := o19.left gb25 (by have := o19.base; omega)
              have hl25 := o25.base.2
              have hHeld := (b.cell halt).trans q0
              refine hK.out _ _ (fun _ => hHeld) ?_
              clear hK K
              try simp only [Act.put, List.setIfInBounds_toArray, List.set_cons_zero, List.set_cons_succ]
              refine takeU (i := 26) (v := ?_) rfl (by kernel_rfl) (by kernel_rfl) (by kernel_rfl) (by kernel_rfl) (by kernel_rfl) (fun _ _ _ h => h) (Or.inl ⟨by rfl, ?_⟩) hHeld ?_
              rotate_left
              · (intro wx hSw; (try dsimp only at hSw); go_simp; try (with_reducible rfl))
              try simp only [Act.put, List.setIfInBounds_toArray, List.set_cons_zero, List.set_cons_succ]
              have y0 := k2.frozen 0
              have y1 := k2.frozen 1
              have y2 := k2.frozen 2
              have y3 := k2.frozen 3
              have y4 := k2.frozen 4
              have y5 := k2.frozen 5
              obtain ⟨z0, z1, z2, z3, z4, z5⟩ := box6 k2
              have kf := blk_set6 k2 (.int .i64 (kd : Nat)) (.int .u32 (fl : Nat)) (.int .u32 (ex : Nat)) (.int .u64 (sq : Nat)) (.slice (some ⟨g19, 0, none⟩) k c19) (.slice (some ⟨g25, 0, none⟩) v c25)
              have gs := grown_set6 V4 w.heap.size (.int .i64 (kd : Nat)) (.int .u32 (fl : Nat)) (.int .u32 (ex : Nat)) (.int .u64 (sq : Nat)) (.slice (some ⟨g19, 0, none⟩) k c19) (.slice (some ⟨g25, 0, none⟩) v c25)
              refine oneT (i := 28) rfl (by kernel_rfl) (fun K hK => ?_)
              go_simp
              refine hK.out _ _ (fun h => absurd h (by decide)) ?_
              clear hK K
              try simp only [Act.put, List.setIfInBounds_toArray, List.set_cons_zero, List.set_cons_succ]
              refine oneT (i := 29) rfl (by kernel_rfl) (fun K hK => ?_)
              go_simp
              refine hK.out _ _ (fun h => absurd h (by decide)) ?_
              clear hK K
              try simp only [Act.put, List.setIfInBounds_toArray, List.set_cons_zero, List.set_cons_succ]
              refine oneT (i := 30) rfl (by kernel_rfl) (fun K hK => ?_)
              go_simp
              refine hK.out _ _ (fun h => absurd h (by decide)) ?_
              clear hK K
              try simp only [Act.put, List.setIfInBounds_toArray, List.set_cons_zero, List.set_cons_succ]
              refine doneT (by kernel_rfl) ?_ _
              refine NoPanic.normal ?_
              go_wp2_with fail
              go_meet
              exact ⟨rfl, rfl, g19, c19, g25, c25, kf, o19.kept gs (by omega), o25.kept gs (by omega), b.trans (below_grown gs (Nat.le_refl _) k2.lt)⟩
          · go_simp
            have o20 : Own (V1.alloc (.cells #[] 5)) (w.heap.size + 1) (some ⟨V1.heap.size, 0, none⟩) 0 0 [] := Own.emptyK V1 _ _ rfl k2.lt
            have ba := below_a1' (Below.refl V1.heap.size V1) (.cells #[] 5)
            have k2 := k2.alloc (.cells #[] 5)
            have b := below_step b ba
            have o15 := o15.below ba
            generalize hW : V1.alloc (.cells #[] 5) = V2 at o20 k2 b ba o15 ⊢
            clear hW
            have hl20 := o20.base.2
            have hHeld := (b.cell halt).trans q0
            refine hK.out _ _ (fun _ => hHeld) ?_
            clear hK K
            try simp only [Act.put, List.setIfInBounds_toArray, List.set_cons_zero, List.set_cons_succ]
            refine oneT (i := 14) rfl (by kernel_rfl) (fun K hK => ?_)
            go_simp
            refine (Hsq.out _ (h.below b)).mono ?_
            rintro e wq ⟨rfl, hw⟩
            subst hw
            refine hK.out _ _ (fun _ => hHeld) ?_
            clear hK K
            try simp only [Act.put, List.setIfInBounds_toArray, List.set_cons_zero, List.set_cons_succ]
            refine oneT (i := 19) rfl (by kernel_rfl) (fun K hK => ?_)
            refine step_app8g _ rfl _ _ rfl (w.heap.size + 1) (V0.heap.size) 0 0 [] rfl o15 w.heap.size X k cx ((l.drop 21).take k) rfl (RX.out _ _ (h.below b)) (by omega) k2.lt ?_
            intro g19 c19 V3 o19 gb19 hg19
            have h15 := o15.base
            simp only [Nat.zero_add, List.nil_append] at o19 ⊢
            have b := b.trans (below_grown gb19 (by omega) h15.2)
            have k2 := k2.left gb19 (by omega)
            have o20 := o20.left gb19 (by have := o20.base; omega)
            have hl19 := o19.base.2
            have hHeld := (b.cell halt).trans q0
            refine hK.out _ _ (fun _ => hHeld) ?_
            clear hK K
            try simp only [Act.put, List.setIfInBounds_toArray, List.set_cons_zero, List.set_cons_succ]
            refine oneT (i := 25) rfl (by kernel_rfl) (fun K hK => ?_)
            refine step_app8g _ rfl _ _ rfl (w.heap.size + 1) (V1.heap.size) 0 0 [] rfl o20 w.heap.size Y v cy (((l.drop 21).drop k).take v) rfl (RY.out _ _ (h.below b)) (by omega) k2.lt ?_
            intro g25 c25 V4 o25 gb25 hg25
            have h20 := o20.base
            simp only [Nat.zero_add, List.nil_append] at o25 ⊢
            have b := b.trans (below_grown gb25 (by omega) h20.2)
            have k2 := k2.left gb25 (by omega)
            have o19 := o19.left gb25 (by have := o19.base; omega)
            have hl25 := o25.base.2
            have hHeld := (b.cell halt).trans q0
            refine hK.out _ _ (fun _ => hHeld) ?_
            clear hK K
            try simp only [Act.put, List.setIfInBounds_toArray, List.set_cons_zero, List.set_cons_succ]
            refine takeU (i := 26) (v := ?_) rfl (by kernel_rfl) (by kernel_rfl) (by kernel_rfl) (by kernel_rfl) (by kernel_rfl) (fun _ _ _ h => h) (Or.inl ⟨by rfl, ?_⟩) hHeld ?_
            rotate_left
            · (intro wx hSw; (try dsimp only at hSw); go_simp; try (with_reducible rfl))
            try simp only [Act.put, List.setIfInBounds_toArray, List.set_cons_zero, List.set_cons_succ]
            have y0 := k2.frozen 0
            have y1 := k2.frozen 1
            have y2 := k2.frozen 2
            have y3 := k2.frozen 3
            have y4 := k2.frozen 4
            have y5 := k2.frozen 5
            obtain ⟨z0, z1, z2, z3, z4, z5⟩ := box6 k2
            have kf := blk_set6 k2 (.int .i64 (kd : Nat)) (.int .u32 (fl : Nat)) (.int .u32 (ex : Nat)) (.int .u64 (sq : Nat)) (.slice (some ⟨g19, 0, none⟩) k c19) (.slice (some ⟨g25, 0, none⟩) v c25)
            have gs := grown_set6 V4 w.heap.size (.int .i64 (kd : Nat)) (.int .u32 (fl : Nat)) (.int .u32 (ex : Nat)) (.int .u64 (sq : Nat)) (.slice (some ⟨g19, 0, none⟩) k c19) (.slice (some ⟨g25, 0, none⟩) v c25)
            refine oneT (i := 28) rfl (by kernel_rfl) (fun K hK => ?_)
            go_simp
            refine hK.out _ _ (fun h => absurd h (by decide)) ?_
            clear hK K
            try simp only [Act.put, List.setIfInBounds_toArray, List.set_cons_zero, List.set_cons_succ]
            refine oneT (i := 29) rfl (by kernel_rfl) (fun K hK => ?_)
            go_simp
            refine hK.out _ _ (fun h => absurd h (by decide)) ?_
            clear hK K
            try simp only [Act.put, List.setIfInBounds_toArray, List.set_cons_zero, List.set_cons_succ]
            refine oneT (i := 30) rfl (by kernel_rfl) (fun K hK => ?_)
            go_simp
            refine hK.out _ _ (fun h => absurd h (by decide)) ?_
            clear hK K
            try simp only [Act.put, List.setIfInBounds_toArray, List.set_cons_zero, List.set_cons_succ]
            refine doneT (by kernel_rfl) ?_ _
            refine NoPanic.normal ?_
            go_wp2_with fail
            go_meet
            exact ⟨rfl, rfl, g19, c19, g25, c25, kf, o19.kept gs (by omega), o25.kept gs (by omega), b.trans (below_grown gs (Nat.le_refl _) k2.lt)⟩
        · go_simp
          have o20 : Own (V1.alloc (.cells #[] 5)) (w.heap.size + 1) (some ⟨V1.heap.size, 0, none⟩) 0 0 [] := Own.emptyK V1 _ _ rfl k2.lt
          have ba := below_a1' (Below.refl V1.heap.size V1) (.cells #[] 5)
          have k2 := k2.alloc (.cells #[] 5)
          have b := below_step b ba
          have o15 := o15.below ba
          generalize hW : V1.alloc (.cells #[] 5) = V2 at o20 k2 b ba o15 ⊢
          clear hW
          have hl20 := o20.base.2
          have hHeld := (b.cell halt).trans q0
          refine hK.out _ _ (fun _ => hHeld) ?_
          clear hK K
          try simp only [Act.put, List.setIfInBounds_toArray, List.set_cons_zero, List.set_cons_succ]
          refine oneT (i := 10) rfl (by kernel_rfl) (fun K hK => ?_)
          go_simp
          refine (Hex.out _ (h.below b)).mono ?_
          rintro e wq ⟨rfl, hw⟩
          subst hw
          refine hK.out _ _ (fun _ => hHeld) ?_
          clear hK K
          try simp only [Act.put, List.setIfInBounds_toArray, List.set_cons_zero, List.set_cons_succ]
          refine takeU (i := 11) (v := ?_) rfl (by kernel_rfl) (by kernel_rfl) (by kernel_rfl) (by kernel_rfl) (by kernel_rfl) (fun _ _ _ h => h) (Or.inl ⟨by rfl, ?_⟩) hHeld ?_
          rotate_left
          · (intro wx hSw; (try dsimp only at hSw); go_simp; try (with_reducible rfl))
          try simp only [Act.put, List.setIfInBounds_toArray, List.set_cons_zero, List.set_cons_succ]
          refine oneT (i := 14) rfl (by kernel_rfl) (fun K hK => ?_)
          go_simp
          refine (Hsq.out _ (h.below b)).mono ?_
          rintro e wq ⟨rfl, hw⟩
          subst hw
          refine hK.out _ _ (fun _ => hHeld) ?_
          clear hK K
          try simp only [Act.put, List.setIfInBounds_toArray, List.set_cons_zero, List.set_cons_succ]
          refine oneT (i := 19) rfl (by kernel_rfl) (fun K hK => ?_)
          refine step_app8g _ rfl _ _ rfl (w.heap.size + 1) (V0.heap.size) 0 0 [] rfl o15 w.heap.size X k cx ((l.drop 21).take k) rfl (RX.out _ _ (h.below b)) (by omega) k2.lt ?_
          intro g19 c19 V3 o19 gb19 hg19
          have h15 := o15.base
          simp only [Nat.zero_add, List.nil_append] at o19 ⊢
          have b := b.trans (below_grown gb19 (by omega) h15.2)
          have k2 := k2.left gb19 (by omega)
          have o20 := o20.left gb19 (by have := o20.base; omega)
          have hl19 := o19.base.2
          have hHeld := (b.cell halt).trans q0
          refine hK.out _ _ (fun _ => hHeld) ?_
          clear hK K
          try simp only [Act.put, List.setIfInBounds_toArray, List.set_cons_zero, List.set_cons_succ]
          refine oneT (i := 25) rfl (by kernel_rfl) (fun K hK => ?_)
          refine step_app8g _ rfl _ _ rfl (w.heap.size + 1) (V1.heap.size) 0 0 [] rfl o20 w.heap.size Y v cy (((l.drop 21).drop k).take v) rfl (RY.out _ _ (h.below b)) (by omega) k2.lt ?_
          intro g25 c25 V4 o25 gb25 hg25
          have h20 := o20.base
          simp only [Nat.zero_add, List.nil_append] at o25 ⊢
          have b := b.trans (below_grown gb25 (by omega) h20.2)
          have k2 := k2.left gb25 (by omega)
          have o19 := o19.left gb25 (by have := o19.base; omega)
          have hl25 := o25.base.2
          have hHeld := (b.cell halt).trans q0
          refine hK.out _ _ (fun _ => hHeld) ?_
          clear hK K
          try simp only [Act.put, List.setIfInBounds_toArray, List.set_cons_zero, List.set_cons_succ]
          refine takeU (i := 26) (v := ?_) rfl (by kernel_rfl) (by kernel_rfl) (by kernel_rfl) (by kernel_rfl) (by kernel_rfl) (fun _ _ _ h => h) (Or.inl ⟨by rfl, ?_⟩) hHeld ?_
          rotate_left
          · (intro wx hSw; (try dsimp only at hSw); go_simp; try (with_reducible rfl))
          try simp only [Act.put, List.setIfInBounds_toArray, List.set_cons_zero, List.set_cons_succ]
          have y0 := k2.frozen 0
          have y1 := k2.frozen 1
          have y2 := k2.frozen 2
          have y3 := k2.frozen 3
          have y4 := k2.frozen 4
          have y5 := k2.frozen 5
          obtain ⟨z0, z1, z2, z3, z4, z5⟩ := box6 k2
          have kf := blk_set6 k2 (.int .i64 (kd : Nat)) (.int .u32 (fl : Nat)) (.int .u32 (ex : Nat)) (.int .u64 (sq : Nat)) (.slice (some ⟨g19, 0, none⟩) k c19) (.slice (some ⟨g25, 0, none⟩) v c25)
          have gs := grown_set6 V4 w.heap.size (.int .i64 (kd : Nat)) (.int .u32 (fl : Nat)) (.int .u32 (ex : Nat)) (.int .u64 (sq : Nat)) (.slice (some ⟨g19, 0, none⟩) k c19) (.slice (some ⟨g25, 0, none⟩) v c25)
          refine oneT (i := 28) rfl (by kernel_rfl) (fun K hK => ?_)
          go_simp
          refine hK.out _ _ (fun h => absurd h (by decide)) ?_
          clear hK K
          try simp only [Act.put, List.setIfInBounds_toArray, List.set_cons_zero, List.set_cons_succ]
          refine oneT (i := 29) rfl (by kernel_rfl) (fun K hK => ?_)
          go_simp
          refine hK.out _ _ (fun h => absurd h (by decide)) ?_
          clear hK K
          try simp only [Act.put, List.setIfInBounds_toArray, List.set_cons_zero, List.set_cons_succ]
          refine oneT (i := 30) rfl (by kernel_rfl) (fun K hK => ?_)
          go_simp
          refine hK.out _ _ (fun h => absurd h (by decide)) ?_
          clear hK K
          try simp only [Act.put, List.setIfInBounds_toArray, List.set_cons_zero, List.set_cons_succ]
          refine doneT (by kernel_rfl) ?_ _
          refine NoPanic.normal ?_
          go_wp2_with fail
          go_meet
          exact ⟨rfl, rfl, g19, c19, g25, c25, kf, o19.kept gs (by omega), o25.kept gs (by omega), b.trans (below_grown gs (Nat.le_refl _) k2.lt)⟩
      · go_simp
        have o20 : Own (V0.alloc (.cells #[] 5)) (w.heap.size + 1) (some ⟨V0.heap.size, 0, none⟩) 0 0 [] := Own.emptyK V0 _ _ rfl k2.lt
        have ba := below_a1' (Below.refl V0.heap.size V0) (.cells #[] 5)
        have k2 := k2.alloc (.cells #[] 5)
        have b := below_step b ba
        generalize hW : V0.alloc (.cells #[] 5) = V1 at o20 k2 b ba ⊢
        clear hW
        have hl20 := o20.base.2
        have hHeld := (b.cell halt).trans q0
        refine hK.out _ _ (fun _ => hHeld) ?_
        clear hK K
        try simp only [Act.put, List.setIfInBounds_toArray, List.set_cons_zero, List.set_cons_succ]
        refine twoT (i := 10) (j := 15) rfl rfl (by kernel_rfl) (fun K hK => ?_) (fun K hK => ?_)
        · go_simp
          refine (Hex.out _ (h.below b)).mono ?_
          rintro e wq ⟨rfl, hw⟩
          subst hw
          refine hK.out _ _ (fun _ => hHeld) ?_
          clear hK K
          try simp only [Act.put, List.setIfInBounds_toArray, List.set_cons_zero, List.set_cons_succ]
          refine takeU (i := 11) (v := ?_) rfl (by kernel_rfl) (by kernel_rfl) (by kernel_rfl) (by kernel_rfl) (by kernel_rfl) (fun _ _ _ h => h) (Or.inl ⟨by rfl, ?_⟩) hHeld ?_
          rotate_left
          · (intro wx hSw; (try dsimp only at hSw); go_simp; try (with_reducible rfl))
          try simp only [Act.put, List.setIfInBounds_toArray, List.set_cons_zero, List.set_cons_succ]
          refine twoT (i := 14) (j := 15) rfl rfl (by kernel_rfl) (fun K hK => ?_) (fun K hK => ?_)
          · go_simp
            refine (Hsq.out _ (h.below b)).mono ?_
            rintro e wq ⟨rfl, hw⟩
            subst hw
            refine hK.out _ _ (fun _ => hHeld) ?_
            clear hK K
            try simp only [Act.put, List.setIfInBounds_toArray, List.set_cons_zero, List.set_cons_succ]
            refine oneT (i := 15) rfl (by kernel_rfl) (fun K hK => ?_)
            go_simp
            have o15 : Own (V1.alloc (.cells #[] 5)) (w.heap.size + 1) (some ⟨V1.heap.size, 0, none⟩) 0 0 [] := Own.emptyK V1 _ _ rfl k2.lt
            have ba := below_a1' (Below.refl V1.heap.size V1) (.cells #[] 5)
            have k2 := k2.alloc (.cells #[] 5)
            have b := below_step b ba
            have o20 := o20.below ba
            generalize hW : V1.alloc (.cells #[] 5) = V2 at o15 k2 b ba o20 ⊢
            clear hW
            have hl15 := o15.base.2
            have hHeld := (b.cell halt).trans q0
            refine hK.out _ _ (fun _ => hHeld) ?_
            clear hK K
            try simp only [Act.put, List.setIfInBounds_toArray, List.set_cons_zero, List.set_cons_succ]
            refine oneT (i := 19) rfl (by kernel_rfl) (fun K hK => ?_)
            refine step_app8g _ rfl _ _ rfl (w.heap.size + 1) (V1.heap.size) 0 0 [] rfl o15 w.heap.size X k cx ((l.drop 21).take k) rfl (RX.out _ _ (h.below b)) (by omega) k2.lt ?_
            intro g19 c19 V3 o19 gb19 hg19
            have h15 := o15.base
            simp only [Nat.zero_add, List.nil_append] at o19 ⊢
            have b := b.trans (below_grown gb19 (by omega) h15.2)
            have k2 := k2.left gb19 (by omega)
            have o20 := o20.left gb19 (by have := o20.base; omega)
            have hl19 := o19.base.2
            have hHeld := (b.cell halt).trans q0
            refine hK.out _ _ (fun _ => hHeld) ?_
            clear hK K
            try simp only [Act.put, List.setIfInBounds_toArray, List.set_cons_zero, List.set_cons_succ]
            refine oneT (i := 25) rfl (by kernel_rfl) (fun K hK => ?_)
            refine step_app8g _ rfl _ _ rfl (w.heap.size + 1) (V0.heap.size) 0 0 [] rfl o20 w.heap.size Y v cy (((l.drop 21).drop k).take v) rfl (RY.out _ _ (h.below b)) (by omega) k2.lt ?_
            intro g25 c25 V4 o25 gb25 hg25
            have h20 := o20.base
            simp only [Nat.zero_add, List.nil_append] at o25 ⊢
            have b := b.trans (below_grown gb25 (by omega) h20.2)
            have k2 := k2.left gb25 (by omega)
            have o19 := o19.left gb25 (by have := o19.base; omega)
            have hl25 := o25.base.2
            have hHeld := (b.cell halt).trans q0
            refine hK.out _ _ (fun _ => hHeld) ?_
            clear hK K
            try simp only [Act.put, List.setIfInBounds_toArray, List.set_cons_zero, List.set_cons_succ]
            refine takeU (i := 26) (v := ?_) rfl (by kernel_rfl) (by kernel_rfl) (by kernel_rfl) (by kernel_rfl) (by kernel_rfl) (fun _ _ _ h => h) (Or.inl ⟨by rfl, ?_⟩) hHeld ?_
            rotate_left
            · (intro wx hSw; (try dsimp only at hSw); go_simp; try (with_reducible rfl))
            try simp only [Act.put, List.setIfInBounds_toArray, List.set_cons_zero, List.set_cons_succ]
            have y0 := k2.frozen 0
            have y1 := k2.frozen 1
            have y2 := k2.frozen 2
            have y3 := k2.frozen 3
            have y4 := k2.frozen 4
            have y5 := k2.frozen 5
            obtain ⟨z0, z1, z2, z3, z4, z5⟩ := box6 k2
            have kf := blk_set6 k2 (.int .i64 (kd : Nat)) (.int .u32 (fl : Nat)) (.int .u32 (ex : Nat)) (.int .u64 (sq : Nat)) (.slice (some ⟨g19, 0, none⟩) k c19) (.slice (some ⟨g25, 0, none⟩) v c25)
            have gs := grown_set6 V4 w.heap.size (.int .i64 (kd : Nat)) (.int .u32 (fl : Nat)) (.int .u32 (ex : Nat)) (.int .u64 (sq : Nat)) (.slice (some ⟨g19, 0, none⟩) k c19) (.slice (some ⟨g25, 0, none⟩) v c25)
            refine oneT (i := 28) rfl (by kernel_rfl) (fun K hK => ?_)
            go_simp
            refine hK.out _ _ (fun h => absurd h (by decide)) ?_
            clear hK K
            try simp only [Act.put, List.setIfInBounds_toArray, List.set_cons_zero, List.set_cons_succ]
            refine oneT (i := 29) rfl (by kernel_rfl) (fun K hK => ?_)
            go_simp
            refine hK.out _ _ (fun h => absurd h (by decide)) ?_
            clear hK K
            try simp only [Act.put, List.setIfInBounds_toArray, List.set_cons_zero, List.set_cons_succ]
            refine oneT (i := 30) rfl (by kernel_rfl) (fun K hK => ?_)
            go_simp
            refine hK.out _ _ (fun h => absurd h (by decide)) ?_
            clear hK K
            try simp only [Act.put, List.setIfInBounds_toArray, List.set_cons_zero, List.set_cons_succ]
            refine doneT (by kernel_rfl) ?_ _
            refine NoPanic.normal ?_
            go_wp2_with fail
            go_meet
            exact ⟨rfl, rfl, g19, c19, g25, c25, kf, o19.kept gs (by omega), o25.kept gs (by omega), b.trans (below_grown gs (Nat.le_refl _) k2.lt)⟩
          · go_simp
            have o15 : Own (V1.alloc (.cells #[] 5)) (w.heap.size + 1) (some ⟨V1.heap.size, 0, none⟩) 0 0 [] := Own.emptyK V1 _ _ rfl k2.lt
            have ba := below_a1' (Below.refl V1.heap.size V1) (.cells #[] 5)
            have k2 := k2.alloc (.cells #[] 5)
            have b := below_step b ba
            have o20 := o20.below ba
            generalize hW : V1.alloc (.cells #[] 5) = V2 at o15 k2 b ba o20 ⊢
            clear hW
            have hl15 := o15.base.2
            have hHeld := (b.cell halt).trans q0
            refine hK.out _ _ (fun _ => hHeld) ?_
            clear hK K
            try simp only [Act.put, List.setIfInBounds_toArray, List.set_cons_zero, List.set_cons_succ]
            refine oneT (i := 14) rfl (by kernel_rfl) (fun K hK => ?_)
            go_simp
            refine (Hsq.out _ (h.below b)).mono ?_
            rintro e wq ⟨rfl, hw⟩
            subst hw
            refine hK.out _ _ (fun _ => hHeld) ?_
            clear hK K
            try simp only [Act.put, List.setIfInBounds_toArray, List.set_cons_zero, List.set_cons_succ]
            refine oneT (i := 19) rfl (by kernel_rfl) (fun K hK => ?_)
            refine step_app8g _ rfl _ _ rfl (w.heap.size + 1) (V1.heap.size) 0 0 [] rfl o15 w.heap.size X k cx ((l.drop 21).take k) rfl (RX.out _ _ (h.below b)) (by omega) k2.lt ?_
            intro g19 c19 V3 o19 gb19 hg19
            have h15 := o15.base
            simp only [Nat.zero_add, List.nil_append] at o19 ⊢
            have b := b.trans (below_grown gb19 (by omega) h15.2)
            have k2 := k2.left gb19 (by omega)
            have o20 := o20.left gb19 (by have := o20.base; omega)
            have hl19 := o19.base.2
            have hHeld := (b.cell halt).trans q0
            refine hK.out _ _ (fun _ => hHeld) ?_
            clear hK K
            try simp only [Act.put, List.setIfInBounds_toArray, List.set_cons_zero, List.set_cons_succ]
            refine oneT (i := 25) rfl (by kernel_rfl) (fun K hK => ?_)
            refine step_app8g _ rfl _ _ rfl (w.heap.size + 1) (V0.heap.size) 0 0 [] rfl o20 w.heap.size Y v cy (((l.drop 21).drop k).take v) rfl (RY.out _ _ (h.below b)) (by omega) k2.lt ?_
            intro g25 c25 V4 o25 gb25 hg25
            have h20 := o20.base
            simp only [Nat.zero_add, List.nil_append] at o25 ⊢
            have b := b.trans (below_grown gb25 (by omega) h20.2)
            have k2 := k2.left gb25 (by omega)
            have o19 := o19.left gb25 (by have := o19.base; omega)
            have hl25 := o25.base.2
            have hHeld := (b.cell halt).trans q0
            refine hK.out _ _ (fun _ => hHeld) ?_
            clear hK K
            try simp only [Act.put, List.setIfInBounds_toArray, List.set_cons_zero, List.set_cons_succ]
            refine takeU (i := 26) (v := ?_) rfl (by kernel_rfl) (by kernel_rfl) (by kernel_rfl) (by kernel_rfl) (by kernel_rfl) (fun _ _ _ h => h) (Or.inl ⟨by rfl, ?_⟩) hHeld ?_
            rotate_left
            · (intro wx hSw; (try dsimp only at hSw); go_simp; try (with_reducible rfl))
            try simp only [Act.put, List.setIfInBounds_toArray, List.set_cons_zero, List.set_cons_succ]
            have y0 := k2.frozen 0
            have y1 := k2.frozen 1
            have y2 := k2.frozen 2
            have y3 := k2.frozen 3
            have y4 := k2.frozen 4
            have y5 := k2.frozen 5
            obtain ⟨z0, z1, z2, z3, z4, z5⟩ := box6 k2
            have kf := blk_set6 k2 (.int .i64 (kd : Nat)) (.int .u32 (fl : Nat)) (.int .u32 (ex : Nat)) (.int .u64 (sq : Nat)) (.slice (some ⟨g19, 0, none⟩) k c19) (.slice (some ⟨g25, 0, none⟩) v c25)
            have gs := grown_set6 V4 w.heap.size (.int .i64 (kd : Nat)) (.int .u32 (fl : Nat)) (.int .u32 (ex : Nat)) (.int .u64 (sq : Nat)) (.slice (some ⟨g19, 0, none⟩) k c19) (.slice (some ⟨g25, 0, none⟩) v c25)
            refine oneT (i := 28) rfl (by kernel_rfl) (fun K hK => ?_)
            go_simp
            refine hK.out _ _ (fun h => absurd h (by decide)) ?_
            clear hK K
            try simp only [Act.put, List.setIfInBounds_toArray, List.set_cons_zero, List.set_cons_succ]
            refine oneT (i := 29) rfl (by kernel_rfl) (fun K hK => ?_)
            go_simp
            refine hK.out _ _ (fun h => absurd h (by decide)) ?_
            clear hK K
            try simp only [Act.put, List.setIfInBounds_toArray, List.set_cons_zero, List.set_cons_succ]
            refine oneT (i := 30) rfl (by kernel_rfl) (fun K hK => ?_)
            go_simp
            refine hK.out _ _ (fun h => absurd h (by decide)) ?_
            clear hK K
            try simp only [Act.put, List.setIfInBounds_toArray, List.set_cons_zero, List.set_cons_succ]
            refine doneT (by kernel_rfl) ?_ _
            refine NoPanic.normal ?_
            go_wp2_with fail
            go_meet
            exact ⟨rfl, rfl, g19, c19, g25, c25, kf, o19.kept gs (by omega), o25.kept gs (by omega), b.trans (below_grown gs (Nat.le_refl _) k2.lt)⟩
        · go_simp
          have o15 : Own (V1.alloc (.cells #[] 5)) (w.heap.size + 1) (some ⟨V1.heap.size, 0, none⟩) 0 0 [] := Own.emptyK V1 _ _ rfl k2.lt
          have ba := below_a1' (Below.refl V1.heap.size V1) (.cells #[] 5)
          have k2 := k2.alloc (.cells #[] 5)
          have b := below_step b ba
          have o20 := o20.below ba
          generalize hW : V1.alloc (.cells #[] 5) = V2 at o15 k2 b ba o20 ⊢
          clear hW
          have hl15 := o15.base.2
          have hHeld := (b.cell halt).trans q0
          refine hK.out _ _ (fun _ => hHeld) ?_
          clear hK K
          try simp only [Act.put, List.setIfInBounds_toArray, List.set_cons_zero, List.set_cons_succ]
          refine oneT (i := 10) rfl (by kernel_rfl) (fun K hK => ?_)
          go_simp
          refine (Hex.out _ (h.below b)).mono ?_
          rintro e wq ⟨rfl, hw⟩
          subst hw
          refine hK.out _ _ (fun _ => hHeld) ?_
          clear hK K
          try simp only [Act.put, List.setIfInBounds_toArray, List.set_cons_zero, List.set_cons_succ]
          refine takeU (i := 11) (v := ?_) rfl (by kernel_rfl) (by kernel_rfl) (by kernel_rfl) (by kernel_rfl) (by kernel_rfl) (fun _ _ _ h => h) (Or.inl ⟨by rfl, ?_⟩) hHeld ?_
          rotate_left
          · (intro wx hSw; (try dsimp only at hSw); go_simp; try (with_reducible rfl))
          try simp only [Act.put, List.setIfInBounds_toArray, List.set_cons_zero, List.set_cons_succ]
          refine oneT (i := 14) rfl (by kernel_rfl) (fun K hK => ?_)
          go_simp
          refine (Hsq.out _ (h.below b)).mono ?_
          rintro e wq ⟨rfl, hw⟩
          subst hw
          refine hK.out _ _ (fun _ => hHeld) ?_
          clear hK K
          try simp only [Act.put, List.setIfInBounds_toArray, List.set_cons_zero, List.set_cons_succ]
          refine oneT (i := 19) rfl (by kernel_rfl) (fun K hK => ?_)
          refine step_app8g _ rfl _ _ rfl (w.heap.size + 1) (V1.heap.size) 0 0 [] rfl o15 w.heap.size X k cx ((l.drop 21).take k) rfl (RX.out _ _ (h.below b)) (by omega) k2.lt ?_
          intro g19 c19 V3 o19 gb19 hg19
          have h15 := o15.base
          simp only [Nat.zero_add, List.nil_append] at o19 ⊢
          have b := b.trans (below_grown gb19 (by omega) h15.2)
          have k2 := k2.left gb19 (by omega)
          have o20 := o20.left gb19 (by have := o20.base; omega)
          have hl19 := o19.base.2
          have hHeld := (b.cell halt).trans q0
          refine hK.out _ _ (fun _ => hHeld) ?_
          clear hK K
          try simp only [Act.put, List.setIfInBounds_toArray, List.set_cons_zero, List.set_cons_succ]
          refine oneT (i := 25) rfl (by kernel_rfl) (fun K hK => ?_)
          refine step_app8g _ rfl _ _ rfl (w.heap.size + 1) (V0.heap.size) 0 0 [] rfl o20 w.heap.size Y v cy (((l.drop 21).drop k).take v) rfl (RY.out _ _ (h.below b)) (by omega) k2.lt ?_
          intro g25 c25 V4 o25 gb25 hg25
          have h20 := o20.base
          simp only [Nat.zero_add, List.nil_append] at o25 ⊢
          have b := b.trans (below_grown gb25 (by omega) h20.2)
          have k2 := k2.left gb25 (by omega)
          have o19 := o19.left gb25 (by have := o19.base; omega)
          have hl25 := o25.base.2
          have hHeld := (b.cell halt).trans q0
          refine hK.out _ _ (fun _ => hHeld) ?_
          clear hK K
          try simp only [Act.put, List.setIfInBounds_toArray, List.set_cons_zero, List.set_cons_succ]
          refine takeU (i := 26) (v := ?_) rfl (by kernel_rfl) (by kernel_rfl) (by kernel_rfl) (by kernel_rfl) (by kernel_rfl) (fun _ _ _ h => h) (Or.inl ⟨by rfl, ?_⟩) hHeld ?_
          rotate_left
          · (intro wx hSw; (try dsimp only at hSw); go_simp; try (with_reducible rfl))
          try simp only [Act.put, List.setIfInBounds_toArray, List.set_cons_zero, List.set_cons_succ]
          have y0 := k2.frozen 0
          have y1 := k2.frozen 1
          have y2 := k2.frozen 2
          have y3 := k2.frozen 3
          have y4 := k2.frozen 4
          have y5 := k2.frozen 5
          obtain ⟨z0, z1, z2, z3, z4, z5⟩ := box6 k2
          have kf := blk_set6 k2 (.int .i64 (kd : Nat)) (.int .u32 (fl : Nat)) (.int .u32 (ex : Nat)) (.int .u64 (sq : Nat)) (.slice (some ⟨g19, 0, none⟩) k c19) (.slice (some ⟨g25, 0, none⟩) v c25)
          have gs := grown_set6 V4 w.heap.size (.int .i64 (kd : Nat)) (.int .u32 (fl : Nat)) (.int .u32 (ex : Nat)) (.int .u64 (sq : Nat)) (.slice (some ⟨g19, 0, none⟩) k c19) (.slice (some ⟨g25, 0, none⟩) v c25)
          refine oneT (i := 28) rfl (by kernel_rfl) (fun K hK => ?_)
          go_simp
          refine hK.out _ _ (fun h => absurd h (by decide)) ?_
          clear hK K
          try simp only [Act.put, List.setIfInBounds_toArray, List.set_cons_zero, List.set_cons_succ]
          refine oneT (i := 29) rfl (by kernel_rfl) (fun K hK => ?_)
          go_simp
          refine hK.out _ _ (fun h => absurd h (by decide)) ?_
          clear hK K
          try simp only [Act.put, List.setIfInBounds_toArray, List.set_cons_zero, List.set_cons_succ]
          refine oneT (i := 30) rfl (by kernel_rfl) (fun K hK => ?_)
          go_simp
          refine hK.out _ _ (fun h => absurd h (by decide)) ?_
          clear hK K
          try simp only [Act.put, List.setIfInBounds_toArray, List.set_cons_zero, List.set_cons_succ]
          refine doneT (by kernel_rfl) ?_ _
          refine NoPanic.normal ?_
          go_wp2_with fail
          go_meet
          exact ⟨rfl, rfl, g19, c19, g25, c25, kf, o19.kept gs (by omega), o25.kept gs (by omega), b.trans (below_grown gs (Nat.le_refl _) k2.lt)⟩
    · go_simp
      have o15 : Own (V0.alloc (.cells #[] 5)) (w.heap.size + 1) (some ⟨V0.heap.size, 0, none⟩) 0 0 [] := Own.emptyK V0 _ _ rfl k2.lt
      have ba := below_a1' (Below.refl V0.heap.size V0) (.cells #[] 5)
      have k2 := k2.alloc (.cells #[] 5)
      have b := below_step b ba
      generalize hW : V0.alloc (.cells #[] 5) = V1 at o15 k2 b ba ⊢
      clear hW
      have hl15 := o15.base.2
      have hHeld := (b.cell halt).trans q0
      refine hK.out _ _ (fun _ => hHeld) ?_
      clear hK K
      try simp only [Act.put, List.setIfInBounds_toArray, List.set_cons_zero, List.set_cons_succ]
      refine twoT (i := 6) (j := 20) rfl rfl (by kernel_rfl) (fun K hK => ?_) (fun K hK => ?_)
      · go_simp
        refine (Hfl.out _ (h.below b)).mono ?_
        rintro e wq ⟨rfl, hw⟩
        subst hw
        refine hK.out _ _ (fun _ => hHeld) ?_
        clear hK K
        try simp only [Act.put, List.setIfInBounds_toArray, List.set_cons_zero, List.set_cons_succ]
        refine takeU (i := 7) (v := ?_) rfl (by kernel_rfl) (by kernel_rfl) (by kernel_rfl) (by kernel_rfl) (by kernel_rfl) (fun _ _ _ h => h) (Or.inl ⟨by rfl, ?_⟩) hHeld ?_
        rotate_left
        · (intro wx hSw; (try dsimp only at hSw); go_simp; try (with_reducible rfl))
        try simp only [Act.put, List.setIfInBounds_toArray, List.set_cons_zero, List.set_cons_succ]
        refine twoT (i := 10) (j := 20) rfl rfl (by kernel_rfl) (fun K hK => ?_) (fun K hK => ?_)
        · go_simp
          refine (Hex.out _ (h.below b)).mono ?_
          rintro e wq ⟨rfl, hw⟩
          subst hw
          refine hK.out _ _ (fun _ => hHeld) ?_
          clear hK K
          try simp only [Act.put, List.setIfInBounds_toArray, List.set_cons_zero, List.set_cons_succ]
          refine takeU (i := 11) (v := ?_) rfl (by kernel_rfl) (by kernel_rfl) (by kernel_rfl) (by kernel_rfl) (by kernel_rfl) (fun _ _ _ h => h) (Or.inl ⟨by rfl, ?_⟩) hHeld ?_
          rotate_left
          · (intro wx hSw; (try dsimp only at hSw); go_simp; try (with_reducible rfl))
          try simp only [Act.put, List.setIfInBounds_toArray, List.set_cons_zero, List.set_cons_succ]
          refine twoT (i := 14) (j := 20) rfl rfl (by kernel_rfl) (fun K hK => ?_) (fun K hK => ?_)
          · go_simp
            refine (Hsq.out _ (h.below b)).mono ?_
            rintro e wq ⟨rfl, hw⟩
            subst hw
            refine hK.out _ _ (fun _ => hHeld) ?_
            clear hK K
            try simp only [Act.put, List.setIfInBounds_toArray, List.set_cons_zero, List.set_cons_succ]
            refine twoT (i := 19) (j := 20) rfl rfl (by kernel_rfl) (fun K hK => ?_) (fun K hK => ?_)
            · refine step_app8g _ rfl _ _ rfl (w.heap.size + 1) (V0.heap.size) 0 0 [] rfl o15 w.heap.size X k cx ((l.drop 21).take k) rfl (RX.out _ _ (h.below b)) (by omega) k2.lt ?_
              intro g19 c19 V2 o19 gb19 hg19
              have h15 := o15.base
              simp only [Nat.zero_add, List.nil_append] at o19 ⊢
              have b := b.trans (below_grown gb19 (by omega) h15.2)
              have k2 := k2.left gb19 (by omega)
              have hl19 := o19.base.2
              have hHeld := (b.cell halt).trans q0
              refine hK.out _ _ (fun _ => hHeld) ?_
              clear hK K
              try simp only [Act.put, List.setIfInBounds_toArray, List.set_cons_zero, List.set_cons_succ]
              refine oneT (i := 20) rfl (by kernel_rfl) (fun K hK => ?_)
              go_simp
              have o20 : Own (V2.alloc (.cells #[] 5)) (w.heap.size + 1) (some ⟨V2.heap.size, 0, none⟩) 0 0 [] := Own.emptyK V2 _ _ rfl k2.lt
              have ba := below_a1' (Below.refl V2.heap.size V2) (.cells #[] 5)
              have k2 := k2.alloc (.cells #[] 5)
              have b := below_step b ba
              have o19 := o19.below ba
              generalize hW : V2.alloc (.cells #[] 5) = V3 at o20 k2 b ba o19 ⊢
              clear hW
              have hl20 := o20.base.2
              have hHeld := (b.cell halt).trans q0
              refine hK.out _ _ (fun _ => hHeld) ?_
              clear hK K
              try simp only [Act.put, List.setIfInBounds_toArray, List.set_cons_zero, List.set_cons_succ]
              refine oneT (i := 25) rfl (by kernel_rfl) (fun K hK => ?_)
              refine step_app8g _ rfl _ _ rfl (w.heap.size + 1) (V2.heap.size) 0 0 [] rfl o20 w.heap.size Y v cy (((l.drop 21).drop k).take v) rfl (RY.out _ _ (h.below b)) (by omega) k2.lt ?_
              intro g25 c25 V4 o25 gb25 hg25
              have h20 := o20.base
              simp only [Nat.zero_add, List.nil_append] at o25 ⊢
              have b := b.trans (below_grown gb25 (by omega) h20.2)
              have k2 := k2.left gb25 (by omega)
              have o19 := o19.left gb25 (by have := o19.base; omega)
              have hl25 := o25.base.2
              have hHeld := (b.cell halt).trans q0
              refine hK.out _ _ (fun _ => hHeld) ?_
              clear hK K
              try simp only [Act.put, List.setIfInBounds_toArray, List.set_cons_zero, List.set_cons_succ]
              refine takeU (i := 26) (v := ?_) rfl (by kernel_rfl) (by kernel_rfl) (by kernel_rfl) (by kernel_rfl) (by kernel_rfl) (fun _ _ _ h => h) (Or.inl ⟨by rfl, ?_⟩) hHeld ?_
              rotate_left
              · (intro wx hSw; (try dsimp only at hSw); go_simp; try (with_reducible rfl))
              try simp only [Act.put, List.setIfInBounds_toArray, List.set_cons_zero, List.set_cons_succ]
              have y0 := k2.frozen 0
              have y1 := k2.frozen 1
              have y2 := k2.frozen 2
              have y3 := k2.frozen 3
              have y4 := k2.frozen 4
              have y5 := k2.frozen 5
              obtain ⟨z0, z1, z2, z3, z4, z5⟩ := box6 k2
              have kf := blk_set6 k2 (.int .i64 (kd : Nat)) (.int .u32 (fl : Nat)) (.int .u32 (ex : Nat)) (.int .u64 (sq : Nat)) (.slice (some ⟨g19, 0, none⟩) k c19) (.slice (some ⟨g25, 0, none⟩) v c25)
              have gs := grown_set6 V4 w.heap.size (.int .i64 (kd : Nat)) (.int .u32 (fl : Nat)) (.int .u32 (ex : Nat)) (.int .u64 (sq : Nat)) (.slice (some ⟨g19, 0, none⟩) k c19) (.slice (some ⟨g25, 0, none⟩) v c25)
              refine oneT (i := 28) rfl (by kernel_rfl) (fun K hK => ?_)
              go_simp
              refine hK.out _ _ (fun h => absurd h (by decide)) ?_
              clear hK K
              try simp only [Act.put, List.setIfInBounds_toArray, List.set_cons_zero, List.set_cons_succ]
              refine oneT (i := 29) rfl (by kernel_rfl) (fun K hK => ?_)
              go_simp
              refine hK.out _ _ (fun h => absurd h (by decide)) ?_
              clear hK K
              try simp only [Act.put, List.setIfInBounds_toArray, List.set_cons_zero, List.set_cons_succ]
              refine oneT (i := 30) rfl (by kernel_rfl) (fun K hK => ?_)
              go_simp
              refine hK.out _ _ (fun h => absurd h (by decide)) ?_
              clear hK K
              try simp only [Act.put, List.setIfInBounds_toArray, List.set_cons_zero, List.set_cons_succ]
              refine doneT (by kernel_rfl) ?_ _
              refine NoPanic.normal ?_
              go_wp2_with fail
              go_meet
              exact ⟨rfl, rfl, g19, c19, g25, c25, kf, o19.kept gs (by omega), o25.kept gs (by omega), b.trans (below_grown gs (Nat.le_refl _) k2.lt)⟩
            · go_simp
              have o20 : Own (V1.alloc (.cells #[] 5)) (w.heap.size + 1) (some ⟨V1.heap.size, 0, none⟩) 0 0 [] := Own.emptyK V1 _ _ rfl k2.lt
              have ba := below_a1' (Below.refl V1.heap.size V1) (.cells #[] 5)
              have k2 := k2.alloc (.cells #[] 5)
              have b := below_step b ba
              have o15 := o15.below ba
              generalize hW : V1.alloc (.cells #[] 5) = V2 at o20 k2 b ba o15 ⊢
              clear hW
              have hl20 := o20.base.2
              have hHeld := (b.cell halt).trans q0
              refine hK.out _ _ (fun _ => hHeld) ?_
              clear hK K
              try simp only [Act.put, List.setIfInBounds_toArray, List.set_cons_zero, List.set_cons_succ]
              refine oneT (i := 19) rfl (by kernel_rfl) (fun K hK => ?_)
              refine step_app8g _ rfl _ _ rfl (w.heap.size + 1) (V0.heap.size) 0 0 [] rfl o15 w.heap.size X k cx ((l.drop 21).take k) rfl (RX.out _ _ (h.below b)) (by omega) k2.lt ?_
              intro g19 c19 V3 o19 gb19 hg19
              have h15 := o15.base
              simp only [Nat.zero_add, List.nil_append] at o19 ⊢
              have b := b.trans (below_grown gb19 (by omega) h15.2)
              have k2 := k2.left gb19 (by omega)
              have o20 := o20.left gb19 (by have := o20.base; omega)
              have hl19 := o19.base.2
              have hHeld := (b.cell halt).trans q0
              refine hK.out _ _ (fun _ => hHeld) ?_
              clear hK K
              try simp only [Act.put, List.setIfInBounds_toArray, List.set_cons_zero, List.set_cons_succ]
              refine oneT (i := 25) rfl (by kernel_rfl) (fun K hK => ?_)
              refine step_app8g _ rfl _ _ rfl (w.heap.size + 1) (V1.heap.size) 0 0 [] rfl o20 w.heap.size Y v cy (((l.drop 21).drop k).take v) rfl (RY.out _ _ (h.below b)) (by omega) k2.lt ?_
              intro g25 c25 V4 o25 gb25 hg25
              have h20 := o20.base
              simp only [Nat.zero_add, List.nil_append] at o25 ⊢
              have b := b.trans (below_grown gb25 (by omega) h20.2)
              have k2 := k2.left gb25 (by omega)
              have o19 := o19.left gb25 (by have := o19.base; omega)
              have hl25 := o25.base.2
              have hHeld := (b.cell halt).trans q0
              refine hK.out _ _ (fun _ => hHeld) ?_
              clear hK K
              try simp only [Act.put, List.setIfInBounds_toArray, List.set_cons_zero, List.set_cons_succ]
              refine takeU (i := 26) (v := ?_) rfl (by kernel_rfl) (by kernel_rfl) (by kernel_rfl) (by kernel_rfl) (by kernel_rfl) (fun _ _ _ h => h) (Or.inl ⟨by rfl, ?_⟩) hHeld ?_
              rotate_left
              · (intro wx hSw; (try dsimp only at hSw); go_simp; try (with_reducible rfl))
              try simp only [Act.put, List.setIfInBounds_toArray, List.set_cons_zero, List.set_cons_succ]
              have y0 := k2.frozen 0
              have y1 := k2.frozen 1
              have y2 := k2.frozen 2
              have y3 := k2.frozen 3
              have y4 := k2.frozen 4
              have y5 := k2.frozen 5
              obtain ⟨z0, z1, z2, z3, z4, z5⟩ := box6 k2
              have kf := blk_set6 k2 (.int .i64 (kd : Nat)) (.int .u32 (fl : Nat)) (.int .u32 (ex : Nat)) (.int .u64 (sq : Nat)) (.slice (some ⟨g19, 0, none⟩) k c19) (.slice (some ⟨g25, 0, none⟩) v c25)
              have gs := grown_set6 V4 w.heap.size (.int .i64 (kd : Nat)) (.int .u32 (fl : Nat)) (.int .u32 (ex : Nat)) (.int .u64 (sq : Nat)) (.slice (some ⟨g19, 0, none⟩) k c19) (.slice (some ⟨g25, 0, none⟩) v c25)
              refine oneT (i := 28) rfl (by kernel_rfl) (fun K hK => ?_)
              go_simp
              refine hK.out _ _ (fun h => absurd h (by decide)) ?_
              clear hK K
              try simp only [Act.put, List.setIfInBounds_toArray, List.set_cons_zero, List.set_cons_succ]
              refine oneT (i := 29) rfl (by kernel_rfl) (fun K hK => ?_)
              go_simp
              refine hK.out _ _ (fun h => absurd h (by decide)) ?_
              clear hK K
              try simp only [Act.put, List.setIfInBounds_toArray, List.set_cons_zero, List.set_cons_succ]
              refine oneT (i := 30) rfl (by kernel_rfl) (fun K hK => ?_)
              go_simp
              refine hK.out _ _ (fun h => absurd h (by decide)) ?_
              clear hK K
              try simp only [Act.put, List.setIfInBounds_toArray, List.set_cons_zero, List.set_cons_succ]
              refine doneT (by kernel_rfl) ?_ _
              refine NoPanic.normal ?_
              go_wp2_with fail
              go_meet
              exact ⟨rfl, rfl, g19, c19, g25, c25, kf, o19.kept gs (by omega), o25.kept gs (by omega), b.trans (below_grown gs (Nat.le_refl _) k2.lt)⟩
          · go_simp
            have o20 : Own (V1.alloc (.cells #[] 5)) (w.heap.size + 1) (some ⟨V1.heap.size, 0, none⟩) 0 0 [] := Own.emptyK V1 _ _ rfl k2.lt
            have ba := below_a1' (Below.refl V1.heap.size V1) (.cells #[] 5)
            have k2 := k2.alloc (.cells #[] 5)
            have b := below_step b ba
            have o15 := o15.below ba
            generalize hW : V1.alloc (.cells #[] 5) = V2 at o20 k2 b ba o15 ⊢
            clear hW
            have hl20 := o20.base.2
            have hHeld := (b.cell halt).trans q0
            refine hK.out _ _ (fun _ => hHeld) ?_
            clear hK K
            try simp only [Act.put, List.setIfInBounds_toArray, List.set_cons_zero, List.set_cons_succ]
            refine oneT (i := 14) rfl (by kernel_rfl) (fun K hK => ?_)
            go_simp
            refine (Hsq.out _ (h.below b)).mono ?_
            rintro e wq ⟨rfl, hw⟩
            subst hw
            refine hK.out _ _ (fun _ => hHeld) ?_
            clear hK K
            try simp only [Act.put, List.setIfInBounds_toArray, List.set_cons_zero, List.set_cons_succ]
            refine oneT (i := 19) rfl (by kernel_rfl) (fun K hK => ?_)
            refine step_app8g _ rfl _ _ rfl (w.heap.size + 1) (V0.heap.size) 0 0 [] rfl o15 w.heap.size X k cx ((l.drop 21).take k) rfl (RX.out _ _ (h.below b)) (by omega) k2.lt ?_
            intro g19 c19 V3 o19 gb19 hg19
            have h15 := o15.base
            simp only [Nat.zero_add, List.nil_append] at o19 ⊢
            have b := b.trans (below_grown gb19 (by omega) h15.2)
            have k2 := k2.left gb19 (by omega)
            have o20 := o20.left gb19 (by have := o20.base; omega)
            have hl19 := o19.base.2
            have hHeld := (b.cell halt).trans q0
            refine hK.out _ _ (fun _ => hHeld) ?_
            clear hK K
            try simp only [Act.put, List.setIfInBounds_toArray, List.set_cons_zero, List.set_cons_succ]
            refine oneT (i := 25) rfl (by kernel_rfl) (fun K hK => ?_)
            refine step_app8g _ rfl _ _ rfl (w.heap.size + 1) (V1.heap.size) 0 0 [] rfl o20 w.heap.size Y v cy (((l.drop 21).drop k).take v) rfl (RY.out _ _ (h.below b)) (by omega) k2.lt ?_
            intro g25 c25 V4 o25 gb25 hg25
            have h20 := o20.base
            simp only [Nat.zero_add, List.nil_append] at o25 ⊢
            have b := b.trans (below_grown gb25 (by omega) h20.2)
            have k2 := k2.left gb25 (by omega)
            have o19 := o19.left gb25 (by have := o19.base; omega)
            have hl25 := o25.base.2
            have hHeld := (b.cell halt).trans q0
            refine hK.out _ _ (fun _ => hHeld) ?_
            clear hK K
            try simp only [Act.put, List.setIfInBounds_toArray, List.set_cons_zero, List.set_cons_succ]
            refine takeU (i := 26) (v := ?_) rfl (by kernel_rfl) (by kernel_rfl) (by kernel_rfl) (by kernel_rfl) (by kernel_rfl) (fun _ _ _ h => h) (Or.inl ⟨by rfl, ?_⟩) hHeld ?_
            rotate_left
            · (intro wx hSw; (try dsimp only at hSw); go_simp; try (with_reducible rfl))
            try simp only [Act.put, List.setIfInBounds_toArray, List.set_cons_zero, List.set_cons_succ]
            have y0 := k2.frozen 0
            have y1 := k2.frozen 1
            have y2 := k2.frozen 2
            have y3 := k2.frozen 3
            have y4 := k2.frozen 4
            have y5 := k2.frozen 5
            obtain ⟨z0, z1, z2, z3, z4, z5⟩ := box6 k2
            have kf := blk_set6 k2 (.int .i64 (kd : Nat)) (.int .u32 (fl : Nat)) (.int .u32 (ex : Nat)) (.int .u64 (sq : Nat)) (.slice (some ⟨g19, 0, none⟩) k c19) (.slice (some ⟨g25, 0, none⟩) v c25)
            have gs := grown_set6 V4 w.heap.size (.int .i64 (kd : Nat)) (.int .u32 (fl : Nat)) (.int .u32 (ex : Nat)) (.int .u64 (sq : Nat)) (.slice (some ⟨g19, 0, none⟩) k c19) (.slice (some ⟨g25, 0, none⟩) v c25)
            refine oneT (i := 28) rfl (by kernel_rfl) (fun K hK => ?_)
            go_simp
            refine hK.out _ _ (fun h => absurd h (by decide)) ?_
            clear hK K
            try simp only [Act.put, List.setIfInBounds_toArray, List.set_cons_zero, List.set_cons_succ]
            refine oneT (i := 29) rfl (by kernel_rfl) (fun K hK => ?_)
            go_simp
            refine hK.out _ _ (fun h => absurd h (by decide)) ?_
            clear hK K
            try simp only [Act.put, List.setIfInBounds_toArray, List.set_cons_zero, List.set_cons_succ]
            refine oneT (i := 30) rfl (by kernel_rfl) (fun K hK => ?_)
            go_simp
            refine hK.out _ _ (fun h => absurd h (by decide)) ?_
            clear hK K
            try simp only [Act.put, List.setIfInBounds_toArray, List.set_cons_zero, List.set_cons_succ]
            refine doneT (by kernel_rfl) ?_ _
            refine NoPanic.normal ?_
            go_wp2_with fail
            go_meet
            exact ⟨rfl, rfl, g19, c19, g25, c25, kf, o19.kept gs (by omega), o25.kept gs (by omega), b.trans (below_grown gs (Nat.le_refl _) k2.lt)⟩
        · go_simp
          have o20 : Own (V1.alloc (.cells #[] 5)) (w.heap.size + 1) (some ⟨V1.heap.size, 0, none⟩) 0 0 [] := Own.emptyK V1 _ _ rfl k2.lt
          have ba := below_a1' (Below.refl V1.heap.size V1) (.cells #[] 5)
          have k2 := k2.alloc (.cells #[] 5)
          have b := below_step b ba
          have o15 := o15.below ba
          generalize hW : V1.alloc (.cells #[] 5) = V2 at o20 k2 b ba o15 ⊢
          clear hW
          have hl20 := o20.base.2
          have hHeld := (b.cell halt).trans q0
          refine hK.out _ _ (fun _ => hHeld) ?_
          clear hK K
          try simp only [Act.put, List.setIfInBounds_toArray, List.set_cons_zero, List.set_cons_succ]
          refine oneT (i := 10) rfl (by kernel_rfl) (fun K hK => ?_)
          go_simp
          refine (Hex.out _ (h.below b)).mono ?_
          rintro e wq ⟨rfl, hw⟩
          subst hw
          refine hK.out _ _ (fun _ => hHeld) ?_
          clear hK K
          try simp only [Act.put, List.setIfInBounds_toArray, List.set_cons_zero, List.set_cons_succ]
          refine takeU (i := 11) (v := ?_) rfl (by kernel_rfl) (by kernel_rfl) (by kernel_rfl) (by kernel_rfl) (by kernel_rfl) (fun _ _ _ h => h) (Or.inl ⟨by rfl, ?_⟩) hHeld ?_
          rotate_left
          · (intro wx hSw; (try dsimp only at hSw); go_simp; try (with_reducible rfl))
          try simp only [Act.put, List.setIfInBounds_toArray, List.set_cons_zero, List.set_cons_succ]
          refine oneT (i := 14) rfl (by kernel_rfl) (fun K hK => ?_)
          go_simp
          refine (Hsq.out _ (h.below b)).mono ?_
          rintro e wq ⟨rfl, hw⟩
          subst hw
          refine hK.out _ _ (fun _ => hHeld) ?_
          clear hK K
          try simp only [Act.put, List.setIfInBounds_toArray, List.set_cons_zero, List.set_cons_succ]
          refine oneT (i := 19) rfl (by kernel_rfl) (fun K hK => ?_)
          refine step_app8g _ rfl _ _ rfl (w.heap.size + 1) (V0.heap.size) 0 0 [] rfl o15 w.heap.size X k cx ((l.drop 21).take k) rfl (RX.out _ _ (h.below b)) (by omega) k2.lt ?_
          intro g19 c19 V3 o19 gb19 hg19
          have h15 := o15.base
          simp only [Nat.zero_add, List.nil_append] at o19 ⊢
          have b := b.trans (below_grown gb19 (by omega) h15.2)
          have k2 := k2.left gb19 (by omega)
          have o20 := o20.left gb19 (by have := o20.base; omega)
          have hl19 := o19.base.2
          have hHeld := (b.cell halt).trans q0
          refine hK.out _ _ (fun _ => hHeld) ?_
          clear hK K
          try simp only [Act.put, List.setIfInBounds_toArray, List.set_cons_zero, List.set_cons_succ]
          refine oneT (i := 25) rfl (by kernel_rfl) (fun K hK => ?_)
          refine step_app8g _ rfl _ _ rfl (w.heap.size + 1) (V1.heap.size) 0 0 [] rfl o20 w.heap.size Y v cy (((l.drop 21).drop k).take v) rfl (RY.out _ _ (h.below b)) (by omega) k2.lt ?_
          intro g25 c25 V4 o25 gb25 hg25
          have h20 := o20.base
          simp only [Nat.zero_add, List.nil_append] at o25 ⊢
          have b := b.trans (below_grown gb25 (by omega) h20.2)
          have k2 := k2.left gb25 (by omega)
          have o19 := o19.left gb25 (by have := o19.base; omega)
          have hl25 := o25.base.2
          have hHeld := (b.cell halt).trans q0
          refine hK.out _ _ (fun _ => hHeld) ?_
          clear hK K
          try simp only [Act.put, List.setIfInBounds_toArray, List.set_cons_zero, List.set_cons_succ]
          refine takeU (i := 26) (v := ?_) rfl (by kernel_rfl) (by kernel_rfl) (by kernel_rfl) (by kernel_rfl) (by kernel_rfl) (fun _ _ _ h => h) (Or.inl ⟨by rfl, ?_⟩) hHeld ?_
          rotate_left
          · (intro wx hSw; (try dsimp only at hSw); go_simp; try (with_reducible rfl))
          try simp only [Act.put, List.setIfInBounds_toArray, List.set_cons_zero, List.set_cons_succ]
          have y0 := k2.frozen 0
          have y1 := k2.frozen 1
          have y2 := k2.frozen 2
          have y3 := k2.frozen 3
          have y4 := k2.frozen 4
          have y5 := k2.frozen 5
          obtain ⟨z0, z1, z2, z3, z4, z5⟩ := box6 k2
          have kf := blk_set6 k2 (.int .i64 (kd : Nat)) (.int .u32 (fl : Nat)) (.int .u32 (ex : Nat)) (.int .u64 (sq : Nat)) (.slice (some ⟨g19, 0, none⟩) k c19) (.slice (some ⟨g25, 0, none⟩) v c25)
          have gs := grown_set6 V4 w.heap.size (.int .i64 (kd : Nat)) (.int .u32 (fl : Nat)) (.int .u32 (ex : Nat)) (.int .u64 (sq : Nat)) (.slice (some ⟨g19, 0, none⟩) k c19) (.slice (some ⟨g25, 0, none⟩) v c25)
          refine oneT (i := 28) rfl (by kernel_rfl) (fun K hK => ?_)
          go_simp
          refine hK.out _ _ (fun h => absurd h (by decide)) ?_
          clear hK K
          try simp only [Act.put, List.setIfInBounds_toArray, List.set_cons_zero, List.set_cons_succ]
          refine oneT (i := 29) rfl (by kernel_rfl) (fun K hK => ?_)
          go_simp
          refine hK.out _ _ (fun h => absurd h (by decide)) ?_
          clear hK K
          try simp only [Act.put, List.setIfInBounds_toArray, List.set_cons_zero, List.set_cons_succ]
          refine oneT (i := 30) rfl (by kernel_rfl) (fun K hK => ?_)
          go_simp
          refine hK.out _ _ (fun h => absurd h (by decide)) ?_
          clear hK K
          try simp only [Act.put, List.setIfInBounds_toArray, List.set_cons_zero, List.set_cons_succ]
          refine doneT (by kernel_rfl) ?_ _
          refine NoPanic.normal ?_
          go_wp2_with fail
          go_meet
          exact ⟨rfl, rfl, g19, c19, g25, c25, kf, o19.kept gs (by omega), o25.kept gs (by omega), b.trans (below_grown gs (Nat.le_refl _) k2.lt)⟩
      · go_simp
        have o20 : Own (V1.alloc (.cells #[] 5)) (w.heap.size + 1) (some ⟨V1.heap.size, 0, none⟩) 0 0 [] := Own.emptyK V1 _ _ rfl k2.lt
        have ba := below_a1' (Below.refl V1.heap.size V1) (.cells #[] 5)
        have k2 := k2.alloc (.cells #[] 5)
        have b := below_step b ba
        have o15 := o15.below ba
        generalize hW : V1.alloc (.cells #[] 5) = V2 at o20 k2 b ba o15 ⊢
        clear hW
        have hl20 := o20.base.2
        have hHeld := (b.cell halt).trans q0
        refine hK.out _ _ (fun _ => hHeld) ?_
        clear hK K
        try simp only [Act.put, List.setIfInBounds_toArray, List.set_cons_zero, List.set_cons_succ]
        refine oneT (i := 6) rfl (by kernel_rfl) (fun K hK => ?_)
        go_simp
        refine (Hfl.out _ (h.below b)).mono ?_
        rintro e wq ⟨rfl, hw⟩
        subst hw
        refine hK.out _ _ (fun _ => hHeld) ?_
        clear hK K
        try simp only [Act.put, List.setIfInBounds_toArray, List.set_cons_zero, List.set_cons_succ]
        refine takeU (i := 7) (v := ?_) rfl (by kernel_rfl) (by kernel_rfl) (by kernel_rfl) (by kernel_rfl) (by kernel_rfl) (fun _ _ _ h => h) (Or.inl ⟨by rfl, ?_⟩) hHeld ?_
        rotate_left
        · (intro wx hSw; (try dsimp only at hSw); go_simp; try (with_reducible rfl))
        try simp only [Act.put, List.setIfInBounds_toArray, List.set_cons_zero, List.set_cons_succ]
        refine oneT (i := 10) rfl (by kernel_rfl) (fun K hK => ?_)
        go_simp
        refine (Hex.out _ (h.below b)).mono ?_
        rintro e wq ⟨rfl, hw⟩
        subst hw
        refine hK.out _ _ (fun _ => hHeld) ?_
        clear hK K
        try simp only [Act.put, List.setIfInBounds_toArray, List.set_cons_zero, List.set_cons_succ]
        refine takeU (i := 11) (v := ?_) rfl (by kernel_rfl) (by kernel_rfl) (by kernel_rfl) (by kernel_rfl) (by kernel_rfl) (fun _ _ _ h => h) (Or.inl ⟨by rfl, ?_⟩) hHeld ?_
        rotate_left
        · (intro wx hSw; (try dsimp only at hSw); go_simp; try (with_reducible rfl))
        try simp only [Act.put, List.setIfInBounds_toArray, List.set_cons_zero, List.set_cons_succ]
        refine oneT (i := 14) rfl (by kernel_rfl) (fun K hK => ?_)
        go_simp
        refine (Hsq.out _ (h.below b)).mono ?_
        rintro e wq ⟨rfl, hw⟩
        subst hw
        refine hK.out _ _ (fun _ => hHeld) ?_
        clear hK K
        try simp only [Act.put, List.setIfInBounds_toArray, List.set_cons_zero, List.set_cons_succ]
        refine oneT (i := 19) rfl (by kernel_rfl) (fun K hK => ?_)
        refine step_app8g _ rfl _ _ rfl (w.heap.size + 1) (V0.heap.size) 0 0 [] rfl o15 w.heap.size X k cx ((l.drop 21).take k) rfl (RX.out _ _ (h.below b)) (by omega) k2.lt ?_
        intro g19 c19 V3 o19 gb19 hg19
        have h15 := o15.base
        simp only [Nat.zero_add, List.nil_append] at o19 ⊢
        have b := b.trans (below_grown gb19 (by omega) h15.2)
        have k2 := k2.left gb19 (by omega)
        have o20 := o20.left gb19 (by have := o20.base; omega)
        have hl19 := o19.base.2
        have hHeld := (b.cell halt).trans q0
        refine hK.out _ _ (fun _ => hHeld) ?_
        clear hK K
        try simp only [Act.put, List.setIfInBounds_toArray, List.set_cons_zero, List.set_cons_succ]
        refine oneT (i := 25) rfl (by kernel_rfl) (fun K hK => ?_)
        refine step_app8g _ rfl _ _ rfl (w.heap.size + 1) (V1.heap.size) 0 0 [] rfl o20 w.heap.size Y v cy (((l.drop 21).drop k).take v) rfl (RY.out _ _ (h.below b)) (by omega) k2.lt ?_
        intro g25 c25 V4 o25 gb25 hg25
        have h20 := o20.base
        simp only [Nat.zero_add, List.nil_append] at o25 ⊢
        have b := b.trans (below_grown gb25 (by omega) h20.2)
        have k2 := k2.left gb25 (by omega)
        have o19 := o19.left gb25 (by have := o19.base; omega)
        have hl25 := o25.base.2
        have hHeld := (b.cell halt).trans q0
        refine hK.out _ _ (fun _ => hHeld) ?_
        clear hK K
        try simp only [Act.put, List.setIfInBounds_toArray, List.set_cons_zero, List.set_cons_succ]
        refine takeU (i := 26) (v := ?_) rfl (by kernel_rfl) (by kernel_rfl) (by kernel_rfl) (by kernel_rfl) (by kernel_rfl) (fun _ _ _ h => h) (Or.inl ⟨by rfl, ?_⟩) hHeld ?_
        rotate_left
        · (intro wx hSw; (try dsimp only at hSw); go_simp; try (with_reducible rfl))
        try simp only [Act.put, List.setIfInBounds_toArray, List.set_cons_zero, List.set_cons_succ]
        have y0 := k2.frozen 0
        have y1 := k2.frozen 1
        have y2 := k2.frozen 2
        have y3 := k2.frozen 3
        have y4 := k2.frozen 4
        have y5 := k2.frozen 5
        obtain ⟨z0, z1, z2, z3, z4, z5⟩ := box6 k2
        have kf := blk_set6 k2 (.int .i64 (kd : Nat)) (.int .u32 (fl : Nat)) (.int .u32 (ex : Nat)) (.int .u64 (sq : Nat)) (.slice (some ⟨g19, 0, none⟩) k c19) (.slice (some ⟨g25, 0, none⟩) v c25)
        have gs := grown_set6 V4 w.heap.size (.int .i64 (kd : Nat)) (.int .u32 (fl : Nat)) (.int .u32 (ex : Nat)) (.int .u64 (sq : Nat)) (.slice (some ⟨g19, 0, none⟩) k c19) (.slice (some ⟨g25, 0, none⟩) v c25)
        refine oneT (i := 28) rfl (by kernel_rfl) (fun K hK => ?_)
        go_simp
        refine hK.out _ _ (fun h => absurd h (by decide)) ?_
        clear hK K
        try simp only [Act.put, List.setIfInBounds_toArray, List.set_cons_zero, List.set_cons_succ]
        refine oneT (i := 29) rfl (by kernel_rfl) (fun K hK => ?_)
        go_simp
        refine hK.out _ _ (fun h => absurd h (by decide)) ?_
        clear hK K
        try simp only [Act.put, List.setIfInBounds_toArray, List.set_cons_zero, List.set_cons_succ]
        refine oneT (i := 30) rfl (by kernel_rfl) (fun K hK => ?_)
        go_simp
        refine hK.out _ _ (fun h => absurd h (by decide)) ?_
        clear hK K
        try simp only [Act.put, List.setIfInBounds_toArray, List.set_cons_zero, List.set_cons_succ]
        refine doneT (by kernel_rfl) ?_ _
        refine NoPanic.normal ?_
        go_wp2_with fail
        go_meet
        exact ⟨rfl, rfl, g19, c19, g25, c25, kf, o19.kept gs (by omega), o25.kept gs (by omega), b.trans (below_grown gs (Nat.le_refl _) k2.lt)⟩
    · go_simp
      have o20 : Own (V0.alloc (.cells #[] 5)) (w.heap.size + 1) (some ⟨V0.heap.size, 0, none⟩) 0 0 [] := Own.emptyK V0 _ _ rfl k2.lt
      have ba := below_a1' (Below.refl V0.heap.size V0) (.cells #[] 5)
      have k2 := k2.alloc (.cells #[] 5)
      have b := below_step b ba
      generalize hW : V0.alloc (.cells #[] 5) = V1 at o20 k2 b ba ⊢
      clear hW
      have hl20 := o20.base.2
      have hHeld := (b.cell halt).trans q0
      refine hK.out _ _ (fun _ => hHeld) ?_
      clear hK K
      try simp only [Act.put, List.setIfInBounds_toArray, List.set_cons_zero, List.set_cons_succ]
      refine twoT (i := 6) (j := 15) rfl rfl (by kernel_rfl) (fun K hK => ?_) (fun K hK => ?_)
      · go_simp
        refine (Hfl.out _ (h.below b)).mono ?_
        rintro e wq ⟨rfl, hw⟩
        subst hw
        refine hK.out _ _ (fun _ => hHeld) ?_
        clear hK K
        try simp only [Act.put, List.setIfInBounds_toArray, List.set_cons_zero, List.set_cons_succ]
        refine takeU (i := 7) (v := ?_) rfl (by kernel_rfl) (by kernel_rfl) (by kernel_rfl) (by kernel_rfl) (by kernel_rfl) (fun _ _ _ h => h) (Or.inl ⟨by rfl, ?_⟩) hHeld ?_
        rotate_left
        · (intro wx hSw; (try dsimp only at hSw); go_simp; try (with_reducible rfl))
        try simp only [Act.put, List.setIfInBounds_toArray, List.set_cons_zero, List.set_cons_succ]
        refine twoT (i := 10) (j := 15) rfl rfl (by kernel_rfl) (fun K hK => ?_) (fun K hK => ?_)
        · go_simp
          refine (Hex.out _ (h.below b)).mono ?_
          rintro e wq ⟨rfl, hw⟩
          subst hw
          refine hK.out _ _ (fun _ => hHeld) ?_
          clear hK K
          try simp only [Act.put, List.setIfInBounds_toArray, List.set_cons_zero, List.set_cons_succ]
          refine takeU (i := 11) (v := ?_) rfl (by kernel_rfl) (by kernel_rfl) (by kernel_rfl) (by kernel_rfl) (by kernel_rfl) (fun _ _ _ h => h) (Or.inl ⟨by rfl, ?_⟩) hHeld ?_
          rotate_left
          · (intro wx hSw; (try dsimp only at hSw); go_simp; try (with_reducible rfl))
          try simp only [Act.put, List.setIfInBounds_toArray, List.set_cons_zero, List.set_cons_succ]
          refine twoT (i := 14) (j := 15) rfl rfl (by kernel_rfl) (fun K hK => ?_) (fun K hK => ?_)
          · go_simp
            refine (Hsq.out _ (h.below b)).mono ?_
            rintro e wq ⟨rfl, hw⟩
            subst hw
            refine hK.out _ _ (fun _ => hHeld) ?_
            clear hK K
            try simp only [Act.put, List.setIfInBounds_toArray, List.set_cons_zero, List.set_cons_succ]
            refine oneT (i := 15) rfl (by kernel_rfl) (fun K hK => ?_)
            go_simp
            have o15 : Own (V1.alloc (.cells #[] 5)) (w.heap.size + 1) (some ⟨V1.heap.size, 0, none⟩) 0 0 [] := Own.emptyK V1 _ _ rfl k2.lt
            have ba := below_a1' (Below.refl V1.heap.size V1) (.cells #[] 5)
            have k2 := k2.alloc (.cells #[] 5)
            have b := below_step b ba
            have o20 := o20.below ba
            generalize hW : V1.alloc (.cells #[] 5) = V2 at o15 k2 b ba o20 ⊢
            clear hW
            have hl15 := o15.base.2
            have hHeld := (b.cell halt).trans q0
            refine hK.out _ _ (fun _ => hHeld) ?_
            clear hK K
            try simp only [Act.put, List.setIfInBounds_toArray, List.set_cons_zero, List.set_cons_succ]
            refine oneT (i := 19) rfl (by kernel_rfl) (fun K hK => ?_)
            refine step_app8g _ rfl _ _ rfl (w.heap.size + 1) (V1.heap.size) 0 0 [] rfl o15 w.heap.size X k cx ((l.drop 21).take k) rfl (RX.out _ _ (h.below b)) (by omega) k2.lt ?_
            intro g19 c19 V3 o19 gb19 hg19
            have h15 := o15.base
            simp only [Nat.zero_add, List.nil_append] at o19 ⊢
            have b := b.trans (below_grown gb19 (by omega) h15.2)
            have k2 := k2.left gb19 (by omega)
            have o20 := o20.left gb19 (by have := o20.base; omega)
            have hl19 := o19.base.2
            have hHeld := (b.cell halt).trans q0
            refine hK.out _ _ (fun _ => hHeld) ?_
            clear hK K
            try simp only [Act.put, List.setIfInBounds_toArray, List.set_cons_zero, List.set_cons_succ]
            refine oneT (i := 25) rfl (by kernel_rfl) (fun K hK => ?_)
            refine step_app8g _ rfl _ _ rfl (w.heap.size + 1) (V0.heap.size) 0 0 [] rfl o20 w.heap.size Y v cy (((l.drop 21).drop k).take v) rfl (RY.out _ _ (h.below b)) (by omega) k2.lt ?_
            intro g25 c25 V4 o25 gb25 hg25
            have h20 := o20.base
            simp only [Nat.zero_add, List.nil_append] at o25 ⊢
            have b := b.trans (below_grown gb25 (by omega) h20.2)
            have k2 := k2.left gb25 (by omega)
            have o19 := o19.left gb25 (by have := o19.base; omega)
            have hl25 := o25.base.2
            have hHeld := (b.cell halt).trans q0
            refine hK.out _ _ (fun _ => hHeld) ?_
            clear hK K
            try simp only [Act.put, List.setIfInBounds_toArray, List.set_cons_zero, List.set_cons_succ]
            refine takeU (i := 26) (v := ?_) rfl (by kernel_rfl) (by kernel_rfl) (by kernel_rfl) (by kernel_rfl) (by kernel_rfl) (fun _ _ _ h => h) (Or.inl ⟨by rfl, ?_⟩) hHeld ?_
            rotate_left
            · (intro wx hSw; (try dsimp only at hSw); go_simp; try (with_reducible rfl))
            try simp only [Act.put, List.setIfInBounds_toArray, List.set_cons_zero, List.set_cons_succ]
            have y0 := k2.frozen 0
            have y1 := k2.frozen 1
            have y2 := k2.frozen 2
            have y3 := k2.frozen 3
            have y4 := k2.frozen 4
            have y5 := k2.frozen 5
            obtain ⟨z0, z1, z2, z3, z4, z5⟩ := box6 k2
            have kf := blk_set6 k2 (.int .i64 (kd : Nat)) (.int .u32 (fl : Nat)) (.int .u32 (ex : Nat)) (.int .u64 (sq : Nat)) (.slice (some ⟨g19, 0, none⟩) k c19) (.slice (some ⟨g25, 0, none⟩) v c25)
            have gs := grown_set6 V4 w.heap.size (.int .i64 (kd : Nat)) (.int .u32 (fl : Nat)) (.int .u32 (ex : Nat)) (.int .u64 (sq : Nat)) (.slice (some ⟨g19, 0, none⟩) k c19) (.slice (some ⟨g25, 0, none⟩) v c25)
            refine oneT (i := 28) rfl (by kernel_rfl) (fun K hK => ?_)
            go_simp
            refine hK.out _ _ (fun h => absurd h (by decide)) ?_
            clear hK K
            try simp only [Act.put, List.setIfInBounds_toArray, List.set_cons_zero, List.set_cons_succ]
            refine oneT (i := 29) rfl (by kernel_rfl) (fun K hK => ?_)
            go_simp
            refine hK.out _ _ (fun h => absurd h (by decide)) ?_
            clear hK K
            try simp only [Act.put, List.setIfInBounds_toArray, List.set_cons_zero, List.set_cons_succ]
            refine oneT (i := 30) rfl (by kernel_rfl) (fun K hK => ?_)
            go_simp
            refine hK.out _ _ (fun h => absurd h (by decide)) ?_
            clear hK K
            try simp only [Act.put, List.setIfInBounds_toArray, List.set_cons_zero, List.set_cons_succ]
            refine doneT (by kernel_rfl) ?_ _
            refine NoPanic.normal ?_
            go_wp2_with fail
            go_meet
            exact ⟨rfl, rfl, g19, c19, g25, c25, kf, o19.kept gs (by omega), o25.kept gs (by omega), b.trans (below_grown gs (Nat.le_refl _) k2.lt)⟩
          · go_simp
            have o15 : Own (V1.alloc (.cells #[] 5)) (w.heap.size + 1) (some ⟨V1.heap.size, 0, none⟩) 0 0 [] := Own.emptyK V1 _ _ rfl k2.lt
            have ba := below_a1' (Below.refl V1.heap.size V1) (.cells #[] 5)
            have k2 := k2.alloc (.cells #[] 5)
            have b := below_step b ba
            have o20 := o20.below ba
            generalize hW : V1.alloc (.cells #[] 5) = V2 at o15 k2 b ba o20 ⊢
            clear hW
            have hl15 := o15.base.2
            have hHeld := (b.cell halt).trans q0
            refine hK.out _ _ (fun _ => hHeld) ?_
            clear hK K
            try simp only [Act.put, List.setIfInBounds_toArray, List.set_cons_zero, List.set_cons_succ]
            refine oneT (i := 14) rfl (by kernel_rfl) (fun K hK => ?_)
            go_simp
            refine (Hsq.out _ (h.below b)).mono ?_
            rintro e wq ⟨rfl, hw⟩
            subst hw
            refine hK.out _ _ (fun _ => hHeld) ?_
            clear hK K
            try simp only [Act.put, List.setIfInBounds_toArray, List.set_cons_zero, List.set_cons_succ]
            refine oneT (i := 19) rfl (by kernel_rfl) (fun K hK => ?_)
            refine step_app8g _ rfl _ _ rfl (w.heap.size + 1) (V1.heap.size) 0 0 [] rfl o15 w.heap.size X k cx ((l.drop 21).take k) rfl (RX.out _ _ (h.below b)) (by omega) k2.lt ?_
            intro g19 c19 V3 o19 gb19 hg19
            have h15 := o15.base
            simp only [Nat.zero_add, List.nil_append] at o19 ⊢
            have b := b.trans (below_grown gb19 (by omega) h15.2)
            have k2 := k2.left gb19 (by omega)
            have o20 := o20.left gb19 (by have := o20.base; omega)
            have hl19 := o19.base.2
            have hHeld := (b.cell halt).trans q0
            refine hK.out _ _ (fun _ => hHeld) ?_
            clear hK K
            try simp only [Act.put, List.setIfInBounds_toArray, List.set_cons_zero, List.set_cons_succ]
            refine oneT (i := 25) rfl (by kernel_rfl) (fun K hK => ?_)
            refine step_app8g _ rfl _ _ rfl (w.heap.size + 1) (V0.heap.size) 0 0 [] rfl o20 w.heap.size Y v cy (((l.drop 21).drop k).take v) rfl (RY.out _ _ (h.below b)) (by omega) k2.lt ?_
            intro g25 c25 V4 o25 gb25 hg25
            have h20 := o20.base
            simp only [Nat.zero_add, List.nil_append] at o25 ⊢
            have b := b.trans (below_grown gb25 (by omega) h20.2)
            have k2 := k2.left gb25 (by omega)
            have o19 := o19.left gb25 (by have := o19.base; omega)
            have hl25 := o25.base.2
            have hHeld := (b.cell halt).trans q0
            refine hK.out _ _ (fun _ => hHeld) ?_
            clear hK K
            try simp only [Act.put, List.setIfInBounds_toArray, List.set_cons_zero, List.set_cons_succ]
            refine takeU (i := 26) (v := ?_) rfl (by kernel_rfl) (by kernel_rfl) (by kernel_rfl) (by kernel_rfl) (by kernel_rfl) (fun _ _ _ h => h) (Or.inl ⟨by rfl, ?_⟩) hHeld ?_
            rotate_left
            · (intro wx hSw; (try dsimp only at hSw); go_simp; try (with_reducible rfl))
            try simp only [Act.put, List.setIfInBounds_toArray, List.set_cons_zero, List.set_cons_succ]
            have y0 := k2.frozen 0
            have y1 := k2.frozen 1
            have y2 := k2.frozen 2
            have y3 := k2.frozen 3
            have y4 := k2.frozen 4
            have y5 := k2.frozen 5
            obtain ⟨z0, z1, z2, z3, z4, z5⟩ := box6 k2
            have kf := blk_set6 k2 (.int .i64 (kd : Nat)) (.int .u32 (fl : Nat)) (.int .u32 (ex : Nat)) (.int .u64 (sq : Nat)) (.slice (some ⟨g19, 0, none⟩) k c19) (.slice (some ⟨g25, 0, none⟩) v c25)
            have gs := grown_set6 V4 w.heap.size (.int .i64 (kd : Nat)) (.int .u32 (fl : Nat)) (.int .u32 (ex : Nat)) (.int .u64 (sq : Nat)) (.slice (some ⟨g19, 0, none⟩) k c19) (.slice (some ⟨g25, 0, none⟩) v c25)
            refine oneT (i := 28) rfl (by kernel_rfl) (fun K hK => ?_)
            go_simp
            refine hK.out _ _ (fun h => absurd h (by decide)) ?_
            clear hK K
            try simp only [Act.put, List.setIfInBounds_toArray, List.set_cons_zero, List.set_cons_succ]
            refine oneT (i := 29) rfl (by kernel_rfl) (fun K hK => ?_)
            go_simp
            refine hK.out _ _ (fun h => absurd h (by decide)) ?_
            clear hK K
            try simp only [Act.put, List.setIfInBounds_toArray, List.set_cons_zero, List.set_cons_succ]
            refine oneT (i := 30) rfl (by kernel_rfl) (fun K hK => ?_)
            go_simp
            refine hK.out _ _ (fun h => absurd h (by decide)) ?_
            clear hK K
            try simp only [Act.put, List.setIfInBounds_toArray, List.set_cons_zero, List.set_cons_succ]
            refine doneT (by kernel_rfl) ?_ _
            refine NoPanic.normal ?_
            go_wp2_with fail
            go_meet
            exact ⟨rfl, rfl, g19, c19, g25, c25, kf, o19.kept gs (by omega), o25.kept gs (by omega), b.trans (below_grown gs (Nat.le_refl _) k2.lt)⟩
        · go_simp
          have o15 : Own (V1.alloc (.cells #[] 5)) (w.heap.size + 1) (some ⟨V1.heap.size, 0, none⟩) 0 0 [] := Own.emptyK V1 _ _ rfl k2.lt
          have ba := below_a1' (Below.refl V1.heap.size V1) (.cells #[] 5)
          have k2 := k2.alloc (.cells #[] 5)
          have b := below_step b ba
          have o20 := o20.below ba
          generalize hW : V1.alloc (.cells #[] 5) = V2 at o15 k2 b ba o20 ⊢
          clear hW
          have hl15 := o15.base.2
          have hHeld := (b.cell halt).trans q0
          refine hK.out _ _ (fun _ => hHeld) ?_
          clear hK K
          try simp only [Act.put, List.setIfInBounds_toArray, List.set_cons_zero, List.set_cons_succ]
          refine oneT (i := 10) rfl (by kernel_rfl) (fun K hK => ?_)
          go_simp
          refine (Hex.out _ (h.below b)).mono ?_
          rintro e wq ⟨rfl, hw⟩
          subst hw
          refine hK.out _ _ (fun _ => hHeld) ?_
          clear hK K
          try simp only [Act.put, List.setIfInBounds_toArray, List.set_cons_zero, List.set_cons_succ]
          refine takeU (i := 11) (v := ?_) rfl (by kernel_rfl) (by kernel_rfl) (by kernel_rfl) (by kernel_rfl) (by kernel_rfl) (fun _ _ _ h => h) (Or.inl ⟨by rfl, ?_⟩) hHeld ?_
          rotate_left
          · (intro wx hSw; (try dsimp only at hSw); go_simp; try (with_reducible rfl))
          try simp only [Act.put, List.setIfInBounds_toArray, List.set_cons_zero, List.set_cons_succ]
          refine oneT (i := 14) rfl (by kernel_rfl) (fun K hK => ?_)
          go_simp
          refine (Hsq.out _ (h.below b)).mono ?_
          rintro e wq ⟨rfl, hw⟩
          subst hw
          refine hK.out _ _ (fun _ => hHeld) ?_
          clear hK K
          try simp only [Act.put, List.setIfInBounds_toArray, List.set_cons_zero, List.set_cons_succ]
          refine oneT (i := 19) rfl (by kernel_rfl) (fun K hK => ?_)
          refine step_app8g _ rfl _ _ rfl (w.heap.size + 1) (V1.heap.size) 0 0 [] rfl o15 w.heap.size X k cx ((l.drop 21).take k) rfl (RX.out _ _ (h.below b)) (by omega) k2.lt ?_
          intro g19 c19 V3 o19 gb19 hg19
          have h15 := o15.base
          simp only [Nat.zero_add, List.nil_append] at o19 ⊢
          have b := b.trans (below_grown gb19 (by omega) h15.2)
          have k2 := k2.left gb19 (by omega)
          have o20 := o20.left gb19 (by have := o20.base; omega)
          have hl19 := o19.base.2
          have hHeld := (b.cell halt).trans q0
          refine hK.out _ _ (fun _ => hHeld) ?_
          clear hK K
          try simp only [Act.put, List.setIfInBounds_toArray, List.set_cons_zero, List.set_cons_succ]
          refine oneT (i := 25) rfl (by kernel_rfl) (fun K hK => ?_)
          refine step_app8g _ rfl _ _ rfl (w.heap.size + 1) (V0.heap.size) 0 0 [] rfl o20 w.heap.size Y v cy (((l.drop 21).drop k).take v) rfl (RY.out _ _ (h.below b)) (by omega) k2.lt ?_
          intro g25 c25 V4 o25 gb25 hg25
          have h20 := o20.base
          simp only [Nat.zero_add, List.nil_append] at o25 ⊢
          have b := b.trans (below_grown gb25 (by omega) h20.2)
          have k2 := k2.left gb25 (by omega)
          have o19 := o19.left gb25 (by have := o19.base; omega)
          have hl25 := o25.base.2
          have hHeld := (b.cell halt).trans q0
          refine hK.out _ _ (fun _ => hHeld) ?_
          clear hK K
          try simp only [Act.put, List.setIfInBounds_toArray, List.set_cons_zero, List.set_cons_succ]
          refine takeU (i := 26) (v := ?_) rfl (by kernel_rfl) (by kernel_rfl) (by kernel_rfl) (by kernel_rfl) (by kernel_rfl) (fun _ _ _ h => h) (Or.inl ⟨by rfl, ?_⟩) hHeld ?_
          rotate_left
          · (intro wx hSw; (try dsimp only at hSw); go_simp; try (with_reducible rfl))
          try simp only [Act.put, List.setIfInBounds_toArray, List.set_cons_zero, List.set_cons_succ]
          have y0 := k2.frozen 0
          have y1 := k2.frozen 1
          have y2 := k2.frozen 2
          have y3 := k2.frozen 3
          have y4 := k2.frozen 4
          have y5 := k2.frozen 5
          obtain ⟨z0, z1, z2, z3, z4, z5⟩ := box6 k2
          have kf := blk_set6 k2 (.int .i64 (kd : Nat)) (.int .u32 (fl : Nat)) (.int .u32 (ex : Nat)) (.int .u64 (sq : Nat)) (.slice (some ⟨g19, 0, none⟩) k c19) (.slice (some ⟨g25, 0, none⟩) v c25)
          have gs := grown_set6 V4 w.heap.size (.int .i64 (kd : Nat)) (.int .u32 (fl : Nat)) (.int .u32 (ex : Nat)) (.int .u64 (sq : Nat)) (.slice (some ⟨g19, 0, none⟩) k c19) (.slice (some ⟨g25, 0, none⟩) v c25)
          refine oneT (i := 28) rfl (by kernel_rfl) (fun K hK => ?_)
          go_simp
          refine hK.out _ _ (fun h => absurd h (by decide)) ?_
          clear hK K
          try simp only [Act.put, List.setIfInBounds_toArray, List.set_cons_zero, List.set_cons_succ]
          refine oneT (i := 29) rfl (by kernel_rfl) (fun K hK => ?_)
          go_simp
          refine hK.out _ _ (fun h => absurd h (by decide)) ?_
          clear hK K
          try simp only [Act.put, List.setIfInBounds_toArray, List.set_cons_zero, List.set_cons_succ]
          refine oneT (i := 30) rfl (by kernel_rfl) (fun K hK => ?_)
          go_simp
          refine hK.out _ _ (fun h => absurd h (by decide)) ?_
          clear hK K
          try simp only [Act.put, List.setIfInBounds_toArray, List.set_cons_zero, List.set_cons_succ]
          refine doneT (by kernel_rfl) ?_ _
          refine NoPanic.normal ?_
          go_wp2_with fail
          go_meet
          exact ⟨rfl, rfl, g19, c19, g25, c25, kf, o19.kept gs (by omega), o25.kept gs (by omega), b.trans (below_grown gs (Nat.le_refl _) k2.lt)⟩
      · go_simp
        have o15 : Own (V1.alloc (.cells #[] 5)) (w.heap.size + 1) (some ⟨V1.heap.size, 0, none⟩) 0 0 [] := Own.emptyK V1 _ _ rfl k2.lt
        have ba := below_a1' (Below.refl V1.heap.size V1) (.cells #[] 5)
        have k2 := k2.alloc (.cells #[] 5)
        have b := below_step b ba
        have o20 := o20.below ba
        generalize hW : V1.alloc (.cells #[] 5) = V2 at o15 k2 b ba o20 ⊢
        clear hW
        have hl15 := o15.base.2
        have hHeld := (b.cell halt).trans q0
        refine hK.out _ _ (fun _ => hHeld) ?_
        clear hK K
        try simp only [Act.put, List.setIfInBounds_toArray, List.set_cons_zero, List.set_cons_succ]
        refine oneT (i := 6) rfl (by kernel_rfl) (fun K hK => ?_)
        go_simp
        refine (Hfl.out _ (h.below b)).mono ?_
        rintro e wq ⟨rfl, hw⟩
        subst hw
        refine hK.out _ _ (fun _ => hHeld) ?_
        clear hK K
        try simp only [Act.put, List.setIfInBounds_toArray, List.set_cons_zero, List.set_cons_succ]
        refine takeU (i := 7) (v := ?_) rfl (by kernel_rfl) (by kernel_rfl) (by kernel_rfl) (by kernel_rfl) (by kernel_rfl) (fun _ _ _ h => h) (Or.inl ⟨by rfl, ?_⟩) hHeld ?_
        rotate_left
        · (intro wx hSw; (try dsimp only at hSw); go_simp; try (with_reducible rfl))
        try simp only [Act.put, List.setIfInBounds_toArray, List.set_cons_zero, List.set_cons_succ]
        refine oneT (i := 10) rfl (by kernel_rfl) (fun K hK => ?_)
        go_simp
        refine (Hex.out _ (h.below b)).mono ?_
        rintro e wq ⟨rfl, hw⟩
        subst hw
        refine hK.out _ _ (fun _ => hHeld) ?_
        clear hK K
        try simp only [Act.put, List.setIfInBounds_toArray, List.set_cons_zero, List.set_cons_succ]
        refine takeU (i := 11) (v := ?_) rfl (by kernel_rfl) (by kernel_rfl) (by kernel_rfl) (by kernel_rfl) (by kernel_rfl) (fun _ _ _ h => h) (Or.inl ⟨by rfl, ?_⟩) hHeld ?_
        rotate_left
        · (intro wx hSw; (try dsimp only at hSw); go_simp; try (with_reducible rfl))
        try simp only [Act.put, List.setIfInBounds_toArray, List.set_cons_zero, List.set_cons_succ]
        refine oneT (i := 14) rfl (by kernel_rfl) (fun K hK => ?_)
        go_simp
        refine (Hsq.out _ (h.below b)).mono ?_
        rintro e wq ⟨rfl, hw⟩
        subst hw
        refine hK.out _ _ (fun _ => hHeld) ?_
        clear hK K
        try simp only [Act.put, List.setIfInBounds_toArray, List.set_cons_zero, List.set_cons_succ]
        refine oneT (i := 19) rfl (by kernel_rfl) (fun K hK => ?_)
        refine step_app8g _ rfl _ _ rfl (w.heap.size + 1) (V1.heap.size) 0 0 [] rfl o15 w.heap.size X k cx ((l.drop 21).take k) rfl (RX.out _ _ (h.below b)) (by omega) k2.lt ?_
        intro g19 c19 V3 o19 gb19 hg19
        have h15 := o15.base
        simp only [Nat.zero_add, List.nil_append] at o19 ⊢
        have b := b.trans (below_grown gb19 (by omega) h15.2)
        have k2 := k2.left gb19 (by omega)
        have o20 := o20.left gb19 (by have := o20.base; omega)
        have hl19 := o19.base.2
        have hHeld := (b.cell halt).trans q0
        refine hK.out _ _ (fun _ => hHeld) ?_
        clear hK K
        try simp only [Act.put, List.setIfInBounds_toArray, List.set_cons_zero, List.set_cons_succ]
        refine oneT (i := 25) rfl (by kernel_rfl) (fun K hK => ?_)
        refine step_app8g _ rfl _ _ rfl (w.heap.size + 1) (V0.heap.size) 0 0 [] rfl o20 w.heap.size Y v cy (((l.drop 21).drop k).take v) rfl (RY.out _ _ (h.below b)) (by omega) k2.lt ?_
        intro g25 c25 V4 o25 gb25 hg25
        have h20 := o20.base
        simp only [Nat.zero_add, List.nil_append] at o25 ⊢
        have b := b.trans (below_grown gb25 (by omega) h20.2)
        have k2 := k2.left gb25 (by omega)
        have o19 := o19.left gb25 (by have := o19.base; omega)
        have hl25 := o25.base.2
        have hHeld := (b.cell halt).trans q0
        refine hK.out _ _ (fun _ => hHeld) ?_
        clear hK K
        try simp only [Act.put, List.setIfInBounds_toArray, List.set_cons_zero, List.set_cons_succ]
        refine takeU (i := 26) (v := ?_) rfl (by kernel_rfl) (by kernel_rfl) (by kernel_rfl) (by kernel_rfl) (by kernel_rfl) (fun _ _ _ h => h) (Or.inl ⟨by rfl, ?_⟩) hHeld ?_
        rotate_left
        · (intro wx hSw; (try dsimp only at hSw); go_simp; try (with_reducible rfl))
        try simp only [Act.put, List.setIfInBounds_toArray, List.set_cons_zero, List.set_cons_succ]
        have y0 := k2.frozen 0
        have y1 := k2.frozen 1
        have y2 := k2.frozen 2
        have y3 := k2.frozen 3
        have y4 := k2.frozen 4
        have y5 := k2.frozen 5
        obtain ⟨z0, z1, z2, z3, z4, z5⟩ := box6 k2
        have kf := blk_set6 k2 (.int .i64 (kd : Nat)) (.int .u32 (fl : Nat)) (.int .u32 (ex : Nat)) (.int .u64 (sq : Nat)) (.slice (some ⟨g19, 0, none⟩) k c19) (.slice (some ⟨g25, 0, none⟩) v c25)
        have gs := grown_set6 V4 w.heap.size (.int .i64 (kd : Nat)) (.int .u32 (fl : Nat)) (.int .u32 (ex : Nat)) (.int .u64 (sq : Nat)) (.slice (some ⟨g19, 0, none⟩) k c19) (.slice (some ⟨g25, 0, none⟩) v c25)
        refine oneT (i := 28) rfl (by kernel_rfl) (fun K hK => ?_)
        go_simp
        refine hK.out _ _ (fun h => absurd h (by decide)) ?_
        clear hK K
        try simp only [Act.put, List.setIfInBounds_toArray, List.set_cons_zero, List.set_cons_succ]
        refine oneT (i := 29) rfl (by kernel_rfl) (fun K hK => ?_)
        go_simp
        refine hK.out _ _ (fun h => absurd h (by decide)) ?_
        clear hK K
        try simp only [Act.put, List.setIfInBounds_toArray, List.set_cons_zero, List.set_cons_succ]
        refine oneT (i := 30) rfl (by kernel_rfl) (fun K hK => ?_)
        go_simp
        refine hK.out _ _ (fun h => absurd h (by decide)) ?_
        clear hK K
        try simp only [Act.put, List.setIfInBounds_toArray, List.set_cons_zero, List.set_cons_succ]
        refine doneT (by kernel_rfl) ?_ _
        refine NoPanic.normal ?_
        go_wp2_with fail
        go_meet
        exact ⟨rfl, rfl, g19, c19, g25, c25, kf, o19.kept gs (by omega), o25.kept gs (by omega), b.trans (below_grown gs (Nat.le_refl _) k2.lt)⟩
  case rest =>
    obtain ⟨rfl, rfl, g1, c1, g2, c2, kf, oK, oV, b⟩ := hcut
    obtain ⟨t0, t1, t2, t3, t4, t5⟩ := box6 kf
    have gK := oK.more (Nat.le_succ w.heap.size)
    have gV := oV.more (Nat.le_succ w.heap.size)
    clear oK oV kf
    go_wp2_with fail
    refine bodyPost_ret (v := .tuple #[.agg #[.int .i64 (kd : Nat), .int .u32 (fl : Nat), .int .u32 (ex : Nat), .int .u64 (sq : Nat), .slice (some ⟨g1, 0, none⟩) k c1, .slice (some ⟨g2, 0, none⟩) v c2], .int .i64 (21 + (k : Int) + (v : Int)), .int .i64 0]) (by simp [results, Try.results27, go_sem, t0, t1, t2, t3, t4, t5]) rfl ?_
    exact ⟨_, c1, _, c2, rfl, gK, gV, b⟩
end Go.Proofs.Ytkdkmdjfimnkaaa

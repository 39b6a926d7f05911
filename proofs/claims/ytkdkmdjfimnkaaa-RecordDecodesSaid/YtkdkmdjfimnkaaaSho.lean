/- icehouselaw06.short. Conditions: typed in each theorem. -/
import Derived.Test.YtkdkmdjfimnkaaaRej
import Derived.Test.YtkdkmdjfimnkaaaHold
namespace Go.Proofs.Ytkdkmdjfimnkaaa
set_option linter.unusedVariables false
open Go.RowKit

def ShoR (kind : Int) (fl ex sq : Nat) (nk : Nat) (lk : List UInt8) (V : Value) (w wx : World) : Prop :=
  ∃ g1 c1, Blk wx w.heap.size #[.int .i64 kind, .int .u32 (fl : Nat), .int .u32 (ex : Nat), .int .u64 (sq : Nat), .slice (some ⟨g1, 0, none⟩) (min nk 600) c1, V] 26 ∧
    Blk wx (w.heap.size + 1) #[.int .i64 0, .int .u32 0, .int .u32 0, .int .u64 0, .slice none 0 0, .slice none 0 0] 26 ∧ Own wx (w.heap.size + 2) (some ⟨g1, 0, none⟩) (min nk 600 + 1) c1 (lk.take (min nk 600) ++ [7]) ∧ Below w.heap.size w wx
def ShoS (kind : Int) (fl ex sq : Nat) (nk nv g1 c1 : Nat) (lk lv : List UInt8) (w wx : World) : Prop :=
  ∃ g2 c2, g1 ≠ g2 ∧ Blk wx w.heap.size #[.int .i64 kind, .int .u32 (fl : Nat), .int .u32 (ex : Nat), .int .u64 (sq : Nat), .slice (some ⟨g1, 0, none⟩) (min nk 600) c1, .slice (some ⟨g2, 0, none⟩) (min nv 600) c2] 26 ∧
    Blk wx (w.heap.size + 1) #[.int .i64 0, .int .u32 0, .int .u32 0, .int .u64 0, .slice none 0 0, .slice none 0 0] 26 ∧ Own wx (w.heap.size + 2) (some ⟨g1, 0, none⟩) (min nk 600 + 1) c1 (lk.take (min nk 600) ++ [7]) ∧ Own wx (w.heap.size + 2) (some ⟨g2, 0, none⟩) (min nv 600 + 1) c2 (lv.take (min nv 600) ++ [7]) ∧ Below w.heap.size w wx
/-- What 'short' gives. -/
def ShortQ (kind : Int) (fl ex sq : Nat) (mk mv : Nat) (lk lv : List UInt8) (w : World) (e : Ending) (w' : World) : Prop :=
  ∃ g1 c1 g2 c2, e = .returned (recV kind fl ex sq (.slice (some ⟨g1, 0, none⟩) mk c1) (.slice (some ⟨g2, 0, none⟩) mv c2)) ∧ g1 ≠ g2 ∧
    Own w' w.heap.size (some ⟨g1, 0, none⟩) (mk + 1) c1 (lk ++ [7]) ∧ Own w' w.heap.size (some ⟨g2, 0, none⟩) (mv + 1) c2 (lv ++ [7]) ∧ Below w.heap.size w w'
set_option maxRecDepth 20000 in
set_option maxHeartbeats 8000000 in
theorem short_any (kind : Int) (fl ex sq : Nat) (AK AV : Option Addr) (nk ck nv cv : Nat) (lk lv : List UInt8) (w : World) (rk : Rd w w.heap.size AK nk ck lk) (rv : Rd w w.heap.size AV nv cv lv) :
    Calls Try.prog 11 #[recV kind fl ex sq (.slice AK nk ck) (.slice AV nv cv)] w (ShortQ kind fl ex sq (min nk 600) (min nv 600) (lk.take (min nk 600)) (lv.take (min nv 600)) w) := by
  have k1 := (Blk.new w #[.int .i64 kind, .int .u32 (fl : Nat), .int .u32 (ex : Nat), .int .u64 (sq : Nat), .slice AK nk ck, .slice AV nv cv] 26).alloc (.cells #[.int .i64 0, .int .u32 0, .int .u32 0, .int .u64 0, .slice none 0 0, .slice none 0 0] 26)
  have k2 : Blk ((w.alloc (.cells #[.int .i64 kind, .int .u32 (fl : Nat), .int .u32 (ex : Nat), .int .u64 (sq : Nat), .slice AK nk ck, .slice AV nv cv] 26)).alloc (.cells #[.int .i64 0, .int .u32 0, .int .u32 0, .int .u64 0, .slice none 0 0, .slice none 0 0] 26)) (w.heap.size + 1) #[.int .i64 0, .int .u32 0, .int .u32 0, .int .u64 0, .slice none 0 0, .slice none 0 0] 26 := by
    have := Blk.new (w.alloc (.cells #[.int .i64 kind, .int .u32 (fl : Nat), .int .u32 (ex : Nat), .int .u64 (sq : Nat), .slice AK nk ck, .slice AV nv cv] 26)) #[.int .i64 0, .int .u32 0, .int .u32 0, .int .u64 0, .slice none 0 0, .slice none 0 0] 26
    rwa [World.size_alloc] at this
  have b : Below w.heap.size w ((w.alloc (.cells #[.int .i64 kind, .int .u32 (fl : Nat), .int .u32 (ex : Nat), .int .u64 (sq : Nat), .slice AK nk ck, .slice AV nv cv] 26)).alloc (.cells #[.int .i64 0, .int .u32 0, .int .u32 0, .int .u64 0, .slice none 0 0, .slice none 0 0] 26)) := below_a1' (below_a1' (Below.refl _ _) _) _
  have hck := rk.cap
  have hcv := rv.cap
  unfold recV
  go_enter Try.func11, Try.ntmps11
  go_upto_region 1 with fail
  generalize (w.alloc (.cells #[.int .i64 kind, .int .u32 (fl : Nat), .int .u32 (ex : Nat), .int .u64 (sq : Nat), .slice AK nk ck, .slice AV nv cv] 26)).alloc (.cells #[.int .i64 0, .int .u32 0, .int .u32 0, .int .u64 0, .slice none 0 0, .slice none 0 0] 26) = W0 at k1 k2 b ⊢
  go_cut [] (fun wx => ShoR kind fl ex sq nk lk (.slice AV nv cv) w wx)
  case first =>
    by_cases h9 : nk ≤ 600
    · have HMN := Lib.hid (show min nk 600 = nk from by omega)
      obtain ⟨X, cx, HX, hX⟩ := slc_h rk nk (nk : Int) (by omega) (by omega)
      have h9' : ((600 : Int) < (nk : Int)) = False := eq_false (by omega)
      refine wp_region_noPanic ?_
      refine region_T (fun w' => w'.cell? ⟨w.heap.size, 4, none⟩ = some (.slice AK nk ck)) 17 (by kernel_rfl) ?_
      replace k1 : Blk W0.drew w.heap.size #[.int .i64 kind, .int .u32 (fl : Nat), .int .u32 (ex : Nat), .int .u64 (sq : Nat), .slice AK nk ck, .slice AV nv cv] 26 := k1
      replace k2 : Blk W0.drew (w.heap.size + 1) #[.int .i64 0, .int .u32 0, .int .u32 0, .int .u64 0, .slice none 0 0, .slice none 0 0] 26 := k2
      replace b : Below w.heap.size w W0.drew := b.drew
      have hHeld := (box6 k1).2.2.2.2.1
      generalize W0.drew = V0 at k1 k2 b hHeld ⊢
      refine takeT (i := 1) (v := ?_) rfl (by kernel_rfl) (by kernel_rfl) (by decide) (by kernel_rfl) (by kernel_rfl) (fun _ _ _ h => h) (Or.inl ⟨by rfl, ?_⟩) hHeld ?_
      rotate_left
      · (intro wx hSw; (try dsimp only at hSw); go_simp; (first | done | (with_reducible rfl) | (simp only [h9', if_false, if_true]; done) | (simp only [h9', if_false, if_true]; with_reducible rfl) | skip))
      try simp only [Act.put, List.setIfInBounds_toArray, List.set_cons_zero, List.set_cons_succ]
      refine takeT (i := 2) (v := ?_) rfl (by kernel_rfl) (by kernel_rfl) (by decide) (by kernel_rfl) (by kernel_rfl) (fun _ _ _ h => h) (Or.inl ⟨by rfl, ?_⟩) hHeld ?_
      rotate_left
      · (intro wx hSw; (try dsimp only at hSw); go_simp; (first | done | (with_reducible rfl) | (simp only [h9', if_false, if_true]; done) | (simp only [h9', if_false, if_true]; with_reducible rfl) | skip))
      try simp only [Act.put, List.setIfInBounds_toArray, List.set_cons_zero, List.set_cons_succ]
      refine takeT (i := 3) (v := ?_) rfl (by kernel_rfl) (by kernel_rfl) (by decide) (by kernel_rfl) (by kernel_rfl) (fun _ _ _ h => h) (Or.inl ⟨by rfl, ?_⟩) hHeld ?_
      rotate_left
      · (intro wx hSw; (try dsimp only at hSw); go_simp; (first | done | (with_reducible rfl) | (simp only [h9', if_false, if_true]; done) | (simp only [h9', if_false, if_true]; with_reducible rfl) | skip))
      try simp only [Act.put, List.setIfInBounds_toArray, List.set_cons_zero, List.set_cons_succ]
      refine takeT (i := 4) (v := ?_) rfl (by kernel_rfl) (by kernel_rfl) (by decide) (by kernel_rfl) (by kernel_rfl) (fun _ _ _ h => h) (Or.inl ⟨by rfl, ?_⟩) hHeld ?_
      rotate_left
      · (intro wx hSw; (try dsimp only at hSw); go_simp; (first | done | (with_reducible rfl) | (simp only [h9', if_false, if_true]; done) | (simp only [h9', if_false, if_true]; with_reducible rfl) | skip))
      try simp only [Act.put, List.setIfInBounds_toArray, List.set_cons_zero, List.set_cons_succ]
      refine takeT (i := 5) (v := ?_) rfl (by kernel_rfl) (by kernel_rfl) (by decide) (by kernel_rfl) (by kernel_rfl) (fun _ _ _ h => h) (Or.inl ⟨by rfl, ?_⟩) hHeld ?_
      rotate_left
      · (intro wx hSw; (try dsimp only at hSw); go_simp; (first | done | (with_reducible rfl) | (simp only [h9', if_false, if_true]; done) | (simp only [h9', if_false, if_true]; with_reducible rfl) | skip))
      try simp only [Act.put, List.setIfInBounds_toArray, List.set_cons_zero, List.set_cons_succ]
      refine takeT (i := 6) (v := ?_) rfl (by kernel_rfl) (by kernel_rfl) (by decide) (by kernel_rfl) (by kernel_rfl) (fun _ _ _ h => h) (Or.inl ⟨by rfl, ?_⟩) hHeld ?_
      rotate_left
      · (intro wx hSw; (try dsimp only at hSw); go_simp; (first | done | (with_reducible rfl) | (simp only [h9', if_false, if_true]; done) | (simp only [h9', if_false, if_true]; with_reducible rfl) | skip))
      try simp only [Act.put, List.setIfInBounds_toArray, List.set_cons_zero, List.set_cons_succ]
      refine takeT (i := 7) (v := ?_) rfl (by kernel_rfl) (by kernel_rfl) (by decide) (by kernel_rfl) (by kernel_rfl) (fun _ _ _ h => h) (Or.inl ⟨by rfl, ?_⟩) hHeld ?_
      rotate_left
      · (intro wx hSw; (try dsimp only at hSw); go_simp; (first | done | (with_reducible rfl) | (simp only [h9', if_false, if_true]; done) | (simp only [h9', if_false, if_true]; with_reducible rfl) | skip))
      try simp only [Act.put, List.setIfInBounds_toArray, List.set_cons_zero, List.set_cons_succ]
      refine takeT (i := 11) (v := ?_) rfl (by kernel_rfl) (by kernel_rfl) (by decide) (by kernel_rfl) (by kernel_rfl) (fun _ _ _ h => h) (Or.inl ⟨by rfl, ?_⟩) hHeld ?_
      rotate_left
      · (intro wx hSw; (try dsimp only at hSw); go_simp; (first | done | (with_reducible rfl) | (simp only [h9', if_false, if_true]; done) | (simp only [h9', if_false, if_true]; with_reducible rfl) | skip))
      try simp only [Act.put, List.setIfInBounds_toArray, List.set_cons_zero, List.set_cons_succ]
      refine takeT (i := 12) (v := ?_) rfl (by kernel_rfl) (by kernel_rfl) (by decide) (by kernel_rfl) (by kernel_rfl) (fun _ _ _ h => h) (Or.inl ⟨by rfl, ?_⟩) hHeld ?_
      rotate_left
      · (intro wx hSw; (try dsimp only at hSw); go_simp; (first | done | (with_reducible rfl) | (simp only [h9', if_false, if_true]; done) | (simp only [h9', if_false, if_true]; with_reducible rfl) | skip))
      try simp only [Act.put, List.setIfInBounds_toArray, List.set_cons_zero, List.set_cons_succ]
      refine takeT (i := 13) (v := ?_) rfl (by kernel_rfl) (by kernel_rfl) (by decide) (by kernel_rfl) (by kernel_rfl) (fun _ _ _ h => h) (Or.inl ⟨by rfl, ?_⟩) hHeld ?_
      rotate_left
      · (intro wx hSw; (try dsimp only at hSw); go_simp; (first | done | (with_reducible rfl) | (simp only [h9', if_false, if_true]; done) | (simp only [h9', if_false, if_true]; with_reducible rfl) | skip))
      try simp only [Act.put, List.setIfInBounds_toArray, List.set_cons_zero, List.set_cons_succ]
      refine takeT (i := 14) (v := ?_) rfl (by kernel_rfl) (by kernel_rfl) (by decide) (by kernel_rfl) (by kernel_rfl) (fun _ _ _ h => h) (Or.inl ⟨by rfl, ?_⟩) hHeld ?_
      rotate_left
      · (intro wx hSw; (try dsimp only at hSw); go_simp; (first | done | (with_reducible rfl) | (simp only [h9', if_false, if_true]; done) | (simp only [h9', if_false, if_true]; with_reducible rfl) | skip))
      try simp only [Act.put, List.setIfInBounds_toArray, List.set_cons_zero, List.set_cons_succ]
      refine twoT (i := 0) (j := 9) rfl rfl (by kernel_rfl) (fun K hK => ?_) (fun K hK => ?_)
      · refine step_mkc8 _ rfl _ _ rfl V0.heap.size 600 _ rfl rfl rfl (by omega) (Nat.le_refl _) ?_
        intro V1 o3 b3
        have hg3 : w.heap.size + 2 ≤ V0.heap.size := k2.lt
        replace o3 := o3.more hg3
        have k1 := k1.step b3
        have k2 := k2.step b3
        have b := below_step b b3
        have hl3 := o3.base.2
        have hHeld := (box6 k1).2.2.2.2.1
        refine hK.out _ _ (fun _ => hHeld) ?_
        clear hK K
        try simp only [Act.put, List.setIfInBounds_toArray, List.set_cons_zero, List.set_cons_succ]
        refine twoT (i := 8) (j := 9) rfl rfl (by kernel_rfl) (fun K hK => ?_) (fun K hK => ?_)
        · refine step_app8g _ rfl _ _ rfl (w.heap.size + 2) V0.heap.size 0 600 [] rfl o3 w.heap.size X nk cx (lk.take nk) rfl (hX _ _ (rk.below b)) (by omega) k2.lt ?_
          intro g8 c8 V2 o8 gb hg8
          have h3 := o3.base
          simp only [Nat.zero_add, List.nil_append] at o8 ⊢
          have b := b.trans (below_grown gb (by omega) h3.2)
          have k1 := k1.left gb (by omega)
          have k2 := k2.left gb (by omega)
          have hHeld := (box6 k1).2.2.2.2.1
          refine hK.out _ _ (fun _ => hHeld) ?_
          clear hK K
          try simp only [Act.put, List.setIfInBounds_toArray, List.set_cons_zero, List.set_cons_succ]
          refine oneT (i := 9) rfl (by kernel_rfl) (fun K hK => ?_)
          go_simp
          have o12 : Own (V2.alloc (.cells #[.int .u8 7] 5)) V2.heap.size (some ⟨V2.heap.size, 0, none⟩) 1 1 [7] := Own.litK V2 _ _ _ 1 [7] rfl (Nat.le_refl _) (by simp [maxLen]) rfl rfl
          have k1 := k1.alloc (.cells #[.int .u8 7] 5)
          have k2 := k2.alloc (.cells #[.int .u8 7] 5)
          have ba := below_a1' (Below.refl V2.heap.size V2) (.cells #[.int .u8 7] 5)
          have b := below_step b ba
          skip
          have o8 := o8.below ba
          generalize hW : V2.alloc (.cells #[.int .u8 7] 5) = V3 at o12 k1 k2 b ba o8 ⊢
          clear hW
          have hl12 := o12.base.2
          have hHeld := (box6 k1).2.2.2.2.1
          refine hK.out _ _ (fun _ => hHeld) ?_
          clear hK K
          try simp only [Act.put, List.setIfInBounds_toArray, List.set_cons_zero, List.set_cons_succ]
          refine oneT (i := 10) rfl (by kernel_rfl) (fun K hK => ?_)
          refine step_app8g _ rfl _ _ rfl (w.heap.size + 2) g8 nk c8 _ rfl o8 _ (some ⟨V2.heap.size, 0, none⟩) 1 1 [7] rfl o12.rd (by omega) k2.lt ?_
          intro g9 c9 V4 o9 gc hg9
          have h8 := o8.base
          have b := b.trans (below_grown gc (by omega) h8.2)
          have k1 := k1.left gc (by omega)
          have k2 := k2.left gc (by omega)
          have HS9 := slc_own o9 nk (nk : Int) (by omega) (by omega)
          have hHeld := (box6 k1).2.2.2.2.1
          refine hK.out _ _ (fun _ => hHeld) ?_
          clear hK K
          try simp only [Act.put, List.setIfInBounds_toArray, List.set_cons_zero, List.set_cons_succ]
          refine takeT (i := 15) (v := ?_) rfl (by kernel_rfl) (by kernel_rfl) (by decide) (by kernel_rfl) (by kernel_rfl) (fun _ _ _ h => h) (Or.inl ⟨by rfl, ?_⟩) hHeld ?_
          rotate_left
          · (intro wx hSw; (try dsimp only at hSw); go_simp; (first | done | (with_reducible rfl) | (simp only [h9', if_false, if_true]; done) | (simp only [h9', if_false, if_true]; with_reducible rfl) | skip))
          try simp only [Act.put, List.setIfInBounds_toArray, List.set_cons_zero, List.set_cons_succ]
          refine takeT (i := 16) (v := ?_) rfl (by kernel_rfl) (by kernel_rfl) (by decide) (by kernel_rfl) (by kernel_rfl) (fun _ _ _ h => h) (Or.inl ⟨by rfl, ?_⟩) hHeld ?_
          rotate_left
          · (intro wx hSw; (try dsimp only at hSw); go_simp; (first | done | (with_reducible rfl) | (simp only [h9', if_false, if_true]; done) | (simp only [h9', if_false, if_true]; with_reducible rfl) | skip))
          try simp only [Act.put, List.setIfInBounds_toArray, List.set_cons_zero, List.set_cons_succ]
          have y := k1.frozen 4
          refine oneT (i := 17) rfl (by kernel_rfl) (fun K hK => ?_)
          go_simp
          refine hK.out _ _ (fun h => absurd h (by decide)) ?_
          refine doneT (by kernel_rfl) ?_ _
          refine NoPanic.normal ?_
          go_wp2_with fail
          go_meet
          exact ⟨g9, c9, by rw [HMN.out]; exact k1.set_ 4 (.slice (some ⟨g9, 0, none⟩) nk c9), k2.far (by show _ ≠ w.heap.size; omega) _, by rw [HMN.out]; exact o9.kept (rdr_grown_set V4 w.heap.size 4 (.slice (some ⟨g9, 0, none⟩) nk c9)) (by omega), b.trans (below_grown (rdr_grown_set V4 w.heap.size 4 (.slice (some ⟨g9, 0, none⟩) nk c9)) (Nat.le_refl _) k1.lt)⟩
        · go_simp
          have o12 : Own (V1.alloc (.cells #[.int .u8 7] 5)) V1.heap.size (some ⟨V1.heap.size, 0, none⟩) 1 1 [7] := Own.litK V1 _ _ _ 1 [7] rfl (Nat.le_refl _) (by simp [maxLen]) rfl rfl
          have k1 := k1.alloc (.cells #[.int .u8 7] 5)
          have k2 := k2.alloc (.cells #[.int .u8 7] 5)
          have ba := below_a1' (Below.refl V1.heap.size V1) (.cells #[.int .u8 7] 5)
          have b := below_step b ba
          skip
          have o3 := o3.below ba
          generalize hW : V1.alloc (.cells #[.int .u8 7] 5) = V2 at o12 k1 k2 b ba o3 ⊢
          clear hW
          have hl12 := o12.base.2
          have hHeld := (box6 k1).2.2.2.2.1
          refine hK.out _ _ (fun _ => hHeld) ?_
          clear hK K
          try simp only [Act.put, List.setIfInBounds_toArray, List.set_cons_zero, List.set_cons_succ]
          refine oneT (i := 8) rfl (by kernel_rfl) (fun K hK => ?_)
          refine step_app8g _ rfl _ _ rfl (w.heap.size + 2) V0.heap.size 0 600 [] rfl o3 w.heap.size X nk cx (lk.take nk) rfl (hX _ _ (rk.below b)) (by omega) k2.lt ?_
          intro g8 c8 V3 o8 gb hg8
          have h3 := o3.base
          simp only [Nat.zero_add, List.nil_append] at o8 ⊢
          have b := b.trans (below_grown gb (by omega) h3.2)
          have k1 := k1.left gb (by omega)
          have k2 := k2.left gb (by omega)
          have o12 := o12.left gb (by have := o12.base; have := o3.base; omega)
          have hHeld := (box6 k1).2.2.2.2.1
          refine hK.out _ _ (fun _ => hHeld) ?_
          clear hK K
          try simp only [Act.put, List.setIfInBounds_toArray, List.set_cons_zero, List.set_cons_succ]
          refine oneT (i := 10) rfl (by kernel_rfl) (fun K hK => ?_)
          refine step_app8g _ rfl _ _ rfl (w.heap.size + 2) g8 nk c8 _ rfl o8 _ (some ⟨V1.heap.size, 0, none⟩) 1 1 [7] rfl o12.rd (by omega) k2.lt ?_
          intro g9 c9 V4 o9 gc hg9
          have h8 := o8.base
          have b := b.trans (below_grown gc (by omega) h8.2)
          have k1 := k1.left gc (by omega)
          have k2 := k2.left gc (by omega)
          have HS9 := slc_own o9 nk (nk : Int) (by omega) (by omega)
          have hHeld := (box6 k1).2.2.2.2.1
          refine hK.out _ _ (fun _ => hHeld) ?_
          clear hK K
          try simp only [Act.put, List.setIfInBounds_toArray, List.set_cons_zero, List.set_cons_succ]
          refine takeT (i := 15) (v := ?_) rfl (by kernel_rfl) (by kernel_rfl) (by decide) (by kernel_rfl) (by kernel_rfl) (fun _ _ _ h => h) (Or.inl ⟨by rfl, ?_⟩) hHeld ?_
          rotate_left
          · (intro wx hSw; (try dsimp only at hSw); go_simp; (first | done | (with_reducible rfl) | (simp only [h9', if_false, if_true]; done) | (simp only [h9', if_false, if_true]; with_reducible rfl) | skip))
          try simp only [Act.put, List.setIfInBounds_toArray, List.set_cons_zero, List.set_cons_succ]
          refine takeT (i := 16) (v := ?_) rfl (by kernel_rfl) (by kernel_rfl) (by decide) (by kernel_rfl) (by kernel_rfl) (fun _ _ _ h => h) (Or.inl ⟨by rfl, ?_⟩) hHeld ?_
          rotate_left
          · (intro wx hSw; (try dsimp only at hSw); go_simp; (first | done | (with_reducible rfl) | (simp only [h9', if_false, if_true]; done) | (simp only [h9', if_false, if_true]; with_reducible rfl) | skip))
          try simp only [Act.put, List.setIfInBounds_toArray, List.set_cons_zero, List.set_cons_succ]
          have y := k1.frozen 4
          refine oneT (i := 17) rfl (by kernel_rfl) (fun K hK => ?_)
          go_simp
          refine hK.out _ _ (fun h => absurd h (by decide)) ?_
          refine doneT (by kernel_rfl) ?_ _
          refine NoPanic.normal ?_
          go_wp2_with fail
          go_meet
          exact ⟨g9, c9, by rw [HMN.out]; exact k1.set_ 4 (.slice (some ⟨g9, 0, none⟩) nk c9), k2.far (by show _ ≠ w.heap.size; omega) _, by rw [HMN.out]; exact o9.kept (rdr_grown_set V4 w.heap.size 4 (.slice (some ⟨g9, 0, none⟩) nk c9)) (by omega), b.trans (below_grown (rdr_grown_set V4 w.heap.size 4 (.slice (some ⟨g9, 0, none⟩) nk c9)) (Nat.le_refl _) k1.lt)⟩
      · go_simp
        have o12 : Own (V0.alloc (.cells #[.int .u8 7] 5)) V0.heap.size (some ⟨V0.heap.size, 0, none⟩) 1 1 [7] := Own.litK V0 _ _ _ 1 [7] rfl (Nat.le_refl _) (by simp [maxLen]) rfl rfl
        have k1 := k1.alloc (.cells #[.int .u8 7] 5)
        have k2 := k2.alloc (.cells #[.int .u8 7] 5)
        have ba := below_a1' (Below.refl V0.heap.size V0) (.cells #[.int .u8 7] 5)
        have b := below_step b ba
        skip
        generalize hW : V0.alloc (.cells #[.int .u8 7] 5) = V1 at o12 k1 k2 b ba ⊢
        clear hW
        have hl12 := o12.base.2
        have hHeld := (box6 k1).2.2.2.2.1
        refine hK.out _ _ (fun _ => hHeld) ?_
        clear hK K
        try simp only [Act.put, List.setIfInBounds_toArray, List.set_cons_zero, List.set_cons_succ]
        refine oneT (i := 0) rfl (by kernel_rfl) (fun K hK => ?_)
        refine step_mkc8 _ rfl _ _ rfl V1.heap.size 600 _ rfl rfl rfl (by omega) (Nat.le_refl _) ?_
        intro V2 o3 b3
        have hg3 : w.heap.size + 2 ≤ V1.heap.size := k2.lt
        replace o3 := o3.more hg3
        have k1 := k1.step b3
        have k2 := k2.step b3
        have b := below_step b b3
        have o12 := o12.below b3
        have hl3 := o3.base.2
        have hHeld := (box6 k1).2.2.2.2.1
        refine hK.out _ _ (fun _ => hHeld) ?_
        clear hK K
        try simp only [Act.put, List.setIfInBounds_toArray, List.set_cons_zero, List.set_cons_succ]
        refine oneT (i := 8) rfl (by kernel_rfl) (fun K hK => ?_)
        refine step_app8g _ rfl _ _ rfl (w.heap.size + 2) V1.heap.size 0 600 [] rfl o3 w.heap.size X nk cx (lk.take nk) rfl (hX _ _ (rk.below b)) (by omega) k2.lt ?_
        intro g8 c8 V3 o8 gb hg8
        have h3 := o3.base
        simp only [Nat.zero_add, List.nil_append] at o8 ⊢
        have b := b.trans (below_grown gb (by omega) h3.2)
        have k1 := k1.left gb (by omega)
        have k2 := k2.left gb (by omega)
        have o12 := o12.left gb (by have := o12.base; have := o3.base; omega)
        have hHeld := (box6 k1).2.2.2.2.1
        refine hK.out _ _ (fun _ => hHeld) ?_
        clear hK K
        try simp only [Act.put, List.setIfInBounds_toArray, List.set_cons_zero, List.set_cons_succ]
        refine oneT (i := 10) rfl (by kernel_rfl) (fun K hK => ?_)
        refine step_app8g _ rfl _ _ rfl (w.heap.size + 2) g8 nk c8 _ rfl o8 _ (some ⟨V0.heap.size, 0, none⟩) 1 1 [7] rfl o12.rd (by omega) k2.lt ?_
        intro g9 c9 V4 o9 gc hg9
        have h8 := o8.base
        have b := b.trans (below_grown gc (by omega) h8.2)
        have k1 := k1.left gc (by omega)
        have k2 := k2.left gc (by omega)
        have HS9 := slc_own o9 nk (nk : Int) (by omega) (by omega)
        have hHeld := (box6 k1).2.2.2.2.1
        refine hK.out _ _ (fun _ => hHeld) ?_
        clear hK K
        try simp only [Act.put, List.setIfInBounds_toArray, List.set_cons_zero, List.set_cons_succ]
        refine takeT (i := 15) (v := ?_) rfl (by kernel_rfl) (by kernel_rfl) (by decide) (by kernel_rfl) (by kernel_rfl) (fun _ _ _ h => h) (Or.inl ⟨by rfl, ?_⟩) hHeld ?_
        rotate_left
        · (intro wx hSw; (try dsimp only at hSw); go_simp; (first | done | (with_reducible rfl) | (simp only [h9', if_false, if_true]; done) | (simp only [h9', if_false, if_true]; with_reducible rfl) | skip))
        try simp only [Act.put, List.setIfInBounds_toArray, List.set_cons_zero, List.set_cons_succ]
        refine takeT (i := 16) (v := ?_) rfl (by kernel_rfl) (by kernel_rfl) (by decide) (by kernel_rfl) (by kernel_rfl) (fun _ _ _ h => h) (Or.inl ⟨by rfl, ?_⟩) hHeld ?_
        rotate_left
        · (intro wx hSw; (try dsimp only at hSw); go_simp; (first | done | (with_reducible rfl) | (simp only [h9', if_false, if_true]; done) | (simp only [h9', if_false, if_true]; with_reducible rfl) | skip))
        try simp only [Act.put, List.setIfInBounds_toArray, List.set_cons_zero, List.set_cons_succ]
        have y := k1.frozen 4
        refine oneT (i := 17) rfl (by kernel_rfl) (fun K hK => ?_)
        go_simp
        refine hK.out _ _ (fun h => absurd h (by decide)) ?_
        refine doneT (by kernel_rfl) ?_ _
        refine NoPanic.normal ?_
        go_wp2_with fail
        go_meet
        exact ⟨g9, c9, by rw [HMN.out]; exact k1.set_ 4 (.slice (some ⟨g9, 0, none⟩) nk c9), k2.far (by show _ ≠ w.heap.size; omega) _, by rw [HMN.out]; exact o9.kept (rdr_grown_set V4 w.heap.size 4 (.slice (some ⟨g9, 0, none⟩) nk c9)) (by omega), b.trans (below_grown (rdr_grown_set V4 w.heap.size 4 (.slice (some ⟨g9, 0, none⟩) nk c9)) (Nat.le_refl _) k1.lt)⟩
    · have HMN := Lib.hid (show min nk 600 = 600 from by omega)
      obtain ⟨X, cx, HX, hX⟩ := slc_h rk 600 600 (by omega) (by omega)
      have h9' : ((600 : Int) < (nk : Int)) = True := eq_true (by omega)
      refine wp_region_noPanic ?_
      refine region_T (fun w' => w'.cell? ⟨w.heap.size, 4, none⟩ = some (.slice AK nk ck)) 17 (by kernel_rfl) ?_
      replace k1 : Blk W0.drew w.heap.size #[.int .i64 kind, .int .u32 (fl : Nat), .int .u32 (ex : Nat), .int .u64 (sq : Nat), .slice AK nk ck, .slice AV nv cv] 26 := k1
      replace k2 : Blk W0.drew (w.heap.size + 1) #[.int .i64 0, .int .u32 0, .int .u32 0, .int .u64 0, .slice none 0 0, .slice none 0 0] 26 := k2
      replace b : Below w.heap.size w W0.drew := b.drew
      have hHeld := (box6 k1).2.2.2.2.1
      generalize W0.drew = V0 at k1 k2 b hHeld ⊢
      refine takeT (i := 1) (v := ?_) rfl (by kernel_rfl) (by kernel_rfl) (by decide) (by kernel_rfl) (by kernel_rfl) (fun _ _ _ h => h) (Or.inl ⟨by rfl, ?_⟩) hHeld ?_
      rotate_left
      · (intro wx hSw; (try dsimp only at hSw); go_simp; (first | done | (with_reducible rfl) | (simp only [h9', if_false, if_true]; done) | (simp only [h9', if_false, if_true]; with_reducible rfl) | skip))
      try simp only [Act.put, List.setIfInBounds_toArray, List.set_cons_zero, List.set_cons_succ]
      refine takeT (i := 2) (v := ?_) rfl (by kernel_rfl) (by kernel_rfl) (by decide) (by kernel_rfl) (by kernel_rfl) (fun _ _ _ h => h) (Or.inl ⟨by rfl, ?_⟩) hHeld ?_
      rotate_left
      · (intro wx hSw; (try dsimp only at hSw); go_simp; (first | done | (with_reducible rfl) | (simp only [h9', if_false, if_true]; done) | (simp only [h9', if_false, if_true]; with_reducible rfl) | skip))
      try simp only [Act.put, List.setIfInBounds_toArray, List.set_cons_zero, List.set_cons_succ]
      refine takeT (i := 3) (v := ?_) rfl (by kernel_rfl) (by kernel_rfl) (by decide) (by kernel_rfl) (by kernel_rfl) (fun _ _ _ h => h) (Or.inl ⟨by rfl, ?_⟩) hHeld ?_
      rotate_left
      · (intro wx hSw; (try dsimp only at hSw); go_simp; (first | done | (with_reducible rfl) | (simp only [h9', if_false, if_true]; done) | (simp only [h9', if_false, if_true]; with_reducible rfl) | skip))
      try simp only [Act.put, List.setIfInBounds_toArray, List.set_cons_zero, List.set_cons_succ]
      refine takeT (i := 4) (v := ?_) rfl (by kernel_rfl) (by kernel_rfl) (by decide) (by kernel_rfl) (by kernel_rfl) (fun _ _ _ h => h) (Or.inl ⟨by rfl, ?_⟩) hHeld ?_
      rotate_left
      · (intro wx hSw; (try dsimp only at hSw); go_simp; (first | done | (with_reducible rfl) | (simp only [h9', if_false, if_true]; done) | (simp only [h9', if_false, if_true]; with_reducible rfl) | skip))
      try simp only [Act.put, List.setIfInBounds_toArray, List.set_cons_zero, List.set_cons_succ]
      refine takeT (i := 5) (v := ?_) rfl (by kernel_rfl) (by kernel_rfl) (by decide) (by kernel_rfl) (by kernel_rfl) (fun _ _ _ h => h) (Or.inl ⟨by rfl, ?_⟩) hHeld ?_
      rotate_left
      · (intro wx hSw; (try dsimp only at hSw); go_simp; (first | done | (with_reducible rfl) | (simp only [h9', if_false, if_true]; done) | (simp only [h9', if_false, if_true]; with_reducible rfl) | skip))
      try simp only [Act.put, List.setIfInBounds_toArray, List.set_cons_zero, List.set_cons_succ]
      refine takeT (i := 6) (v := ?_) rfl (by kernel_rfl) (by kernel_rfl) (by decide) (by kernel_rfl) (by kernel_rfl) (fun _ _ _ h => h) (Or.inl ⟨by rfl, ?_⟩) hHeld ?_
      rotate_left
      · (intro wx hSw; (try dsimp only at hSw); go_simp; (first | done | (with_reducible rfl) | (simp only [h9', if_false, if_true]; done) | (simp only [h9', if_false, if_true]; with_reducible rfl) | skip))
      try simp only [Act.put, List.setIfInBounds_toArray, List.set_cons_zero, List.set_cons_succ]
      refine takeT (i := 7) (v := ?_) rfl (by kernel_rfl) (by kernel_rfl) (by decide) (by kernel_rfl) (by kernel_rfl) (fun _ _ _ h => h) (Or.inl ⟨by rfl, ?_⟩) hHeld ?_
      rotate_left
      · (intro wx hSw; (try dsimp only at hSw); go_simp; (first | done | (with_reducible rfl) | (simp only [h9', if_false, if_true]; done) | (simp only [h9', if_false, if_true]; with_reducible rfl) | skip))
      try simp only [Act.put, List.setIfInBounds_toArray, List.set_cons_zero, List.set_cons_succ]
      refine takeT (i := 11) (v := ?_) rfl (by kernel_rfl) (by kernel_rfl) (by decide) (by kernel_rfl) (by kernel_rfl) (fun _ _ _ h => h) (Or.inl ⟨by rfl, ?_⟩) hHeld ?_
      rotate_left
      · (intro wx hSw; (try dsimp only at hSw); go_simp; (first | done | (with_reducible rfl) | (simp only [h9', if_false, if_true]; done) | (simp only [h9', if_false, if_true]; with_reducible rfl) | skip))
      try simp only [Act.put, List.setIfInBounds_toArray, List.set_cons_zero, List.set_cons_succ]
      refine takeT (i := 12) (v := ?_) rfl (by kernel_rfl) (by kernel_rfl) (by decide) (by kernel_rfl) (by kernel_rfl) (fun _ _ _ h => h) (Or.inl ⟨by rfl, ?_⟩) hHeld ?_
      rotate_left
      · (intro wx hSw; (try dsimp only at hSw); go_simp; (first | done | (with_reducible rfl) | (simp only [h9', if_false, if_true]; done) | (simp only [h9', if_false, if_true]; with_reducible rfl) | skip))
      try simp only [Act.put, List.setIfInBounds_toArray, List.set_cons_zero, List.set_cons_succ]
      refine takeT (i := 13) (v := ?_) rfl (by kernel_rfl) (by kernel_rfl) (by decide) (by kernel_rfl) (by kernel_rfl) (fun _ _ _ h => h) (Or.inl ⟨by rfl, ?_⟩) hHeld ?_
      rotate_left
      · (intro wx hSw; (try dsimp only at hSw); go_simp; (first | done | (with_reducible rfl) | (simp only [h9', if_false, if_true]; done) | (simp only [h9', if_false, if_true]; with_reducible rfl) | skip))
      try simp only [Act.put, List.setIfInBounds_toArray, List.set_cons_zero, List.set_cons_succ]
      refine takeT (i := 14) (v := ?_) rfl (by kernel_rfl) (by kernel_rfl) (by decide) (by kernel_rfl) (by kernel_rfl) (fun _ _ _ h => h) (Or.inl ⟨by rfl, ?_⟩) hHeld ?_
      rotate_left
      · (intro wx hSw; (try dsimp only at hSw); go_simp; (first | done | (with_reducible rfl) | (simp only [h9', if_false, if_true]; done) | (simp only [h9', if_false, if_true]; with_reducible rfl) | skip))
      try simp only [Act.put, List.setIfInBounds_toArray, List.set_cons_zero, List.set_cons_succ]
      refine twoT (i := 0) (j := 9) rfl rfl (by kernel_rfl) (fun K hK => ?_) (fun K hK => ?_)
      · refine step_mkc8 _ rfl _ _ rfl V0.heap.size 600 _ rfl rfl rfl (by omega) (Nat.le_refl _) ?_
        intro V1 o3 b3
        have hg3 : w.heap.size + 2 ≤ V0.heap.size := k2.lt
        replace o3 := o3.more hg3
        have k1 := k1.step b3
        have k2 := k2.step b3
        have b := below_step b b3
        have hl3 := o3.base.2
        have hHeld := (box6 k1).2.2.2.2.1
        refine hK.out _ _ (fun _ => hHeld) ?_
        clear hK K
        try simp only [Act.put, List.setIfInBounds_toArray, List.set_cons_zero, List.set_cons_succ]
        refine twoT (i := 8) (j := 9) rfl rfl (by kernel_rfl) (fun K hK => ?_) (fun K hK => ?_)
        · refine step_app8g _ rfl _ _ rfl (w.heap.size + 2) V0.heap.size 0 600 [] rfl o3 w.heap.size X 600 cx (lk.take 600) rfl (hX _ _ (rk.below b)) (by omega) k2.lt ?_
          intro g8 c8 V2 o8 gb hg8
          have h3 := o3.base
          simp only [Nat.zero_add, List.nil_append] at o8 ⊢
          have b := b.trans (below_grown gb (by omega) h3.2)
          have k1 := k1.left gb (by omega)
          have k2 := k2.left gb (by omega)
          have hHeld := (box6 k1).2.2.2.2.1
          refine hK.out _ _ (fun _ => hHeld) ?_
          clear hK K
          try simp only [Act.put, List.setIfInBounds_toArray, List.set_cons_zero, List.set_cons_succ]
          refine oneT (i := 9) rfl (by kernel_rfl) (fun K hK => ?_)
          go_simp
          have o12 : Own (V2.alloc (.cells #[.int .u8 7] 5)) V2.heap.size (some ⟨V2.heap.size, 0, none⟩) 1 1 [7] := Own.litK V2 _ _ _ 1 [7] rfl (Nat.le_refl _) (by simp [maxLen]) rfl rfl
          have k1 := k1.alloc (.cells #[.int .u8 7] 5)
          have k2 := k2.alloc (.cells #[.int .u8 7] 5)
          have ba := below_a1' (Below.refl V2.heap.size V2) (.cells #[.int .u8 7] 5)
          have b := below_step b ba
          skip
          have o8 := o8.below ba
          generalize hW : V2.alloc (.cells #[.int .u8 7] 5) = V3 at o12 k1 k2 b ba o8 ⊢
          clear hW
          have hl12 := o12.base.2
          have hHeld := (box6 k1).2.2.2.2.1
          refine hK.out _ _ (fun _ => hHeld) ?_
          clear hK K
          try simp only [Act.put, List.setIfInBounds_toArray, List.set_cons_zero, List.set_cons_succ]
          refine oneT (i := 10) rfl (by kernel_rfl) (fun K hK => ?_)
          refine step_app8g _ rfl _ _ rfl (w.heap.size + 2) g8 600 c8 _ rfl o8 _ (some ⟨V2.heap.size, 0, none⟩) 1 1 [7] rfl o12.rd (by omega) k2.lt ?_
          intro g9 c9 V4 o9 gc hg9
          have h8 := o8.base
          have b := b.trans (below_grown gc (by omega) h8.2)
          have k1 := k1.left gc (by omega)
          have k2 := k2.left gc (by omega)
          have HS9 := slc_own o9 600 600 (by omega) (by omega)
          have hHeld := (box6 k1).2.2.2.2.1
          refine hK.out _ _ (fun _ => hHeld) ?_
          clear hK K
          try simp only [Act.put, List.setIfInBounds_toArray, List.set_cons_zero, List.set_cons_succ]
          refine takeT (i := 15) (v := ?_) rfl (by kernel_rfl) (by kernel_rfl) (by decide) (by kernel_rfl) (by kernel_rfl) (fun _ _ _ h => h) (Or.inl ⟨by rfl, ?_⟩) hHeld ?_
          rotate_left
          · (intro wx hSw; (try dsimp only at hSw); go_simp; (first | done | (with_reducible rfl) | (simp only [h9', if_false, if_true]; done) | (simp only [h9', if_false, if_true]; with_reducible rfl) | skip))
          try simp only [Act.put, List.setIfInBounds_toArray, List.set_cons_zero, List.set_cons_succ]
          refine takeT (i := 16) (v := ?_) rfl (by kernel_rfl) (by kernel_rfl) (by decide) (by kernel_rfl) (by kernel_rfl) (fun _ _ _ h => h) (Or.inl ⟨by rfl, ?_⟩) hHeld ?_
          rotate_left
          · (intro wx hSw; (try dsimp only at hSw); go_simp; (first | done | (with_reducible rfl) | (simp only [h9', if_false, if_true]; done) | (simp only [h9', if_false, if_true]; with_reducible rfl) | skip))
          try simp only [Act.put, List.setIfInBounds_toArray, List.set_cons_zero, List.set_cons_succ]
          have y := k1.frozen 4
          refine oneT (i := 17) rfl (by kernel_rfl) (fun K hK => ?_)
          go_simp
          refine hK.out _ _ (fun h => absurd h (by decide)) ?_
          refine doneT (by kernel_rfl) ?_ _
          refine NoPanic.normal ?_
          go_wp2_with fail
          go_meet
          exact ⟨g9, c9, by rw [HMN.out]; exact k1.set_ 4 (.slice (some ⟨g9, 0, none⟩) 600 c9), k2.far (by show _ ≠ w.heap.size; omega) _, by rw [HMN.out]; exact o9.kept (rdr_grown_set V4 w.heap.size 4 (.slice (some ⟨g9, 0, none⟩) 600 c9)) (by omega), b.trans (below_grown (rdr_grown_set V4 w.heap.size 4 (.slice (some ⟨g9, 0, none⟩) 600 c9)) (Nat.le_refl _) k1.lt)⟩
        · go_simp
          have o12 : Own (V1.alloc (.cells #[.int .u8 7] 5)) V1.heap.size (some ⟨V1.heap.size, 0, none⟩) 1 1 [7] := Own.litK V1 _ _ _ 1 [7] rfl (Nat.le_refl _) (by simp [maxLen]) rfl rfl
          have k1 := k1.alloc (.cells #[.int .u8 7] 5)
          have k2 := k2.alloc (.cells #[.int .u8 7] 5)
          have ba := below_a1' (Below.refl V1.heap.size V1) (.cells #[.int .u8 7] 5)
          have b := below_step b ba
          skip
          have o3 := o3.below ba
          generalize hW : V1.alloc (.cells #[.int .u8 7] 5) = V2 at o12 k1 k2 b ba o3 ⊢
          clear hW
          have hl12 := o12.base.2
          have hHeld := (box6 k1).2.2.2.2.1
          refine hK.out _ _ (fun _ => hHeld) ?_
          clear hK K
          try simp only [Act.put, List.setIfInBounds_toArray, List.set_cons_zero, List.set_cons_succ]
          refine oneT (i := 8) rfl (by kernel_rfl) (fun K hK => ?_)
          refine step_app8g _ rfl _ _ rfl (w.heap.size + 2) V0.heap.size 0 600 [] rfl o3 w.heap.size X 600 cx (lk.take 600) rfl (hX _ _ (rk.below b)) (by omega) k2.lt ?_
          intro g8 c8 V3 o8 gb hg8
          have h3 := o3.base
          simp only [Nat.zero_add, List.nil_append] at o8 ⊢
          have b := b.trans (below_grown gb (by omega) h3.2)
          have k1 := k1.left gb (by omega)
          have k2 := k2.left gb (by omega)
          have o12 := o12.left gb (by have := o12.base; have := o3.base; omega)
          have hHeld := (box6 k1).2.2.2.2.1
          refine hK.out _ _ (fun _ => hHeld) ?_
          clear hK K
          try simp only [Act.put, List.setIfInBounds_toArray, List.set_cons_zero, List.set_cons_succ]
          refine oneT (i := 10) rfl (by kernel_rfl) (fun K hK => ?_)
          refine step_app8g _ rfl _ _ rfl (w.heap.size + 2) g8 600 c8 _ rfl o8 _ (some ⟨V1.heap.size, 0, none⟩) 1 1 [7] rfl o12.rd (by omega) k2.lt ?_
          intro g9 c9 V4 o9 gc hg9
          have h8 := o8.base
          have b := b.trans (below_grown gc (by omega) h8.2)
          have k1 := k1.left gc (by omega)
          have k2 := k2.left gc (by omega)
          have HS9 := slc_own o9 600 600 (by omega) (by omega)
          have hHeld := (box6 k1).2.2.2.2.1
          refine hK.out _ _ (fun _ => hHeld) ?_
          clear hK K
          try simp only [Act.put, List.setIfInBounds_toArray, List.set_cons_zero, List.set_cons_succ]
          refine takeT (i := 15) (v := ?_) rfl (by kernel_rfl) (by kernel_rfl) (by decide) (by kernel_rfl) (by kernel_rfl) (fun _ _ _ h => h) (Or.inl ⟨by rfl, ?_⟩) hHeld ?_
          rotate_left
          · (intro wx hSw; (try dsimp only at hSw); go_simp; (first | done | (with_reducible rfl) | (simp only [h9', if_false, if_true]; done) | (simp only [h9', if_false, if_true]; with_reducible rfl) | skip))
          try simp only [Act.put, List.setIfInBounds_toArray, List.set_cons_zero, List.set_cons_succ]
          refine takeT (i := 16) (v := ?_) rfl (by kernel_rfl) (by kernel_rfl) (by decide) (by kernel_rfl) (by kernel_rfl) (fun _ _ _ h => h) (Or.inl ⟨by rfl, ?_⟩) hHeld ?_
          rotate_left
          · (intro wx hSw; (try dsimp only at hSw); go_simp; (first | done | (with_reducible rfl) | (simp only [h9', if_false, if_true]; done) | (simp only [h9', if_false, if_true]; with_reducible rfl) | skip))
          try simp only [Act.put, List.setIfInBounds_toArray, List.set_cons_zero, List.set_cons_succ]
          have y := k1.frozen 4
          refine oneT (i := 17) rfl (by kernel_rfl) (fun K hK => ?_)
          go_simp
          refine hK.out _ _ (fun h => absurd h (by decide)) ?_
          refine doneT (by kernel_rfl) ?_ _
          refine NoPanic.normal ?_
          go_wp2_with fail
          go_meet
          exact ⟨g9, c9, by rw [HMN.out]; exact k1.set_ 4 (.slice (some ⟨g9, 0, none⟩) 600 c9), k2.far (by show _ ≠ w.heap.size; omega) _, by rw [HMN.out]; exact o9.kept (rdr_grown_set V4 w.heap.size 4 (.slice (some ⟨g9, 0, none⟩) 600 c9)) (by omega), b.trans (below_grown (rdr_grown_set V4 w.heap.size 4 (.slice (some ⟨g9, 0, none⟩) 600 c9)) (Nat.le_refl _) k1.lt)⟩
      · go_simp
        have o12 : Own (V0.alloc (.cells #[.int .u8 7] 5)) V0.heap.size (some ⟨V0.heap.size, 0, none⟩) 1 1 [7] := Own.litK V0 _ _ _ 1 [7] rfl (Nat.le_refl _) (by simp [maxLen]) rfl rfl
        have k1 := k1.alloc (.cells #[.int .u8 7] 5)
        have k2 := k2.alloc (.cells #[.int .u8 7] 5)
        have ba := below_a1' (Below.refl V0.heap.size V0) (.cells #[.int .u8 7] 5)
        have b := below_step b ba
        skip
        generalize hW : V0.alloc (.cells #[.int .u8 7] 5) = V1 at o12 k1 k2 b ba ⊢
        clear hW
        have hl12 := o12.base.2
        have hHeld := (box6 k1).2.2.2.2.1
        refine hK.out _ _ (fun _ => hHeld) ?_
        clear hK K
        try simp only [Act.put, List.setIfInBounds_toArray, List.set_cons_zero, List.set_cons_succ]
        refine oneT (i := 0) rfl (by kernel_rfl) (fun K hK => ?_)
        refine step_mkc8 _ rfl _ _ rfl V1.heap.size 600 _ rfl rfl rfl (by omega) (Nat.le_refl _) ?_
        intro V2 o3 b3
        have hg3 : w.heap.size + 2 ≤ V1.heap.size := k2.lt
        replace o3 := o3.more hg3
        have k1 := k1.step b3
        have k2 := k2.step b3
        have b := below_step b b3
        have o12 := o12.below b3
        have hl3 := o3.base.2
        have hHeld := (box6 k1).2.2.2.2.1
        refine hK.out _ _ (fun _ => hHeld) ?_
        clear hK K
        try simp only [Act.put, List.setIfInBounds_toArray, List.set_cons_zero, List.set_cons_succ]
        refine oneT (i := 8) rfl (by kernel_rfl) (fun K hK => ?_)
        refine step_app8g _ rfl _ _ rfl (w.heap.size + 2) V1.heap.size 0 600 [] rfl o3 w.heap.size X 600 cx (lk.take 600) rfl (hX _ _ (rk.below b)) (by omega) k2.lt ?_
        intro g8 c8 V3 o8 gb hg8
        have h3 := o3.base
        simp only [Nat.zero_add, List.nil_append] at o8 ⊢
        have b := b.trans (below_grown gb (by omega) h3.2)
        have k1 := k1.left gb (by omega)
        have k2 := k2.left gb (by omega)
        have o12 := o12.left gb (by have := o12.base; have := o3.base; omega)
        have hHeld := (box6 k1).2.2.2.2.1
        refine hK.out _ _ (fun _ => hHeld) ?_
        clear hK K
        try simp only [Act.put, List.setIfInBounds_toArray, List.set_cons_zero, List.set_cons_succ]
        refine oneT (i := 10) rfl (by kernel_rfl) (fun K hK => ?_)
        refine step_app8g _ rfl _ _ rfl (w.heap.size + 2) g8 600 c8 _ rfl o8 _ (some ⟨V0.heap.size, 0, none⟩) 1 1 [7] rfl o12.rd (by omega) k2.lt ?_
        intro g9 c9 V4 o9 gc hg9
        have h8 := o8.base
        have b := b.trans (below_grown gc (by omega) h8.2)
        have k1 := k1.left gc (by omega)
        have k2 := k2.left gc (by omega)
        have HS9 := slc_own o9 600 600 (by omega) (by omega)
        have hHeld := (box6 k1).2.2.2.2.1
        refine hK.out _ _ (fun _ => hHeld) ?_
        clear hK K
        try simp only [Act.put, List.setIfInBounds_toArray, List.set_cons_zero, List.set_cons_succ]
        refine takeT (i := 15) (v := ?_) rfl (by kernel_rfl) (by kernel_rfl) (by decide) (by kernel_rfl) (by kernel_rfl) (fun _ _ _ h => h) (Or.inl ⟨by rfl, ?_⟩) hHeld ?_
        rotate_left
        · (intro wx hSw; (try dsimp only at hSw); go_simp; (first | done | (with_reducible rfl) | (simp only [h9', if_false, if_true]; done) | (simp only [h9', if_false, if_true]; with_reducible rfl) | skip))
        try simp only [Act.put, List.setIfInBounds_toArray, List.set_cons_zero, List.set_cons_succ]
        refine takeT (i := 16) (v := ?_) rfl (by kernel_rfl) (by kernel_rfl) (by decide) (by kernel_rfl) (by kernel_rfl) (fun _ _ _ h => h) (Or.inl ⟨by rfl, ?_⟩) hHeld ?_
        rotate_left
        · (intro wx hSw; (try dsimp only at hSw); go_simp; (first | done | (with_reducible rfl) | (simp only [h9', if_false, if_true]; done) | (simp only [h9', if_false, if_true]; with_reducible rfl) | skip))
        try simp only [Act.put, List.setIfInBounds_toArray, List.set_cons_zero, List.set_cons_succ]
        have y := k1.frozen 4
        refine oneT (i := 17) rfl (by kernel_rfl) (fun K hK => ?_)
        go_simp
        refine hK.out _ _ (fun h => absurd h (by decide)) ?_
        refine doneT (by kernel_rfl) ?_ _
        refine NoPanic.normal ?_
        go_wp2_with fail
        go_meet
        exact ⟨g9, c9, by rw [HMN.out]; exact k1.set_ 4 (.slice (some ⟨g9, 0, none⟩) 600 c9), k2.far (by show _ ≠ w.heap.size; omega) _, by rw [HMN.out]; exact o9.kept (rdr_grown_set V4 w.heap.size 4 (.slice (some ⟨g9, 0, none⟩) 600 c9)) (by omega), b.trans (below_grown (rdr_grown_set V4 w.heap.size 4 (.slice (some ⟨g9, 0, none⟩) 600 c9)) (Nat.le_refl _) k1.lt)⟩
  case rest =>
    obtain ⟨g1, c1, k1, k2, oP, b⟩ := hcut
    go_upto_region 2 with fail
    go_cut [] (fun wx => ShoS kind fl ex sq nk nv g1 c1 lk lv w wx)
    case first =>
      by_cases h9 : nv ≤ 600
      · have HMN := Lib.hid (show min nv 600 = nv from by omega)
        obtain ⟨X, cx, HX, hX⟩ := slc_h rv nv (nv : Int) (by omega) (by omega)
        have h9' : ((600 : Int) < (nv : Int)) = False := eq_false (by omega)
        refine wp_region_noPanic ?_
        refine region_T (fun w' => w'.cell? ⟨w.heap.size, 5, none⟩ = some (.slice AV nv cv)) 17 (by kernel_rfl) ?_
        replace k1 : Blk wc.drew w.heap.size #[.int .i64 kind, .int .u32 (fl : Nat), .int .u32 (ex : Nat), .int .u64 (sq : Nat), .slice (some ⟨g1, 0, none⟩) (min nk 600) c1, .slice AV nv cv] 26 := k1
        replace k2 : Blk wc.drew (w.heap.size + 1) #[.int .i64 0, .int .u32 0, .int .u32 0, .int .u64 0, .slice none 0 0, .slice none 0 0] 26 := k2
        replace b : Below w.heap.size w wc.drew := b.drew
        replace oP : Own wc.drew (w.heap.size + 2) (some ⟨g1, 0, none⟩) (min nk 600 + 1) c1 (lk.take (min nk 600) ++ [7]) := oP
        have hHeld := (box6 k1).2.2.2.2.2
        generalize wc.drew = V0 at k1 k2 b hHeld oP ⊢
        have hP := oP.base
        refine takeT (i := 1) (v := ?_) rfl (by kernel_rfl) (by kernel_rfl) (by decide) (by kernel_rfl) (by kernel_rfl) (fun _ _ _ h => h) (Or.inl ⟨by rfl, ?_⟩) hHeld ?_
        rotate_left
        · (intro wx hSw; (try dsimp only at hSw); go_simp; (first | done | (with_reducible rfl) | (simp only [h9', if_false, if_true]; done) | (simp only [h9', if_false, if_true]; with_reducible rfl) | skip))
        try simp only [Act.put, List.setIfInBounds_toArray, List.set_cons_zero, List.set_cons_succ]
        refine takeT (i := 2) (v := ?_) rfl (by kernel_rfl) (by kernel_rfl) (by decide) (by kernel_rfl) (by kernel_rfl) (fun _ _ _ h => h) (Or.inl ⟨by rfl, ?_⟩) hHeld ?_
        rotate_left
        · (intro wx hSw; (try dsimp only at hSw); go_simp; (first | done | (with_reducible rfl) | (simp only [h9', if_false, if_true]; done) | (simp only [h9', if_false, if_true]; with_reducible rfl) | skip))
        try simp only [Act.put, List.setIfInBounds_toArray, List.set_cons_zero, List.set_cons_succ]
        refine takeT (i := 3) (v := ?_) rfl (by kernel_rfl) (by kernel_rfl) (by decide) (by kernel_rfl) (by kernel_rfl) (fun _ _ _ h => h) (Or.inl ⟨by rfl, ?_⟩) hHeld ?_
        rotate_left
        · (intro wx hSw; (try dsimp only at hSw); go_simp; (first | done | (with_reducible rfl) | (simp only [h9', if_false, if_true]; done) | (simp only [h9', if_false, if_true]; with_reducible rfl) | skip))
        try simp only [Act.put, List.setIfInBounds_toArray, List.set_cons_zero, List.set_cons_succ]
        refine takeT (i := 4) (v := ?_) rfl (by kernel_rfl) (by kernel_rfl) (by decide) (by kernel_rfl) (by kernel_rfl) (fun _ _ _ h => h) (Or.inl ⟨by rfl, ?_⟩) hHeld ?_
        rotate_left
        · (intro wx hSw; (try dsimp only at hSw); go_simp; (first | done | (with_reducible rfl) | (simp only [h9', if_false, if_true]; done) | (simp only [h9', if_false, if_true]; with_reducible rfl) | skip))
        try simp only [Act.put, List.setIfInBounds_toArray, List.set_cons_zero, List.set_cons_succ]
        refine takeT (i := 5) (v := ?_) rfl (by kernel_rfl) (by kernel_rfl) (by decide) (by kernel_rfl) (by kernel_rfl) (fun _ _ _ h => h) (Or.inl ⟨by rfl, ?_⟩) hHeld ?_
        rotate_left
        · (intro wx hSw; (try dsimp only at hSw); go_simp; (first | done | (with_reducible rfl) | (simp only [h9', if_false, if_true]; done) | (simp only [h9', if_false, if_true]; with_reducible rfl) | skip))
        try simp only [Act.put, List.setIfInBounds_toArray, List.set_cons_zero, List.set_cons_succ]
        refine takeT (i := 6) (v := ?_) rfl (by kernel_rfl) (by kernel_rfl) (by decide) (by kernel_rfl) (by kernel_rfl) (fun _ _ _ h => h) (Or.inl ⟨by rfl, ?_⟩) hHeld ?_
        rotate_left
        · (intro wx hSw; (try dsimp only at hSw); go_simp; (first | done | (with_reducible rfl) | (simp only [h9', if_false, if_true]; done) | (simp only [h9', if_false, if_true]; with_reducible rfl) | skip))
        try simp only [Act.put, List.setIfInBounds_toArray, List.set_cons_zero, List.set_cons_succ]
        refine takeT (i := 7) (v := ?_) rfl (by kernel_rfl) (by kernel_rfl) (by decide) (by kernel_rfl) (by kernel_rfl) (fun _ _ _ h => h) (Or.inl ⟨by rfl, ?_⟩) hHeld ?_
        rotate_left
        · (intro wx hSw; (try dsimp only at hSw); go_simp; (first | done | (with_reducible rfl) | (simp only [h9', if_false, if_true]; done) | (simp only [h9', if_false, if_true]; with_reducible rfl) | skip))
        try simp only [Act.put, List.setIfInBounds_toArray, List.set_cons_zero, List.set_cons_succ]
        refine takeT (i := 11) (v := ?_) rfl (by kernel_rfl) (by kernel_rfl) (by decide) (by kernel_rfl) (by kernel_rfl) (fun _ _ _ h => h) (Or.inl ⟨by rfl, ?_⟩) hHeld ?_
        rotate_left
        · (intro wx hSw; (try dsimp only at hSw); go_simp; (first | done | (with_reducible rfl) | (simp only [h9', if_false, if_true]; done) | (simp only [h9', if_false, if_true]; with_reducible rfl) | skip))
        try simp only [Act.put, List.setIfInBounds_toArray, List.set_cons_zero, List.set_cons_succ]
        refine takeT (i := 12) (v := ?_) rfl (by kernel_rfl) (by kernel_rfl) (by decide) (by kernel_rfl) (by kernel_rfl) (fun _ _ _ h => h) (Or.inl ⟨by rfl, ?_⟩) hHeld ?_
        rotate_left
        · (intro wx hSw; (try dsimp only at hSw); go_simp; (first | done | (with_reducible rfl) | (simp only [h9', if_false, if_true]; done) | (simp only [h9', if_false, if_true]; with_reducible rfl) | skip))
        try simp only [Act.put, List.setIfInBounds_toArray, List.set_cons_zero, List.set_cons_succ]
        refine takeT (i := 13) (v := ?_) rfl (by kernel_rfl) (by kernel_rfl) (by decide) (by kernel_rfl) (by kernel_rfl) (fun _ _ _ h => h) (Or.inl ⟨by rfl, ?_⟩) hHeld ?_
        rotate_left
        · (intro wx hSw; (try dsimp only at hSw); go_simp; (first | done | (with_reducible rfl) | (simp only [h9', if_false, if_true]; done) | (simp only [h9', if_false, if_true]; with_reducible rfl) | skip))
        try simp only [Act.put, List.setIfInBounds_toArray, List.set_cons_zero, List.set_cons_succ]
        refine takeT (i := 14) (v := ?_) rfl (by kernel_rfl) (by kernel_rfl) (by decide) (by kernel_rfl) (by kernel_rfl) (fun _ _ _ h => h) (Or.inl ⟨by rfl, ?_⟩) hHeld ?_
        rotate_left
        · (intro wx hSw; (try dsimp only at hSw); go_simp; (first | done | (with_reducible rfl) | (simp only [h9', if_false, if_true]; done) | (simp only [h9', if_false, if_true]; with_reducible rfl) | skip))
        try simp only [Act.put, List.setIfInBounds_toArray, List.set_cons_zero, List.set_cons_succ]
        refine twoT (i := 0) (j := 9) rfl rfl (by kernel_rfl) (fun K hK => ?_) (fun K hK => ?_)
        · refine step_mkc8 _ rfl _ _ rfl V0.heap.size 600 _ rfl rfl rfl (by omega) (Nat.le_refl _) ?_
          intro V1 o3 b3
          have hg3 : w.heap.size + 2 ≤ V0.heap.size := k2.lt
          replace o3 := o3.more hg3
          have k1 := k1.step b3
          have k2 := k2.step b3
          have b := below_step b b3
          have oP := oP.below b3
          have hl3 := o3.base.2
          have hHeld := (box6 k1).2.2.2.2.2
          refine hK.out _ _ (fun _ => hHeld) ?_
          clear hK K
          try simp only [Act.put, List.setIfInBounds_toArray, List.set_cons_zero, List.set_cons_succ]
          refine twoT (i := 8) (j := 9) rfl rfl (by kernel_rfl) (fun K hK => ?_) (fun K hK => ?_)
          · refine step_app8g _ rfl _ _ rfl (w.heap.size + 2) V0.heap.size 0 600 [] rfl o3 w.heap.size X nv cx (lv.take nv) rfl (hX _ _ (rv.below b)) (by omega) k2.lt ?_
            intro g8 c8 V2 o8 gb hg8
            have h3 := o3.base
            simp only [Nat.zero_add, List.nil_append] at o8 ⊢
            have b := b.trans (below_grown gb (by omega) h3.2)
            have k1 := k1.left gb (by omega)
            have k2 := k2.left gb (by omega)
            have hP3 : g1 ≠ V0.heap.size := by omega
            have oP := oP.left gb hP3
            have hHeld := (box6 k1).2.2.2.2.2
            refine hK.out _ _ (fun _ => hHeld) ?_
            clear hK K
            try simp only [Act.put, List.setIfInBounds_toArray, List.set_cons_zero, List.set_cons_succ]
            refine oneT (i := 9) rfl (by kernel_rfl) (fun K hK => ?_)
            go_simp
            have o12 : Own (V2.alloc (.cells #[.int .u8 7] 5)) V2.heap.size (some ⟨V2.heap.size, 0, none⟩) 1 1 [7] := Own.litK V2 _ _ _ 1 [7] rfl (Nat.le_refl _) (by simp [maxLen]) rfl rfl
            have k1 := k1.alloc (.cells #[.int .u8 7] 5)
            have k2 := k2.alloc (.cells #[.int .u8 7] 5)
            have ba := below_a1' (Below.refl V2.heap.size V2) (.cells #[.int .u8 7] 5)
            have b := below_step b ba
            skip
            have oP := oP.below ba
            have o8 := o8.below ba
            generalize hW : V2.alloc (.cells #[.int .u8 7] 5) = V3 at o12 k1 k2 b ba oP o8 ⊢
            clear hW
            have hl12 := o12.base.2
            have hHeld := (box6 k1).2.2.2.2.2
            refine hK.out _ _ (fun _ => hHeld) ?_
            clear hK K
            try simp only [Act.put, List.setIfInBounds_toArray, List.set_cons_zero, List.set_cons_succ]
            refine oneT (i := 10) rfl (by kernel_rfl) (fun K hK => ?_)
            refine step_app8g _ rfl _ _ rfl (w.heap.size + 2) g8 nv c8 _ rfl o8 _ (some ⟨V2.heap.size, 0, none⟩) 1 1 [7] rfl o12.rd (by omega) k2.lt ?_
            intro g9 c9 V4 o9 gc hg9
            have h8 := o8.base
            have b := b.trans (below_grown gc (by omega) h8.2)
            have k1 := k1.left gc (by omega)
            have k2 := k2.left gc (by omega)
            have hP8 : g1 ≠ g8 := by omega
            have oP := oP.left gc hP8
            have hP9 : g1 ≠ g9 := by have := oP.base; omega
            have HS9 := slc_own o9 nv (nv : Int) (by omega) (by omega)
            have hHeld := (box6 k1).2.2.2.2.2
            refine hK.out _ _ (fun _ => hHeld) ?_
            clear hK K
            try simp only [Act.put, List.setIfInBounds_toArray, List.set_cons_zero, List.set_cons_succ]
            refine takeT (i := 15) (v := ?_) rfl (by kernel_rfl) (by kernel_rfl) (by decide) (by kernel_rfl) (by kernel_rfl) (fun _ _ _ h => h) (Or.inl ⟨by rfl, ?_⟩) hHeld ?_
            rotate_left
            · (intro wx hSw; (try dsimp only at hSw); go_simp; (first | done | (with_reducible rfl) | (simp only [h9', if_false, if_true]; done) | (simp only [h9', if_false, if_true]; with_reducible rfl) | skip))
            try simp only [Act.put, List.setIfInBounds_toArray, List.set_cons_zero, List.set_cons_succ]
            refine takeT (i := 16) (v := ?_) rfl (by kernel_rfl) (by kernel_rfl) (by decide) (by kernel_rfl) (by kernel_rfl) (fun _ _ _ h => h) (Or.inl ⟨by rfl, ?_⟩) hHeld ?_
            rotate_left
            · (intro wx hSw; (try dsimp only at hSw); go_simp; (first | done | (with_reducible rfl) | (simp only [h9', if_false, if_true]; done) | (simp only [h9', if_false, if_true]; with_reducible rfl) | skip))
            try simp only [Act.put, List.setIfInBounds_toArray, List.set_cons_zero, List.set_cons_succ]
            have y := k1.frozen 5
            refine oneT (i := 17) rfl (by kernel_rfl) (fun K hK => ?_)
            go_simp
            refine hK.out _ _ (fun h => absurd h (by decide)) ?_
            refine doneT (by kernel_rfl) ?_ _
            refine NoPanic.normal ?_
            go_wp2_with fail
            go_meet
            exact ⟨g9, c9, hP9, by rw [HMN.out]; exact k1.set_ 5 (.slice (some ⟨g9, 0, none⟩) nv c9), k2.far (by show _ ≠ w.heap.size; omega) _, oP.kept (rdr_grown_set V4 w.heap.size 5 (.slice (some ⟨g9, 0, none⟩) nv c9)) (by omega), by rw [HMN.out]; exact o9.kept (rdr_grown_set V4 w.heap.size 5 (.slice (some ⟨g9, 0, none⟩) nv c9)) (by omega), b.trans (below_grown (rdr_grown_set V4 w.heap.size 5 (.slice (some ⟨g9, 0, none⟩) nv c9)) (Nat.le_refl _) k1.lt)⟩
          · go_simp
            have o12 : Own (V1.alloc (.cells #[.int .u8 7] 5)) V1.heap.size (some ⟨V1.heap.size, 0, none⟩) 1 1 [7] := Own.litK V1 _ _ _ 1 [7] rfl (Nat.le_refl _) (by simp [maxLen]) rfl rfl
            have k1 := k1.alloc (.cells #[.int .u8 7] 5)
            have k2 := k2.alloc (.cells #[.int .u8 7] 5)
            have ba := below_a1' (Below.refl V1.heap.size V1) (.cells #[.int .u8 7] 5)
            have b := below_step b ba
            skip
            have oP := oP.below ba
            have o3 := o3.below ba
            generalize hW : V1.alloc (.cells #[.int .u8 7] 5) = V2 at o12 k1 k2 b ba oP o3 ⊢
            clear hW
            have hl12 := o12.base.2
            have hHeld := (box6 k1).2.2.2.2.2
            refine hK.out _ _ (fun _ => hHeld) ?_
            clear hK K
            try simp only [Act.put, List.setIfInBounds_toArray, List.set_cons_zero, List.set_cons_succ]
            refine oneT (i := 8) rfl (by kernel_rfl) (fun K hK => ?_)
            refine step_app8g _ rfl _ _ rfl (w.heap.size + 2) V0.heap.size 0 600 [] rfl o3 w.heap.size X nv cx (lv.take nv) rfl (hX _ _ (rv.below b)) (by omega) k2.lt ?_
            intro g8 c8 V3 o8 gb hg8
            have h3 := o3.base
            simp only [Nat.zero_add, List.nil_append] at o8 ⊢
            have b := b.trans (below_grown gb (by omega) h3.2)
            have k1 := k1.left gb (by omega)
            have k2 := k2.left gb (by omega)
            have hP3 : g1 ≠ V0.heap.size := by omega
            have oP := oP.left gb hP3
            have o12 := o12.left gb (by have := o12.base; have := o3.base; omega)
            have hHeld := (box6 k1).2.2.2.2.2
            refine hK.out _ _ (fun _ => hHeld) ?_
            clear hK K
            try simp only [Act.put, List.setIfInBounds_toArray, List.set_cons_zero, List.set_cons_succ]
            refine oneT (i := 10) rfl (by kernel_rfl) (fun K hK => ?_)
            refine step_app8g _ rfl _ _ rfl (w.heap.size + 2) g8 nv c8 _ rfl o8 _ (some ⟨V1.heap.size, 0, none⟩) 1 1 [7] rfl o12.rd (by omega) k2.lt ?_
            intro g9 c9 V4 o9 gc hg9
            have h8 := o8.base
            have b := b.trans (below_grown gc (by omega) h8.2)
            have k1 := k1.left gc (by omega)
            have k2 := k2.left gc (by omega)
            have hP8 : g1 ≠ g8 := by omega
            have oP := oP.left gc hP8
            have hP9 : g1 ≠ g9 := by have := oP.base; omega
            have HS9 := slc_own o9 nv (nv : Int) (by omega) (by omega)
            have hHeld := (box6 k1).2.2.2.2.2
            refine hK.out _ _ (fun _ => hHeld) ?_
            clear hK K
            try simp only [Act.put, List.setIfInBounds_toArray, List.set_cons_zero, List.set_cons_succ]
            refine takeT (i := 15) (v := ?_) rfl (by kernel_rfl) (by kernel_rfl) (by decide) (by kernel_rfl) (by kernel_rfl) (fun _ _ _ h => h) (Or.inl ⟨by rfl, ?_⟩) hHeld ?_
            rotate_left
            · (intro wx hSw; (try dsimp only at hSw); go_simp; (first | done | (with_reducible rfl) | (simp only [h9', if_false, if_true]; done) | (simp only [h9', if_false, if_true]; with_reducible rfl) | skip))
            try simp only [Act.put, List.setIfInBounds_toArray, List.set_cons_zero, List.set_cons_succ]
            refine takeT (i := 16) (v := ?_) rfl (by kernel_rfl) (by kernel_rfl) (by decide) (by kernel_rfl) (by kernel_rfl) (fun _ _ _ h => h) (Or.inl ⟨by rfl, ?_⟩) hHeld ?_
            rotate_left
            · (intro wx hSw; (try dsimp only at hSw); go_simp; (first | done | (with_reducible rfl) | (simp only [h9', if_false, if_true]; done) | (simp only [h9', if_false, if_true]; with_reducible rfl) | skip))
            try simp only [Act.put, List.setIfInBounds_toArray, List.set_cons_zero, List.set_cons_succ]
            have y := k1.frozen 5
            refine oneT (i := 17) rfl (by kernel_rfl) (fun K hK => ?_)
            go_simp
            refine hK.out _ _ (fun h => absurd h (by decide)) ?_
            refine doneT (by kernel_rfl) ?_ _
            refine NoPanic.normal ?_
            go_wp2_with fail
            go_meet
            exact ⟨g9, c9, hP9, by rw [HMN.out]; exact k1.set_ 5 (.slice (some ⟨g9, 0, none⟩) nv c9), k2.far (by show _ ≠ w.heap.size; omega) _, oP.kept (rdr_grown_set V4 w.heap.size 5 (.slice (some ⟨g9, 0, none⟩) nv c9)) (by omega), by rw [HMN.out]; exact o9.kept (rdr_grown_set V4 w.heap.size 5 (.slice (some ⟨g9, 0, none⟩) nv c9)) (by omega), b.trans (below_grown (rdr_grown_set V4 w.heap.size 5 (.slice (some ⟨g9, 0, none⟩) nv c9)) (Nat.le_refl _) k1.lt)⟩
        · go_simp
          have o12 : Own (V0.alloc (.cells #[.int .u8 7] 5)) V0.heap.size (some ⟨V0.heap.size, 0, none⟩) 1 1 [7] := Own.litK V0 _ _ _ 1 [7] rfl (Nat.le_refl _) (by simp [maxLen]) rfl rfl
          have k1 := k1.alloc (.cells #[.int .u8 7] 5)
          have k2 := k2.alloc (.cells #[.int .u8 7] 5)
          have ba := below_a1' (Below.refl V0.heap.size V0) (.cells #[.int .u8 7] 5)
          have b := below_step b ba
          skip
          have oP := oP.below ba
          generalize hW : V0.alloc (.cells #[.int .u8 7] 5) = V1 at o12 k1 k2 b ba oP ⊢
          clear hW
          have hl12 := o12.base.2
          have hHeld := (box6 k1).2.2.2.2.2
          refine hK.out _ _ (fun _ => hHeld) ?_
          clear hK K
          try simp only [Act.put, List.setIfInBounds_toArray, List.set_cons_zero, List.set_cons_succ]
          refine oneT (i := 0) rfl (by kernel_rfl) (fun K hK => ?_)
          refine step_mkc8 _ rfl _ _ rfl V1.heap.size 600 _ rfl rfl rfl (by omega) (Nat.le_refl _) ?_
          intro V2 o3 b3
          have hg3 : w.heap.size + 2 ≤ V1.heap.size := k2.lt
          replace o3 := o3.more hg3
          have k1 := k1.step b3
          have k2 := k2.step b3
          have b := below_step b b3
          have oP := oP.below b3
          have o12 := o12.below b3
          have hl3 := o3.base.2
          have hHeld := (box6 k1).2.2.2.2.2
          refine hK.out _ _ (fun _ => hHeld) ?_
          clear hK K
          try simp only [Act.put, List.setIfInBounds_toArray, List.set_cons_zero, List.set_cons_succ]
          refine oneT (i := 8) rfl (by kernel_rfl) (fun K hK => ?_)
          refine step_app8g _ rfl _ _ rfl (w.heap.size + 2) V1.heap.size 0 600 [] rfl o3 w.heap.size X nv cx (lv.take nv) rfl (hX _ _ (rv.below b)) (by omega) k2.lt ?_
          intro g8 c8 V3 o8 gb hg8
          have h3 := o3.base
          simp only [Nat.zero_add, List.nil_append] at o8 ⊢
          have b := b.trans (below_grown gb (by omega) h3.2)
          have k1 := k1.left gb (by omega)
          have k2 := k2.left gb (by omega)
          have hP3 : g1 ≠ V1.heap.size := by omega
          have oP := oP.left gb hP3
          have o12 := o12.left gb (by have := o12.base; have := o3.base; omega)
          have hHeld := (box6 k1).2.2.2.2.2
          refine hK.out _ _ (fun _ => hHeld) ?_
          clear hK K
          try simp only [Act.put, List.setIfInBounds_toArray, List.set_cons_zero, List.set_cons_succ]
          refine oneT (i := 10) rfl (by kernel_rfl) (fun K hK => ?_)
          refine step_app8g _ rfl _ _ rfl (w.heap.size + 2) g8 nv c8 _ rfl o8 _ (some ⟨V0.heap.size, 0, none⟩) 1 1 [7] rfl o12.rd (by omega) k2.lt ?_
          intro g9 c9 V4 o9 gc hg9
          have h8 := o8.base
          have b := b.trans (below_grown gc (by omega) h8.2)
          have k1 := k1.left gc (by omega)
          have k2 := k2.left gc (by omega)
          have hP8 : g1 ≠ g8 := by omega
          have oP := oP.left gc hP8
          have hP9 : g1 ≠ g9 := by have := oP.base; omega
          have HS9 := slc_own o9 nv (nv : Int) (by omega) (by omega)
          have hHeld := (box6 k1).2.2.2.2.2
          refine hK.out _ _ (fun _ => hHeld) ?_
          clear hK K
          try simp only [Act.put, List.setIfInBounds_toArray, List.set_cons_zero, List.set_cons_succ]
          refine takeT (i := 15) (v := ?_) rfl (by kernel_rfl) (by kernel_rfl) (by decide) (by kernel_rfl) (by kernel_rfl) (fun _ _ _ h => h) (Or.inl ⟨by rfl, ?_⟩) hHeld ?_
          rotate_left
          · (intro wx hSw; (try dsimp only at hSw); go_simp; (first | done | (with_reducible rfl) | (simp only [h9', if_false, if_true]; done) | (simp only [h9', if_false, if_true]; with_reducible rfl) | skip))
          try simp only [Act.put, List.setIfInBounds_toArray, List.set_cons_zero, List.set_cons_succ]
          refine takeT (i := 16) (v := ?_) rfl (by kernel_rfl) (by kernel_rfl) (by decide) (by kernel_rfl) (by kernel_rfl) (fun _ _ _ h => h) (Or.inl ⟨by rfl, ?_⟩) hHeld ?_
          rotate_left
          · (intro wx hSw; (try dsimp only at hSw); go_simp; (first | done | (with_reducible rfl) | (simp only [h9', if_false, if_true]; done) | (simp only [h9', if_false, if_true]; with_reducible rfl) | skip))
          try simp only [Act.put, List.setIfInBounds_toArray, List.set_cons_zero, List.set_cons_succ]
          have y := k1.frozen 5
          refine oneT (i := 17) rfl (by kernel_rfl) (fun K hK => ?_)
          go_simp
          refine hK.out _ _ (fun h => absurd h (by decide)) ?_
          refine doneT (by kernel_rfl) ?_ _
          refine NoPanic.normal ?_
          go_wp2_with fail
          go_meet
          exact ⟨g9, c9, hP9, by rw [HMN.out]; exact k1.set_ 5 (.slice (some ⟨g9, 0, none⟩) nv c9), k2.far (by show _ ≠ w.heap.size; omega) _, oP.kept (rdr_grown_set V4 w.heap.size 5 (.slice (some ⟨g9, 0, none⟩) nv c9)) (by omega), by rw [HMN.out]; exact o9.kept (rdr_grown_set V4 w.heap.size 5 (.slice (some ⟨g9, 0, none⟩) nv c9)) (by omega), b.trans (below_grown (rdr_grown_set V4 w.heap.size 5 (.slice (some ⟨g9, 0, none⟩) nv c9)) (Nat.le_refl _) k1.lt)⟩
      · have HMN := Lib.hid (show min nv 600 = 600 from by omega)
        obtain ⟨X, cx, HX, hX⟩ := slc_h rv 600 600 (by omega) (by omega)
        have h9' : ((600 : Int) < (nv : Int)) = True := eq_true (by omega)
        refine wp_region_noPanic ?_
        refine region_T (fun w' => w'.cell? ⟨w.heap.size, 5, none⟩ = some (.slice AV nv cv)) 17 (by kernel_rfl) ?_
        replace k1 : Blk wc.drew w.heap.size #[.int .i64 kind, .int .u32 (fl : Nat), .int .u32 (ex : Nat), .int .u64 (sq : Nat), .slice (some ⟨g1, 0, none⟩) (min nk 600) c1, .slice AV nv cv] 26 := k1
        replace k2 : Blk wc.drew (w.heap.size + 1) #[.int .i64 0, .int .u32 0, .int .u32 0, .int .u64 0, .slice none 0 0, .slice none 0 0] 26 := k2
        replace b : Below w.heap.size w wc.drew := b.drew
        replace oP : Own wc.drew (w.heap.size + 2) (some ⟨g1, 0, none⟩) (min nk 600 + 1) c1 (lk.take (min nk 600) ++ [7]) := oP
        have hHeld := (box6 k1).2.2.2.2.2
        generalize wc.drew = V0 at k1 k2 b hHeld oP ⊢
        have hP := oP.base
        refine takeT (i := 1) (v := ?_) rfl (by kernel_rfl) (by kernel_rfl) (by decide) (by kernel_rfl) (by kernel_rfl) (fun _ _ _ h => h) (Or.inl ⟨by rfl, ?_⟩) hHeld ?_
        rotate_left
        · (intro wx hSw; (try dsimp only at hSw); go_simp; (first | done | (with_reducible rfl) | (simp only [h9', if_false, if_true]; done) | (simp only [h9', if_false, if_true]; with_reducible rfl) | skip))
        try simp only [Act.put, List.setIfInBounds_toArray, List.set_cons_zero, List.set_cons_succ]
        refine takeT (i := 2) (v := ?_) rfl (by kernel_rfl) (by kernel_rfl) (by decide) (by kernel_rfl) (by kernel_rfl) (fun _ _ _ h => h) (Or.inl ⟨by rfl, ?_⟩) hHeld ?_
        rotate_left
        · (intro wx hSw; (try dsimp only at hSw); go_simp; (first | done | (with_reducible rfl) | (simp only [h9', if_false, if_true]; done) | (simp only [h9', if_false, if_true]; with_reducible rfl) | skip))
        try simp only [Act.put, List.setIfInBounds_toArray, List.set_cons_zero, List.set_cons_succ]
        refine takeT (i := 3) (v := ?_) rfl (by kernel_rfl) (by kernel_rfl) (by decide) (by kernel_rfl) (by kernel_rfl) (fun _ _ _ h => h) (Or.inl ⟨by rfl, ?_⟩) hHeld ?_
        rotate_left
        · (intro wx hSw; (try dsimp only at hSw); go_simp; (first | done | (with_reducible rfl) | (simp only [h9', if_false, if_true]; done) | (simp only [h9', if_false, if_true]; with_reducible rfl) | skip))
        try simp only [Act.put, List.setIfInBounds_toArray, List.set_cons_zero, List.set_cons_succ]
        refine takeT (i := 4) (v := ?_) rfl (by kernel_rfl) (by kernel_rfl) (by decide) (by kernel_rfl) (by kernel_rfl) (fun _ _ _ h => h) (Or.inl ⟨by rfl, ?_⟩) hHeld ?_
        rotate_left
        · (intro wx hSw; (try dsimp only at hSw); go_simp; (first | done | (with_reducible rfl) | (simp only [h9', if_false, if_true]; done) | (simp only [h9', if_false, if_true]; with_reducible rfl) | skip))
        try simp only [Act.put, List.setIfInBounds_toArray, List.set_cons_zero, List.set_cons_succ]
        refine takeT (i := 5) (v := ?_) rfl (by kernel_rfl) (by kernel_rfl) (by decide) (by kernel_rfl) (by kernel_rfl) (fun _ _ _ h => h) (Or.inl ⟨by rfl, ?_⟩) hHeld ?_
        rotate_left
        · (intro wx hSw; (try dsimp only at hSw); go_simp; (first | done | (with_reducible rfl) | (simp only [h9', if_false, if_true]; done) | (simp only [h9', if_false, if_true]; with_reducible rfl) | skip))
        try simp only [Act.put, List.setIfInBounds_toArray, List.set_cons_zero, List.set_cons_succ]
        refine takeT (i := 6) (v := ?_) rfl (by kernel_rfl) (by kernel_rfl) (by decide) (by kernel_rfl) (by kernel_rfl) (fun _ _ _ h => h) (Or.inl ⟨by rfl, ?_⟩) hHeld ?_
        rotate_left
        · (intro wx hSw; (try dsimp only at hSw); go_simp; (first | done | (with_reducible rfl) | (simp only [h9', if_false, if_true]; done) | (simp only [h9', if_false, if_true]; with_reducible rfl) | skip))
        try simp only [Act.put, List.setIfInBounds_toArray, List.set_cons_zero, List.set_cons_succ]
        refine takeT (i := 7) (v := ?_) rfl (by kernel_rfl) (by kernel_rfl) (by decide) (by kernel_rfl) (by kernel_rfl) (fun _ _ _ h => h) (Or.inl ⟨by rfl, ?_⟩) hHeld ?_
        rotate_left
        · (intro wx hSw; (try dsimp only at hSw); go_simp; (first | done | (with_reducible rfl) | (simp only [h9', if_false, if_true]; done) | (simp only [h9', if_false, if_true]; with_reducible rfl) | skip))
        try simp only [Act.put, List.setIfInBounds_toArray, List.set_cons_zero, List.set_cons_succ]
        refine takeT (i := 11) (v := ?_) rfl (by kernel_rfl) (by kernel_rfl) (by decide) (by kernel_rfl) (by kernel_rfl) (fun _ _ _ h => h) (Or.inl ⟨by rfl, ?_⟩) hHeld ?_
        rotate_left
        · (intro wx hSw; (try dsimp only at hSw); go_simp; (first | done | (with_reducible rfl) | (simp only [h9', if_false, if_true]; done) | (simp only [h9', if_false, if_true]; with_reducible rfl) | skip))
        try simp only [Act.put, List.setIfInBounds_toArray, List.set_cons_zero, List.set_cons_succ]
        refine takeT (i := 12) (v := ?_) rfl (by kernel_rfl) (by kernel_rfl) (by decide) (by kernel_rfl) (by kernel_rfl) (fun _ _ _ h => h) (Or.inl ⟨by rfl, ?_⟩) hHeld ?_
        rotate_left
        · (intro wx hSw; (try dsimp only at hSw); go_simp; (first | done | (with_reducible rfl) | (simp only [h9', if_false, if_true]; done) | (simp only [h9', if_false, if_true]; with_reducible rfl) | skip))
        try simp only [Act.put, List.setIfInBounds_toArray, List.set_cons_zero, List.set_cons_succ]
        refine takeT (i := 13) (v := ?_) rfl (by kernel_rfl) (by kernel_rfl) (by decide) (by kernel_rfl) (by kernel_rfl) (fun _ _ _ h => h) (Or.inl ⟨by rfl, ?_⟩) hHeld ?_
        rotate_left
        · (intro wx hSw; (try dsimp only at hSw); go_simp; (first | done | (with_reducible rfl) | (simp only [h9', if_false, if_true]; done) | (simp only [h9', if_false, if_true]; with_reducible rfl) | skip))
        try simp only [Act.put, List.setIfInBounds_toArray, List.set_cons_zero, List.set_cons_succ]
        refine takeT (i := 14) (v := ?_) rfl (by kernel_rfl) (by kernel_rfl) (by decide) (by kernel_rfl) (by kernel_rfl) (fun _ _ _ h => h) (Or.inl ⟨by rfl, ?_⟩) hHeld ?_
        rotate_left
        · (intro wx hSw; (try dsimp only at hSw); go_simp; (first | done | (with_reducible rfl) | (simp only [h9', if_false, if_true]; done) | (simp only [h9', if_false, if_true]; with_reducible rfl) | skip))
        try simp only [Act.put, List.setIfInBounds_toArray, List.set_cons_zero, List.set_cons_succ]
        refine twoT (i := 0) (j := 9) rfl rfl (by kernel_rfl) (fun K hK => ?_) (fun K hK => ?_)
        · refine step_mkc8 _ rfl _ _ rfl V0.heap.size 600 _ rfl rfl rfl (by omega) (Nat.le_refl _) ?_
          intro V1 o3 b3
          have hg3 : w.heap.size + 2 ≤ V0.heap.size := k2.lt
          replace o3 := o3.more hg3
          have k1 := k1.step b3
          have k2 := k2.step b3
          have b := below_step b b3
          have oP := oP.below b3
          have hl3 := o3.base.2
          have hHeld := (box6 k1).2.2.2.2.2
          refine hK.out _ _ (fun _ => hHeld) ?_
          clear hK K
          try simp only [Act.put, List.setIfInBounds_toArray, List.set_cons_zero, List.set_cons_succ]
          refine twoT (i := 8) (j := 9) rfl rfl (by kernel_rfl) (fun K hK => ?_) (fun K hK => ?_)
          · refine step_app8g _ rfl _ _ rfl (w.heap.size + 2) V0.heap.size 0 600 [] rfl o3 w.heap.size X 600 cx (lv.take 600) rfl (hX _ _ (rv.below b)) (by omega) k2.lt ?_
            intro g8 c8 V2 o8 gb hg8
            have h3 := o3.base
            simp only [Nat.zero_add, List.nil_append] at o8 ⊢
            have b := b.trans (below_grown gb (by omega) h3.2)
            have k1 := k1.left gb (by omega)
            have k2 := k2.left gb (by omega)
            have hP3 : g1 ≠ V0.heap.size := by omega
            have oP := oP.left gb hP3
            have hHeld := (box6 k1).2.2.2.2.2
            refine hK.out _ _ (fun _ => hHeld) ?_
            clear hK K
            try simp only [Act.put, List.setIfInBounds_toArray, List.set_cons_zero, List.set_cons_succ]
            refine oneT (i := 9) rfl (by kernel_rfl) (fun K hK => ?_)
            go_simp
            have o12 : Own (V2.alloc (.cells #[.int .u8 7] 5)) V2.heap.size (some ⟨V2.heap.size, 0, none⟩) 1 1 [7] := Own.litK V2 _ _ _ 1 [7] rfl (Nat.le_refl _) (by simp [maxLen]) rfl rfl
            have k1 := k1.alloc (.cells #[.int .u8 7] 5)
            have k2 := k2.alloc (.cells #[.int .u8 7] 5)
            have ba := below_a1' (Below.refl V2.heap.size V2) (.cells #[.int .u8 7] 5)
            have b := below_step b ba
            skip
            have oP := oP.below ba
            have o8 := o8.below ba
            generalize hW : V2.alloc (.cells #[.int .u8 7] 5) = V3 at o12 k1 k2 b ba oP o8 ⊢
            clear hW
            have hl12 := o12.base.2
            have hHeld := (box6 k1).2.2.2.2.2
            refine hK.out _ _ (fun _ => hHeld) ?_
            clear hK K
            try simp only [Act.put, List.setIfInBounds_toArray, List.set_cons_zero, List.set_cons_succ]
            refine oneT (i := 10) rfl (by kernel_rfl) (fun K hK => ?_)
            refine step_app8g _ rfl _ _ rfl (w.heap.size + 2) g8 600 c8 _ rfl o8 _ (some ⟨V2.heap.size, 0, none⟩) 1 1 [7] rfl o12.rd (by omega) k2.lt ?_
            intro g9 c9 V4 o9 gc hg9
            have h8 := o8.base
            have b := b.trans (below_grown gc (by omega) h8.2)
            have k1 := k1.left gc (by omega)
            have k2 := k2.left gc (by omega)
            have hP8 : g1 ≠ g8 := by omega
            have oP := oP.left gc hP8
            have hP9 : g1 ≠ g9 := by have := oP.base; omega
            have HS9 := slc_own o9 600 600 (by omega) (by omega)
            have hHeld := (box6 k1).2.2.2.2.2
            refine hK.out _ _ (fun _ => hHeld) ?_
            clear hK K
            try simp only [Act.put, List.setIfInBounds_toArray, List.set_cons_zero, List.set_cons_succ]
            refine takeT (i := 15) (v := ?_) rfl (by kernel_rfl) (by kernel_rfl) (by decide) (by kernel_rfl) (by kernel_rfl) (fun _ _ _ h => h) (Or.inl ⟨by rfl, ?_⟩) hHeld ?_
            rotate_left
            · (intro wx hSw; (try dsimp only at hSw); go_simp; (first | done | (with_reducible rfl) | (simp only [h9', if_false, if_true]; done) | (simp only [h9', if_false, if_true]; with_reducible rfl) | skip))
            try simp only [Act.put, List.setIfInBounds_toArray, List.set_cons_zero, List.set_cons_succ]
            refine takeT (i := 16) (v := ?_) rfl (by kernel_rfl) (by kernel_rfl) (by decide) (by kernel_rfl) (by kernel_rfl) (fun _ _ _ h => h) (Or.inl ⟨by rfl, ?_⟩) hHeld ?_
            rotate_left
            · (intro wx hSw; (try dsimp only at hSw); go_simp; (first | done | (with_reducible rfl) | (simp only [h9', if_false, if_true]; done) | (simp only [h9', if_false, if_true]; with_reducible rfl) | skip))
            try simp only [Act.put, List.setIfInBounds_toArray, List.set_cons_zero, List.set_cons_succ]
            have y := k1.frozen 5
            refine oneT (i := 17) rfl (by kernel_rfl) (fun K hK => ?_)
            go_simp
            refine hK.out _ _ (fun h => absurd h (by decide)) ?_
            refine doneT (by kernel_rfl) ?_ _
            refine NoPanic.normal ?_
            go_wp2_with fail
            go_meet
            exact ⟨g9, c9, hP9, by rw [HMN.out]; exact k1.set_ 5 (.slice (some ⟨g9, 0, none⟩) 600 c9), k2.far (by show _ ≠ w.heap.size; omega) _, oP.kept (rdr_grown_set V4 w.heap.size 5 (.slice (some ⟨g9, 0, none⟩) 600 c9)) (by omega), by rw [HMN.out]; exact o9.kept (rdr_grown_set V4 w.heap.size 5 (.slice (some ⟨g9, 0, none⟩) 600 c9)) (by omega), b.trans (below_grown (rdr_grown_set V4 w.heap.size 5 (.slice (some ⟨g9, 0, none⟩) 600 c9)) (Nat.le_refl _) k1.lt)⟩
          · go_simp
            have o12 : Own (V1.alloc (.cells #[.int .u8 7] 5)) V1.heap.size (some ⟨V1.heap.size, 0, none⟩) 1 1 [7] := Own.litK V1 _ _ _ 1 [7] rfl (Nat.le_refl _) (by simp [maxLen]) rfl rfl
            have k1 := k1.alloc (.cells #[.int .u8 7] 5)
            have k2 := k2.alloc (.cells #[.int .u8 7] 5)
            have ba := below_a1' (Below.refl V1.heap.size V1) (.cells #[.int .u8 7] 5)
            have b := below_step b ba
            skip
            have oP := oP.below ba
            have o3 := o3.below ba
            generalize hW : V1.alloc (.cells #[.int .u8 7] 5) = V2 at o12 k1 k2 b ba oP o3 ⊢
            clear hW
            have hl12 := o12.base.2
            have hHeld := (box6 k1).2.2.2.2.2
            refine hK.out _ _ (fun _ => hHeld) ?_
            clear hK K
            try simp only [Act.put, List.setIfInBounds_toArray, List.set_cons_zero, List.set_cons_succ]
            refine oneT (i := 8) rfl (by kernel_rfl) (fun K hK => ?_)
            refine step_app8g _ rfl _ _ rfl (w.heap.size + 2) V0.heap.size 0 600 [] rfl o3 w.heap.size X 600 cx (lv.take 600) rfl (hX _ _ (rv.below b)) (by omega) k2.lt ?_
            intro g8 c8 V3 o8 gb hg8
            have h3 := o3.base
            simp only [Nat.zero_add, List.nil_append] at o8 ⊢
            have b := b.trans (below_grown gb (by omega) h3.2)
            have k1 := k1.left gb (by omega)
            have k2 := k2.left gb (by omega)
            have hP3 : g1 ≠ V0.heap.size := by omega
            have oP := oP.left gb hP3
            have o12 := o12.left gb (by have := o12.base; have := o3.base; omega)
            have hHeld := (box6 k1).2.2.2.2.2
            refine hK.out _ _ (fun _ => hHeld) ?_
            clear hK K
            try simp only [Act.put, List.setIfInBounds_toArray, List.set_cons_zero, List.set_cons_succ]
            refine oneT (i := 10) rfl (by kernel_rfl) (fun K hK => ?_)
            refine step_app8g _ rfl _ _ rfl (w.heap.size + 2) g8 600 c8 _ rfl o8 _ (some ⟨V1.heap.size, 0, none⟩) 1 1 [7] rfl o12.rd (by omega) k2.lt ?_
            intro g9 c9 V4 o9 gc hg9
            have h8 := o8.base
            have b := b.trans (below_grown gc (by omega) h8.2)
            have k1 := k1.left gc (by omega)
            have k2 := k2.left gc (by omega)
            have hP8 : g1 ≠ g8 := by omega
            have oP := oP.left gc hP8
            have hP9 : g1 ≠ g9 := by have := oP.base; omega
            have HS9 := slc_own o9 600 600 (by omega) (by omega)
            have hHeld := (box6 k1).2.2.2.2.2
            refine hK.out _ _ (fun _ => hHeld) ?_
            clear hK K
            try simp only [Act.put, List.setIfInBounds_toArray, List.set_cons_zero, List.set_cons_succ]
            refine takeT (i := 15) (v := ?_) rfl (by kernel_rfl) (by kernel_rfl) (by decide) (by kernel_rfl) (by kernel_rfl) (fun _ _ _ h => h) (Or.inl ⟨by rfl, ?_⟩) hHeld ?_
            rotate_left
            · (intro wx hSw; (try dsimp only at hSw); go_simp; (first | done | (with_reducible rfl) | (simp only [h9', if_false, if_true]; done) | (simp only [h9', if_false, if_true]; with_reducible rfl) | skip))
            try simp only [Act.put, List.setIfInBounds_toArray, List.set_cons_zero, List.set_cons_succ]
            refine takeT (i := 16) (v := ?_) rfl (by kernel_rfl) (by kernel_rfl) (by decide) (by kernel_rfl) (by kernel_rfl) (fun _ _ _ h => h) (Or.inl ⟨by rfl, ?_⟩) hHeld ?_
            rotate_left
            · (intro wx hSw; (try dsimp only at hSw); go_simp; (first | done | (with_reducible rfl) | (simp only [h9', if_false, if_true]; done) | (simp only [h9', if_false, if_true]; with_reducible rfl) | skip))
            try simp only [Act.put, List.setIfInBounds_toArray, List.set_cons_zero, List.set_cons_succ]
            have y := k1.frozen 5
            refine oneT (i := 17) rfl (by kernel_rfl) (fun K hK => ?_)
            go_simp
            refine hK.out _ _ (fun h => absurd h (by decide)) ?_
            refine doneT (by kernel_rfl) ?_ _
            refine NoPanic.normal ?_
            go_wp2_with fail
            go_meet
            exact ⟨g9, c9, hP9, by rw [HMN.out]; exact k1.set_ 5 (.slice (some ⟨g9, 0, none⟩) 600 c9), k2.far (by show _ ≠ w.heap.size; omega) _, oP.kept (rdr_grown_set V4 w.heap.size 5 (.slice (some ⟨g9, 0, none⟩) 600 c9)) (by omega), by rw [HMN.out]; exact o9.kept (rdr_grown_set V4 w.heap.size 5 (.slice (some ⟨g9, 0, none⟩) 600 c9)) (by omega), b.trans (below_grown (rdr_grown_set V4 w.heap.size 5 (.slice (some ⟨g9, 0, none⟩) 600 c9)) (Nat.le_refl _) k1.lt)⟩
        · go_simp
          have o12 : Own (V0.alloc (.cells #[.int .u8 7] 5)) V0.heap.size (some ⟨V0.heap.size, 0, none⟩) 1 1 [7] := Own.litK V0 _ _ _ 1 [7] rfl (Nat.le_refl _) (by simp [maxLen]) rfl rfl
          have k1 := k1.alloc (.cells #[.int .u8 7] 5)
          have k2 := k2.alloc (.cells #[.int .u8 7] 5)
          have ba := below_a1' (Below.refl V0.heap.size V0) (.cells #[.int .u8 7] 5)
          have b := below_step b ba
          skip
          have oP := oP.below ba
          generalize hW : V0.alloc (.cells #[.int .u8 7] 5) = V1 at o12 k1 k2 b ba oP ⊢
          clear hW
          have hl12 := o12.base.2
          have hHeld := (box6 k1).2.2.2.2.2
          refine hK.out _ _ (fun _ => hHeld) ?_
          clear hK K
          try simp only [Act.put, List.setIfInBounds_toArray, List.set_cons_zero, List.set_cons_succ]
          refine oneT (i := 0) rfl (by kernel_rfl) (fun K hK => ?_)
          refine step_mkc8 _ rfl _ _ rfl V1.heap.size 600 _ rfl rfl rfl (by omega) (Nat.le_refl _) ?_
          intro V2 o3 b3
          have hg3 : w.heap.size + 2 ≤ V1.heap.size := k2.lt
          replace o3 := o3.more hg3
          have k1 := k1.step b3
          have k2 := k2.step b3
          have b := below_step b b3
          have oP := oP.below b3
          have o12 := o12.below b3
          have hl3 := o3.base.2
          have hHeld := (box6 k1).2.2.2.2.2
          refine hK.out _ _ (fun _ => hHeld) ?_
          clear hK K
          try simp only [Act.put, List.setIfInBounds_toArray, List.set_cons_zero, List.set_cons_succ]
          refine oneT (i := 8) rfl (by kernel_rfl) (fun K hK => ?_)
          refine step_app8g _ rfl _ _ rfl (w.heap.size + 2) V1.heap.size 0 600 [] rfl o3 w.heap.size X 600 cx (lv.take 600) rfl (hX _ _ (rv.below b)) (by omega) k2.lt ?_
          intro g8 c8 V3 o8 gb hg8
          have h3 := o3.base
          simp only [Nat.zero_add, List.nil_append] at o8 ⊢
          have b := b.trans (below_grown gb (by omega) h3.2)
          have k1 := k1.left gb (by omega)
          have k2 := k2.left gb (by omega)
          have hP3 : g1 ≠ V1.heap.size := by omega
          have oP := oP.left gb hP3
          have o12 := o12.left gb (by have := o12.base; have := o3.base; omega)
          have hHeld := (box6 k1).2.2.2.2.2
          refine hK.out _ _ (fun _ => hHeld) ?_
          clear hK K
          try simp only [Act.put, List.setIfInBounds_toArray, List.set_cons_zero, List.set_cons_succ]
          refine oneT (i := 10) rfl (by kernel_rfl) (fun K hK => ?_)
          refine step_app8g _ rfl _ _ rfl (w.heap.size + 2) g8 600 c8 _ rfl o8 _ (some ⟨V0.heap.size, 0, none⟩) 1 1 [7] rfl o12.rd (by omega) k2.lt ?_
          intro g9 c9 V4 o9 gc hg9
          have h8 := o8.base
          have b := b.trans (below_grown gc (by omega) h8.2)
          have k1 := k1.left gc (by omega)
          have k2 := k2.left gc (by omega)
          have hP8 : g1 ≠ g8 := by omega
          have oP := oP.left gc hP8
          have hP9 : g1 ≠ g9 := by have := oP.base; omega
          have HS9 := slc_own o9 600 600 (by omega) (by omega)
          have hHeld := (box6 k1).2.2.2.2.2
          refine hK.out _ _ (fun _ => hHeld) ?_
          clear hK K
          try simp only [Act.put, List.setIfInBounds_toArray, List.set_cons_zero, List.set_cons_succ]
          refine takeT (i := 15) (v := ?_) rfl (by kernel_rfl) (by kernel_rfl) (by decide) (by kernel_rfl) (by kernel_rfl) (fun _ _ _ h => h) (Or.inl ⟨by rfl, ?_⟩) hHeld ?_
          rotate_left
          · (intro wx hSw; (try dsimp only at hSw); go_simp; (first | done | (with_reducible rfl) | (simp only [h9', if_false, if_true]; done) | (simp only [h9', if_false, if_true]; with_reducible rfl) | skip))
          try simp only [Act.put, List.setIfInBounds_toArray, List.set_cons_zero, List.set_cons_succ]
          refine takeT (i := 16) (v := ?_) rfl (by kernel_rfl) (by kernel_rfl) (by decide) (by kernel_rfl) (by kernel_rfl) (fun _ _ _ h => h) (Or.inl ⟨by rfl, ?_⟩) hHeld ?_
          rotate_left
          · (intro wx hSw; (try dsimp only at hSw); go_simp; (first | done | (with_reducible rfl) | (simp only [h9', if_false, if_true]; done) | (simp only [h9', if_false, if_true]; with_reducible rfl) | skip))
          try simp only [Act.put, List.setIfInBounds_toArray, List.set_cons_zero, List.set_cons_succ]
          have y := k1.frozen 5
          refine oneT (i := 17) rfl (by kernel_rfl) (fun K hK => ?_)
          go_simp
          refine hK.out _ _ (fun h => absurd h (by decide)) ?_
          refine doneT (by kernel_rfl) ?_ _
          refine NoPanic.normal ?_
          go_wp2_with fail
          go_meet
          exact ⟨g9, c9, hP9, by rw [HMN.out]; exact k1.set_ 5 (.slice (some ⟨g9, 0, none⟩) 600 c9), k2.far (by show _ ≠ w.heap.size; omega) _, oP.kept (rdr_grown_set V4 w.heap.size 5 (.slice (some ⟨g9, 0, none⟩) 600 c9)) (by omega), by rw [HMN.out]; exact o9.kept (rdr_grown_set V4 w.heap.size 5 (.slice (some ⟨g9, 0, none⟩) 600 c9)) (by omega), b.trans (below_grown (rdr_grown_set V4 w.heap.size 5 (.slice (some ⟨g9, 0, none⟩) 600 c9)) (Nat.le_refl _) k1.lt)⟩
    case rest =>
      obtain ⟨g2, c2, hne, k1, k2, oP, oV, b⟩ := hcut
      obtain ⟨q0, q1, q2, q3, q4, q5⟩ := box6 k1
      obtain ⟨z0, z1, z2, z3, z4, z5⟩ := box6 k2
      have y0 := k2.frozen 0
      have y1 := k2.frozen 1
      have y2 := k2.frozen 2
      have y3 := k2.frozen 3
      have y4 := k2.frozen 4
      have y5 := k2.frozen 5
      have kf := blk_set6 k2 (.int .i64 kind) (.int .u32 (fl : Nat)) (.int .u32 (ex : Nat)) (.int .u64 (sq : Nat)) (.slice (some ⟨g1, 0, none⟩) (min nk 600) c1) (.slice (some ⟨g2, 0, none⟩) (min nv 600) c2)
      have hg := grown_set6 wc (w.heap.size + 1) (.int .i64 kind) (.int .u32 (fl : Nat)) (.int .u32 (ex : Nat)) (.int .u64 (sq : Nat)) (.slice (some ⟨g1, 0, none⟩) (min nk 600) c1) (.slice (some ⟨g2, 0, none⟩) (min nv 600) c2)
      have bff := b.trans (below_grown hg (by omega) k2.lt)
      obtain ⟨t0, t1, t2, t3, t4, t5⟩ := box6 kf
      have gP := (oP.kept hg (by omega)).more (show w.heap.size ≤ w.heap.size + 2 by omega)
      have gV := (oV.kept hg (by omega)).more (show w.heap.size ≤ w.heap.size + 2 by omega)
      clear kf hg oP oV k1 k2 b
      go_wp2_with fail
      refine bodyPost_ret (v := .agg #[.int .i64 kind, .int .u32 (fl : Nat), .int .u32 (ex : Nat), .int .u64 (sq : Nat), .slice (some ⟨g1, 0, none⟩) (min nk 600) c1, .slice (some ⟨g2, 0, none⟩) (min nv 600) c2]) (by simp [results, Try.results11, go_sem, t0, t1, t2, t3, t4, t5]) rfl ?_
      exact ⟨g1, c1, g2, c2, rfl, hne, gP, gV, bff⟩
end Go.Proofs.Ytkdkmdjfimnkaaa

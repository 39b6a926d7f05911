/- conn.copied, and the small methods of a connection. Conditions: typed in each theorem. -/
import Derived.Test.YtnghmgbmflcngaaZpar
import Derived.Test.YtnghmgbmflcngaaZhld
import Derived.Test.YtnghmgbmflcngaaZfre
import Derived.Deep.DeepCutAuto
namespace Go.Proofs.Ytnghmgbmflcngaa
set_option linter.unusedVariables false
open Go.RowKit
def CcR (op : Int) (qt fu : Bool) (bd : Int) (oq fl ex cs dl ni : Nat) (nk nv : Nat) (lk lv : List UInt8) (w wx : World) : Prop :=
  ∃ K2 c1 V2 c2, Blk wx w.heap.size #[.int .i64 op, .bool qt, .bool fu, .int .i64 bd, .int .u32 (oq : Nat), .slice K2 nk c1, .slice V2 nv c2, .int .u32 (fl : Nat), .int .u32 (ex : Nat), .int .u64 (cs : Nat), .int .u64 (dl : Nat), .int .u64 (ni : Nat)] 26 ∧ Blk wx (w.heap.size + 1) #[.int .i64 0, .bool false, .bool false, .int .i64 0, .int .u32 0, .slice none 0 0, .slice none 0 0, .int .u32 0, .int .u32 0, .int .u64 0, .int .u64 0, .int .u64 0] 26 ∧
    Own wx (w.heap.size + 2) K2 nk c1 lk ∧ Own wx (w.heap.size + 2) V2 nv c2 lv ∧ Below w.heap.size w wx
def CcQ (op : Int) (qt fu : Bool) (bd : Int) (oq fl ex cs dl ni : Nat) (nk nv : Nat) (lk lv : List UInt8) (w : World) (e : Ending) (w' : World) : Prop :=
  ∃ A1 c1 A2 c2, e = .returned (reqV op qt fu bd oq (.slice A1 nk c1) (.slice A2 nv c2) fl ex cs dl ni) ∧ Own w' w.heap.size A1 nk c1 lk ∧ Own w' w.heap.size A2 nv c2 lv ∧ Below w.heap.size w w'
set_option maxRecDepth 100000 in
set_option maxHeartbeats 8000000 in
theorem ccop_any (op : Int) (qt fu : Bool) (bd : Int) (oq fl ex cs dl ni : Nat) (AK AV : Option Addr) (nk ck nv cv : Nat) (lk lv : List UInt8) (w : World) (rk : Rd w w.heap.size AK nk ck lk) (rv : Rd w w.heap.size AV nv cv lv) (hnk : nk ≤ 100000000) (hnv : nv ≤ 100000000) :
    Calls Try.prog 110 #[reqV op qt fu bd oq (.slice AK nk ck) (.slice AV nv cv) fl ex cs dl ni] w (CcQ op qt fu bd oq fl ex cs dl ni nk nv lk lv w) := by
  have k1 := (Blk.new w #[.int .i64 op, .bool qt, .bool fu, .int .i64 bd, .int .u32 (oq : Nat), .slice AK nk ck, .slice AV nv cv, .int .u32 (fl : Nat), .int .u32 (ex : Nat), .int .u64 (cs : Nat), .int .u64 (dl : Nat), .int .u64 (ni : Nat)] 26).alloc (.cells #[.int .i64 0, .bool false, .bool false, .int .i64 0, .int .u32 0, .slice none 0 0, .slice none 0 0, .int .u32 0, .int .u32 0, .int .u64 0, .int .u64 0, .int .u64 0] 26)
  have k2 : Blk ((w.alloc (.cells #[.int .i64 op, .bool qt, .bool fu, .int .i64 bd, .int .u32 (oq : Nat), .slice AK nk ck, .slice AV nv cv, .int .u32 (fl : Nat), .int .u32 (ex : Nat), .int .u64 (cs : Nat), .int .u64 (dl : Nat), .int .u64 (ni : Nat)] 26)).alloc (.cells #[.int .i64 0, .bool false, .bool false, .int .i64 0, .int .u32 0, .slice none 0 0, .slice none 0 0, .int .u32 0, .int .u32 0, .int .u64 0, .int .u64 0, .int .u64 0] 26)) (w.heap.size + 1) #[.int .i64 0, .bool false, .bool false, .int .i64 0, .int .u32 0, .slice none 0 0, .slice none 0 0, .int .u32 0, .int .u32 0, .int .u64 0, .int .u64 0, .int .u64 0] 26 := by
    have := Blk.new (w.alloc (.cells #[.int .i64 op, .bool qt, .bool fu, .int .i64 bd, .int .u32 (oq : Nat), .slice AK nk ck, .slice AV nv cv, .int .u32 (fl : Nat), .int .u32 (ex : Nat), .int .u64 (cs : Nat), .int .u64 (dl : Nat), .int .u64 (ni : Nat)] 26)) #[.int .i64 0, .bool false, .bool false, .int .i64 0, .int .u32 0, .slice none 0 0, .slice none 0 0, .int .u32 0, .int .u32 0, .int .u64 0, .int .u64 0, .int .u64 0] 26
    rwa [World.size_alloc] at this
  have b : Below w.heap.size w ((w.alloc (.cells #[.int .i64 op, .bool qt, .bool fu, .int .i64 bd, .int .u32 (oq : Nat), .slice AK nk ck, .slice AV nv cv, .int .u32 (fl : Nat), .int .u32 (ex : Nat), .int .u64 (cs : Nat), .int .u64 (dl : Nat), .int .u64 (ni : Nat)] 26)).alloc (.cells #[.int .i64 0, .bool false, .bool false, .int .i64 0, .int .u32 0, .slice none 0 0, .slice none 0 0, .int .u32 0, .int .u32 0, .int .u64 0, .int .u64 0, .int .u64 0] 26)) := below_a1' (below_a1' (Below.refl _ _) _) _
  unfold reqV
  go_enter Try.func110, Try.ntmps110
  go_upto_region 1 with fail
  generalize (w.alloc (.cells #[.int .i64 op, .bool qt, .bool fu, .int .i64 bd, .int .u32 (oq : Nat), .slice AK nk ck, .slice AV nv cv, .int .u32 (fl : Nat), .int .u32 (ex : Nat), .int .u64 (cs : Nat), .int .u64 (dl : Nat), .int .u64 (ni : Nat)] 26)).alloc (.cells #[.int .i64 0, .bool false, .bool false, .int .i64 0, .int .u32 0, .slice none 0 0, .slice none 0 0, .int .u32 0, .int .u32 0, .int .u64 0, .int .u64 0, .int .u64 0] 26) = W0 at k1 k2 b ⊢
  go_cut [] (fun wx => CcR op qt fu bd oq fl ex cs dl ni nk nv lk lv w wx)
  case first =>
    refine wp_region_noPanic ?_
    refine region_T (fun w' => w'.cell? ⟨w.heap.size, 5, none⟩ = some (.slice AK nk ck) ∧ w'.cell? ⟨w.heap.size, 6, none⟩ = some (.slice AV nv cv)) 7 (by kernel_rfl) ?_
    replace k1 : Blk W0.drew w.heap.size #[.int .i64 op, .bool qt, .bool fu, .int .i64 bd, .int .u32 (oq : Nat), .slice AK nk ck, .slice AV nv cv, .int .u32 (fl : Nat), .int .u32 (ex : Nat), .int .u64 (cs : Nat), .int .u64 (dl : Nat), .int .u64 (ni : Nat)] 26 := k1
    replace k2 : Blk W0.drew (w.heap.size + 1) #[.int .i64 0, .bool false, .bool false, .int .i64 0, .int .u32 0, .slice none 0 0, .slice none 0 0, .int .u32 0, .int .u32 0, .int .u64 0, .int .u64 0, .int .u64 0] 26 := k2
    replace b : Below w.heap.size w W0.drew := b.drew
    have hHeld := (show _ ∧ _ from ⟨(box12 k1).2.2.2.2.2.1, (box12 k1).2.2.2.2.2.2.1⟩)
    generalize W0.drew = V0 at k1 k2 b hHeld ⊢
    refine takeA (i := 0) (v := ?_) rfl (fun _ _ _ h => h) (Or.inl ⟨by rfl, ?_⟩) hHeld ?_
    rotate_left
    · (intro wx hSw; (try dsimp only at hSw); go_simp; try (with_reducible rfl))
    try simp only [Act.put, List.setIfInBounds_toArray, List.set_cons_zero, List.set_cons_succ]
    refine takeA (i := 1) (v := ?_) rfl (fun _ _ _ h => h) (Or.inl ⟨by rfl, ?_⟩) hHeld ?_
    rotate_left
    · (intro wx hSw; (try dsimp only at hSw); go_simp; try (with_reducible rfl))
    try simp only [Act.put, List.setIfInBounds_toArray, List.set_cons_zero, List.set_cons_succ]
    refine takeA (i := 3) (v := ?_) rfl (fun _ _ _ h => h) (Or.inl ⟨by rfl, ?_⟩) hHeld ?_
    rotate_left
    · (intro wx hSw; (try dsimp only at hSw); go_simp; try (with_reducible rfl))
    try simp only [Act.put, List.setIfInBounds_toArray, List.set_cons_zero, List.set_cons_succ]
    refine takeA (i := 4) (v := ?_) rfl (fun _ _ _ h => h) (Or.inl ⟨by rfl, ?_⟩) hHeld ?_
    rotate_left
    · (intro wx hSw; (try dsimp only at hSw); go_simp; try (with_reducible rfl))
    try simp only [Act.put, List.setIfInBounds_toArray, List.set_cons_zero, List.set_cons_succ]
    refine oneT (i := 2) rfl (by kernel_rfl) (fun K hK => ?_)
    go_simp
    refine (clone_any AK nk ck V0.heap.size lk V0 ((rk.below b).more b.size) (Nat.le_refl _) (by omega)).mono ?_
    rintro e V1 ⟨K2, c1, rfl, o3, b1⟩
    have hs := k2.lt
    replace o3 := o3.more (show w.heap.size + 2 ≤ V0.heap.size by omega)
    replace k1 := k1.step b1
    replace k2 := k2.step b1
    replace b := below_step b b1
    clear b1 hHeld hs
    have hHeld := (show _ ∧ _ from ⟨(box12 k1).2.2.2.2.2.1, (box12 k1).2.2.2.2.2.2.1⟩)
    refine hK.out _ _ (fun _ => hHeld) ?_
    clear hK K
    try simp only [Act.put, List.setIfInBounds_toArray, List.set_cons_zero, List.set_cons_succ]
    refine takeA (i := 6) (v := ?_) rfl (fun _ _ _ h => h) (Or.inl ⟨by rfl, ?_⟩) hHeld ?_
    rotate_left
    · (intro wx hSw; (try dsimp only at hSw); go_simp; try (with_reducible rfl))
    try simp only [Act.put, List.setIfInBounds_toArray, List.set_cons_zero, List.set_cons_succ]
    refine oneT (i := 5) rfl (by kernel_rfl) (fun K hK => ?_)
    go_simp
    refine (clone_any AV nv cv V1.heap.size lv V1 ((rv.below b).more b.size) (Nat.le_refl _) (by omega)).mono ?_
    rintro e V2 ⟨V2a, c2, rfl, o7, b1⟩
    have hs := k2.lt
    replace o7 := o7.more (show w.heap.size + 2 ≤ V1.heap.size by omega)
    replace o3 := o3.step b1
    replace k1 := k1.step b1
    replace k2 := k2.step b1
    replace b := below_step b b1
    clear b1 hHeld hs
    have hHeld := (show _ ∧ _ from ⟨(box12 k1).2.2.2.2.2.1, (box12 k1).2.2.2.2.2.2.1⟩)
    refine hK.out _ _ (fun _ => hHeld) ?_
    clear hK K
    try simp only [Act.put, List.setIfInBounds_toArray, List.set_cons_zero, List.set_cons_succ]
    have y5 := k1.frozen 5
    have y6 := k1.frozen 6
    refine oneT (i := 7) rfl (by kernel_rfl) (fun K hK => ?_)
    go_simp
    refine hK.out _ _ (fun h => absurd h (by decide)) ?_
    clear hK K
    try simp only [Act.put, List.setIfInBounds_toArray, List.set_cons_zero, List.set_cons_succ]
    refine oneT (i := 8) rfl (by kernel_rfl) (fun K hK => ?_)
    go_simp
    refine hK.out _ _ (fun h => absurd h (by decide)) ?_
    clear hK K
    try simp only [Act.put, List.setIfInBounds_toArray, List.set_cons_zero, List.set_cons_succ]
    refine oneT (i := 9) rfl (by kernel_rfl) (fun K hK => ?_)
    go_simp
    refine hK.out _ _ (fun h => absurd h (by decide)) ?_
    clear hK K
    try simp only [Act.put, List.setIfInBounds_toArray, List.set_cons_zero, List.set_cons_succ]
    refine doneT (by kernel_rfl) ?_ _
    refine NoPanic.normal ?_
    go_wp2_with fail
    go_meet
    have gs := grown_trans (rdr_grown_set V2 w.heap.size 5 (.slice K2 nk c1)) (rdr_grown_set _ w.heap.size 6 (.slice V2a nv c2))
    exact ⟨K2, c1, V2a, c2, (k1.set_ 5 (.slice K2 nk c1)).set_ 6 (.slice V2a nv c2), k2.left gs (by omega), o3.kept gs (by omega), o7.kept gs (by omega), b.trans (below_grown gs (Nat.le_refl _) k1.lt)⟩
  case rest =>
    obtain ⟨K2, c1, V2, c2, k1, k2, oP, oV, b⟩ := hcut
    obtain ⟨q0, q1, q2, q3, q4, q5, q6, q7, q8, q9, q10, q11⟩ := box12 k1
    obtain ⟨z0, z1, z2, z3, z4, z5, z6, z7, z8, z9, z10, z11⟩ := box12 k2
    have y0 := k2.frozen 0
    have y1 := k2.frozen 1
    have y2 := k2.frozen 2
    have y3 := k2.frozen 3
    have y4 := k2.frozen 4
    have y5 := k2.frozen 5
    have y6 := k2.frozen 6
    have y7 := k2.frozen 7
    have y8 := k2.frozen 8
    have y9 := k2.frozen 9
    have y10 := k2.frozen 10
    have y11 := k2.frozen 11
    have kf := blk_set12 k2 (.int .i64 op) (.bool qt) (.bool fu) (.int .i64 bd) (.int .u32 (oq : Nat)) (.slice K2 nk c1) (.slice V2 nv c2) (.int .u32 (fl : Nat)) (.int .u32 (ex : Nat)) (.int .u64 (cs : Nat)) (.int .u64 (dl : Nat)) (.int .u64 (ni : Nat))
    have hg := grown_set12 wc (w.heap.size + 1) (.int .i64 op) (.bool qt) (.bool fu) (.int .i64 bd) (.int .u32 (oq : Nat)) (.slice K2 nk c1) (.slice V2 nv c2) (.int .u32 (fl : Nat)) (.int .u32 (ex : Nat)) (.int .u64 (cs : Nat)) (.int .u64 (dl : Nat)) (.int .u64 (ni : Nat))
    have bff := b.trans (below_grown hg (by omega) k2.lt)
    obtain ⟨t0, t1, t2, t3, t4, t5, t6, t7, t8, t9, t10, t11⟩ := box12 kf
    have gP := (oP.kept hg (by omega)).more (show w.heap.size ≤ w.heap.size + 2 by omega)
    have gV := (oV.kept hg (by omega)).more (show w.heap.size ≤ w.heap.size + 2 by omega)
    clear kf hg oP oV k1 k2 b
    go_wp2_with fail
    refine bodyPost_ret (v := .agg #[.int .i64 op, .bool qt, .bool fu, .int .i64 bd, .int .u32 (oq : Nat), .slice K2 nk c1, .slice V2 nv c2, .int .u32 (fl : Nat), .int .u32 (ex : Nat), .int .u64 (cs : Nat), .int .u64 (dl : Nat), .int .u64 (ni : Nat)]) (by simp [results, Try.results110, go_sem, t0, t1, t2, t3, t4, t5, t6, t7, t8, t9, t10, t11]) rfl ?_
    exact ⟨K2, c1, V2, c2, rfl, gP, gV, bff⟩
end Go.Proofs.Ytnghmgbmflcngaa

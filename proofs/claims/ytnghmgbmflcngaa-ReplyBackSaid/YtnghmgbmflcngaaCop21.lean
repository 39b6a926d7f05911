/- icehouselaw21.copied. Conditions: typed in each theorem. -/
import Derived.Test.YtnghmgbmflcngaaZrep
import Derived.Test.YtnghmgbmflcngaaZhld
import Derived.Deep.DeepCutAuto
namespace Go.Proofs.Ytnghmgbmflcngaa
set_option linter.unusedVariables false
open Go.RowKit

theorem blk_put7 {w : World} {g : Nat} {T : TypeId} {c0 c1 c2 c3 c4 c5 c6 : Value} (h : Blk w g #[c0, c1, c2, c3, c4, c5, c6] T) (v0 v1 v2 v3 v4 v5 v6 : Value) : Blk (((((((w.setCell ⟨g, 0, none⟩ v0).setCell ⟨g, 1, none⟩ v1).setCell ⟨g, 2, none⟩ v2).setCell ⟨g, 3, none⟩ v3).setCell ⟨g, 4, none⟩ v4).setCell ⟨g, 5, none⟩ v5).setCell ⟨g, 6, none⟩ v6) g #[v0, v1, v2, v3, v4, v5, v6] T := by
  have h0 : Blk _ g #[v0, c1, c2, c3, c4, c5, c6] T := h.set_ 0 v0
  have h1 : Blk _ g #[v0, v1, c2, c3, c4, c5, c6] T := h0.set_ 1 v1
  have h2 : Blk _ g #[v0, v1, v2, c3, c4, c5, c6] T := h1.set_ 2 v2
  have h3 : Blk _ g #[v0, v1, v2, v3, c4, c5, c6] T := h2.set_ 3 v3
  have h4 : Blk _ g #[v0, v1, v2, v3, v4, c5, c6] T := h3.set_ 4 v4
  have h5 : Blk _ g #[v0, v1, v2, v3, v4, v5, c6] T := h4.set_ 5 v5
  have h6 : Blk _ g #[v0, v1, v2, v3, v4, v5, v6] T := h5.set_ 6 v6
  exact h6
theorem grown_put7 (w : World) (g : Nat) (v0 v1 v2 v3 v4 v5 v6 : Value) : w.grownBy (((((((w.setCell ⟨g, 0, none⟩ v0).setCell ⟨g, 1, none⟩ v1).setCell ⟨g, 2, none⟩ v2).setCell ⟨g, 3, none⟩ v3).setCell ⟨g, 4, none⟩ v4).setCell ⟨g, 5, none⟩ v5).setCell ⟨g, 6, none⟩ v6) (some g) := grown_trans (grown_trans (grown_trans (grown_trans (grown_trans (grown_trans (rdr_grown_set w g 0 v0) (rdr_grown_set _ g 1 v1)) (rdr_grown_set _ g 2 v2)) (rdr_grown_set _ g 3 v3)) (rdr_grown_set _ g 4 v4)) (rdr_grown_set _ g 5 v5)) (rdr_grown_set _ g 6 v6)
theorem Oz.base {w : World} {B z n c g : Nat} {e : TypeId} {xs : List Value} (h : Oz w B e z (some ⟨g, 0, none⟩) n c xs) : B ≤ g ∧ g < w.heap.size := World.ownsRow.lt h g rfl
theorem Oz.left {w w' : World} {B z n c g1 g : Nat} {e : TypeId} {xs : List Value} (h : Oz w B e z (some ⟨g1, 0, none⟩) n c xs) (hg : w.grownBy w' (some g)) (hne : g1 ≠ g) : Oz w' B e z (some ⟨g1, 0, none⟩) n c xs :=
  h.grown hg fun k hk => by have e : g1 = k := Option.some.inj hk; omega
theorem Oz.kept {w w' : World} {B z n c g1 g : Nat} {e : TypeId} {xs : List Value} (h : Oz w B e z (some ⟨g1, 0, none⟩) n c xs) (hg : w.grownBy w' (some g)) (hlt : g < B) : Oz w' B e z (some ⟨g1, 0, none⟩) n c xs :=
  h.left hg (by have := h.base; omega)
theorem statfull : (Try.prog.info? 96).map (fun i => (i.size, i.bytes, i.zero.map (fun z => z.cells.size))) = some (2, 32, some 2) := by kernel_rfl
theorem statparts : ∃ i z, Try.prog.info? 96 = some i ∧ i.zero = some z ∧ i.size = 2 ∧ i.bytes = 32 ∧ z.cells.size = 2 := by
  have h := statfull
  cases hi : Try.prog.info? 96 with
  | none => rw [hi] at h; cases h
  | some i =>
    rw [hi] at h
    simp only [Option.map_some, Option.some.injEq, Prod.mk.injEq] at h
    obtain ⟨h1, h2, h3⟩ := h
    cases hz : i.zero with
    | none => rw [hz] at h3; cases h3
    | some z =>
      rw [hz] at h3
      simp only [Option.map_some, Option.some.injEq] at h3
      exact ⟨i, z, rfl, hz, h1, h2, h3⟩
theorem step_apSt (w : World) {ops : Array Oper} {o : Oper} {a : Act} {K : Act → World → Prop} {Q : Exit → Act → World → Prop} {E : Prop}
    (hg : Region.wanted o (yielded ops a.tmps) = true) (s x : Operand) (hop : o.op = Op.call { callee := Callee.builtin Builtin.append, args := #[s, x], argTypes := #[27, 27] })
    (B g n c : Nat) (xs : List Value) (hs : a.eval s = .slice (some ⟨g, 0, none⟩) n c) (hown : Oz w B 96 2 (some ⟨g, 0, none⟩) n c xs)
    (B2 : Nat) (A2 : Option Addr) (m c2 : Nat) (news : List Value) (hx : a.eval x = .slice A2 m c2) (hr : Rz w B2 2 A2 m c2 news) (h1 : ∀ u ∈ news, u.oneCell' = true)
    (hbytes : n + m ≤ 2000000000000) (hbase : B ≤ w.heap.size)
    (hK : ∀ g' c' w', Oz w' B 96 2 (some ⟨g', 0, none⟩) (n + m) c' (xs ++ news) → w.grownBy w' (some g) → (g' = g ∨ g' = w.heap.size) → K (a.put o.dst (.slice (some ⟨g', 0, none⟩) (n + m) c')) w') :
    if Region.wanted o (yielded ops a.tmps) = true then Oper.wp Try.prog o a w K Q else E := by
  rw [if_pos hg]
  obtain ⟨i, z, hi, hz, hsz, hby, hzs⟩ := statparts
  obtain ⟨A', c', w', hrun, r1, r2, r3⟩ := run_appz (P := Try.prog) w B 27 o.type 96 i z 2 32 Try.underlying27 hi hz hsz hby hzs (by omega) (some ⟨g, 0, none⟩) n c xs hown B2 A2 m c2 news hr h1 (by unfold maxLen; omega) (by omega) hbase
  unfold Oper.wp
  simp [execOp, hop, resolve, invoke, builtin, hs, hx, hrun, Result.andThen]
  rcases r1.2 with ⟨hv, -⟩ | ⟨g', cap, cur, hv, -⟩
  · injection hv with e1 e2 e3
    subst e1
    rcases r3 with r3 | r3 <;> cases r3
  · injection hv with e1 e2 e3
    subst e1
    refine hK g' c' w' r1 r2 ?_
    rcases r3 with r3 | r3 <;> injection r3 with r3
    · exact Or.inl r3
    · exact Or.inr r3
theorem st_cells1 (SL : List (ByteArray × ByteArray)) : ∀ u ∈ (SL.map stCells).flatten, u.oneCell' = true := by
  intro u hu
  obtain ⟨l, hl, hu⟩ := List.mem_flatten.1 hu
  obtain ⟨p, -, rfl⟩ := List.mem_map.1 hl
  simp [stCells] at hu
  rcases hu with rfl | rfl <;> rfl
def CopR21 (st : Int) (af ac an : Nat) (cl : Bool) (nv ns : Nat) (lv : List UInt8) (xs : List Value) (w wx : World) : Prop :=
  ∃ g1 c1 g2 c2, Blk wx w.heap.size #[.int .i64 st, .slice (some ⟨g1, 0, none⟩) nv c1, .int .u32 (af : Nat), .int .u64 (ac : Nat), .int .u64 (an : Nat), .slice (some ⟨g2, 0, none⟩) ns c2, .bool cl] 29 ∧ Blk wx (w.heap.size + 1) #[.int .i64 0, .slice none 0 0, .int .u32 0, .int .u64 0, .int .u64 0, .slice none 0 0, .bool false] 29 ∧
    Own wx (w.heap.size + 2) (some ⟨g1, 0, none⟩) nv c1 lv ∧ Oz wx (w.heap.size + 2) 96 2 (some ⟨g2, 0, none⟩) ns c2 xs ∧ Below w.heap.size w wx
/-- What 'copied' gives. -/
def CopyQ21 (st : Int) (af ac an : Nat) (cl : Bool) (nv ns : Nat) (lv : List UInt8) (xs : List Value) (w : World) (e : Ending) (w' : World) : Prop :=
  ∃ A1 c1 A2 c2, e = .returned (ansV st (.slice A1 nv c1) af ac an (.slice A2 ns c2) cl) ∧ Own w' w.heap.size A1 nv c1 lv ∧ Oz w' w.heap.size 96 2 A2 ns c2 xs ∧ Below w.heap.size w w'
set_option maxRecDepth 100000 in
set_option maxHeartbeats 8000000 in
theorem copied21_any (st : Int) (VA : Option Addr) (nv cv : Nat) (lv : List UInt8) (af ac an : Nat) (SA : Option Addr) (ns sc : Nat) (SL : List (ByteArray × ByteArray)) (cl : Bool) (w : World) (rv : Rd w w.heap.size VA nv cv lv) (rs : Rz w w.heap.size 2 SA ns sc (SL.map stCells).flatten) (hnv : nv ≤ 140737488355328) (hns : ns ≤ 1000) :
    Calls Try.prog 23 #[ansV st (.slice VA nv cv) af ac an (.slice SA ns sc) cl] w (CopyQ21 st af ac an cl nv ns lv (SL.map stCells).flatten w) := by
  have h1c := st_cells1 SL
  generalize (SL.map stCells).flatten = xs at rs h1c ⊢
  have k1 := (Blk.new w #[.int .i64 st, .slice VA nv cv, .int .u32 (af : Nat), .int .u64 (ac : Nat), .int .u64 (an : Nat), .slice SA ns sc, .bool cl] 29).alloc (.cells #[.int .i64 0, .slice none 0 0, .int .u32 0, .int .u64 0, .int .u64 0, .slice none 0 0, .bool false] 29)
  have k2 : Blk ((w.alloc (.cells #[.int .i64 st, .slice VA nv cv, .int .u32 (af : Nat), .int .u64 (ac : Nat), .int .u64 (an : Nat), .slice SA ns sc, .bool cl] 29)).alloc (.cells #[.int .i64 0, .slice none 0 0, .int .u32 0, .int .u64 0, .int .u64 0, .slice none 0 0, .bool false] 29)) (w.heap.size + 1) #[.int .i64 0, .slice none 0 0, .int .u32 0, .int .u64 0, .int .u64 0, .slice none 0 0, .bool false] 29 := by
    have := Blk.new (w.alloc (.cells #[.int .i64 st, .slice VA nv cv, .int .u32 (af : Nat), .int .u64 (ac : Nat), .int .u64 (an : Nat), .slice SA ns sc, .bool cl] 29)) #[.int .i64 0, .slice none 0 0, .int .u32 0, .int .u64 0, .int .u64 0, .slice none 0 0, .bool false] 29
    rwa [World.size_alloc] at this
  have b : Below w.heap.size w ((w.alloc (.cells #[.int .i64 st, .slice VA nv cv, .int .u32 (af : Nat), .int .u64 (ac : Nat), .int .u64 (an : Nat), .slice SA ns sc, .bool cl] 29)).alloc (.cells #[.int .i64 0, .slice none 0 0, .int .u32 0, .int .u64 0, .int .u64 0, .slice none 0 0, .bool false] 29)) := below_a1' (below_a1' (Below.refl _ _) _) _
  unfold ansV
  go_enter Try.func23, Try.ntmps23
  go_upto_region 1 with fail
  generalize (w.alloc (.cells #[.int .i64 st, .slice VA nv cv, .int .u32 (af : Nat), .int .u64 (ac : Nat), .int .u64 (an : Nat), .slice SA ns sc, .bool cl] 29)).alloc (.cells #[.int .i64 0, .slice none 0 0, .int .u32 0, .int .u64 0, .int .u64 0, .slice none 0 0, .bool false] 29) = W0 at k1 k2 b ⊢
  go_cut [] (fun wx => CopR21 st af ac an cl nv ns lv xs w wx)
  case first =>
    refine wp_region_noPanic ?_
    refine region_T (fun w' => w'.cell? ⟨w.heap.size, 1, none⟩ = some (.slice VA nv cv) ∧ w'.cell? ⟨w.heap.size, 5, none⟩ = some (.slice SA ns sc)) 9 (by kernel_rfl) ?_
    replace k1 : Blk W0.drew w.heap.size #[.int .i64 st, .slice VA nv cv, .int .u32 (af : Nat), .int .u64 (ac : Nat), .int .u64 (an : Nat), .slice SA ns sc, .bool cl] 29 := k1
    replace k2 : Blk W0.drew (w.heap.size + 1) #[.int .i64 0, .slice none 0 0, .int .u32 0, .int .u64 0, .int .u64 0, .slice none 0 0, .bool false] 29 := k2
    replace b : Below w.heap.size w W0.drew := b.drew
    have hHeld := (show _ ∧ _ from ⟨(box7 k1).2.1, (box7 k1).2.2.2.2.2.1⟩)
    generalize W0.drew = V0 at k1 k2 b hHeld ⊢
    refine takeT (i := 1) (v := ?_) rfl (by kernel_rfl) (by kernel_rfl) (by decide) (by kernel_rfl) (by kernel_rfl) (fun _ _ _ h => h) (Or.inl ⟨by rfl, ?_⟩) hHeld ?_
    rotate_left
    · (intro wx hSw; (try dsimp only at hSw); go_simp; try (with_reducible rfl))
    try simp only [Act.put, List.setIfInBounds_toArray, List.set_cons_zero, List.set_cons_succ]
    refine takeT (i := 2) (v := ?_) rfl (by kernel_rfl) (by kernel_rfl) (by decide) (by kernel_rfl) (by kernel_rfl) (fun _ _ _ h => h) (Or.inl ⟨by rfl, ?_⟩) hHeld ?_
    rotate_left
    · (intro wx hSw; (try dsimp only at hSw); go_simp; try (with_reducible rfl))
    try simp only [Act.put, List.setIfInBounds_toArray, List.set_cons_zero, List.set_cons_succ]
    refine takeT (i := 5) (v := ?_) rfl (by kernel_rfl) (by kernel_rfl) (by decide) (by kernel_rfl) (by kernel_rfl) (fun _ _ _ h => h) (Or.inl ⟨by rfl, ?_⟩) hHeld ?_
    rotate_left
    · (intro wx hSw; (try dsimp only at hSw); go_simp; try (with_reducible rfl))
    try simp only [Act.put, List.setIfInBounds_toArray, List.set_cons_zero, List.set_cons_succ]
    refine takeT (i := 6) (v := ?_) rfl (by kernel_rfl) (by kernel_rfl) (by decide) (by kernel_rfl) (by kernel_rfl) (fun _ _ _ h => h) (Or.inl ⟨by rfl, ?_⟩) hHeld ?_
    rotate_left
    · (intro wx hSw; (try dsimp only at hSw); go_simp; try (with_reducible rfl))
    try simp only [Act.put, List.setIfInBounds_toArray, List.set_cons_zero, List.set_cons_succ]
    refine twoT (i := 0) (j := 4) rfl rfl (by kernel_rfl) (fun K hK => ?_) (fun K hK => ?_)
    · go_simp
      have o0 : Own (V0.alloc (.cells #[] 5)) (w.heap.size + 2) (some ⟨V0.heap.size, 0, none⟩) 0 0 [] := Own.emptyK V0 _ _ rfl k2.lt
      have ba := below_a1' (Below.refl V0.heap.size V0) (.cells #[] 5)
      have k1 := k1.alloc (.cells #[] 5)
      have k2 := k2.alloc (.cells #[] 5)
      have b := below_step b ba
      generalize hW : V0.alloc (.cells #[] 5) = V1 at o0 k1 k2 b ba ⊢
      clear hW
      have hl0 := o0.base.2
      have hHeld := (show _ ∧ _ from ⟨(box7 k1).2.1, (box7 k1).2.2.2.2.2.1⟩)
      refine hK.out _ _ (fun _ => hHeld) ?_
      clear hK K
      try simp only [Act.put, List.setIfInBounds_toArray, List.set_cons_zero, List.set_cons_succ]
      refine twoT (i := 3) (j := 4) rfl rfl (by kernel_rfl) (fun K hK => ?_) (fun K hK => ?_)
      · refine step_app8g _ rfl _ _ rfl (w.heap.size + 2) (V0.heap.size) 0 0 [] rfl o0 w.heap.size VA nv cv lv rfl (rv.below b) (by omega) k2.lt ?_
        intro g3 c3 V2 o3 gb3 hg3
        have h0 := o0.base
        simp only [Nat.zero_add, List.nil_append] at o3 ⊢
        have b := b.trans (below_grown gb3 (by omega) h0.2)
        have k1 := k1.left gb3 (by omega)
        have k2 := k2.left gb3 (by omega)
        have hl3 := o3.base.2
        have hHeld := (show _ ∧ _ from ⟨(box7 k1).2.1, (box7 k1).2.2.2.2.2.1⟩)
        refine hK.out _ _ (fun _ => hHeld) ?_
        clear hK K
        try simp only [Act.put, List.setIfInBounds_toArray, List.set_cons_zero, List.set_cons_succ]
        refine takeT (i := 8) (v := ?_) rfl (by kernel_rfl) (by kernel_rfl) (by decide) (by kernel_rfl) (by kernel_rfl) (fun _ _ _ h => h) (Or.inl ⟨by rfl, ?_⟩) hHeld ?_
        rotate_left
        · (intro wx hSw; (try dsimp only at hSw); go_simp; try (with_reducible rfl))
        try simp only [Act.put, List.setIfInBounds_toArray, List.set_cons_zero, List.set_cons_succ]
        refine oneT (i := 4) rfl (by kernel_rfl) (fun K hK => ?_)
        go_simp
        have o4 : Oz (V2.alloc (.cells #[] 96)) (w.heap.size + 2) 96 2 (some ⟨V2.heap.size, 0, none⟩) 0 0 [] := Oz.emptyK V2 _ _ _ _ rfl k2.lt
        have ba := below_a1' (Below.refl V2.heap.size V2) (.cells #[] 96)
        have k1 := k1.alloc (.cells #[] 96)
        have k2 := k2.alloc (.cells #[] 96)
        have b := below_step b ba
        have o3 := o3.below ba
        generalize hW : V2.alloc (.cells #[] 96) = V3 at o4 k1 k2 b ba o3 ⊢
        clear hW
        have hl4 := o4.base.2
        have hHeld := (show _ ∧ _ from ⟨(box7 k1).2.1, (box7 k1).2.2.2.2.2.1⟩)
        refine hK.out _ _ (fun _ => hHeld) ?_
        clear hK K
        try simp only [Act.put, List.setIfInBounds_toArray, List.set_cons_zero, List.set_cons_succ]
        refine oneT (i := 7) rfl (by kernel_rfl) (fun K hK => ?_)
        refine step_apSt _ rfl _ _ rfl (w.heap.size + 2) (V2.heap.size) 0 0 [] rfl o4 w.heap.size SA ns sc _ rfl (rs.below b) h1c (by omega) k2.lt ?_
        intro g7 c7 V4 o7 gb7 hg7
        have h4 := o4.base
        simp only [Nat.zero_add, List.nil_append] at o7 ⊢
        have b := b.trans (below_grown gb7 (by omega) h4.2)
        have k1 := k1.left gb7 (by omega)
        have k2 := k2.left gb7 (by omega)
        have o3 := o3.left gb7 (by have := o3.base; omega)
        have hl7 := o7.base.2
        have hHeld := (show _ ∧ _ from ⟨(box7 k1).2.1, (box7 k1).2.2.2.2.2.1⟩)
        refine hK.out _ _ (fun _ => hHeld) ?_
        clear hK K
        try simp only [Act.put, List.setIfInBounds_toArray, List.set_cons_zero, List.set_cons_succ]
        have y1 := k1.frozen 1
        have y5 := k1.frozen 5
        refine oneT (i := 9) rfl (by kernel_rfl) (fun K hK => ?_)
        go_simp
        refine hK.out _ _ (fun h => absurd h (by decide)) ?_
        clear hK K
        try simp only [Act.put, List.setIfInBounds_toArray, List.set_cons_zero, List.set_cons_succ]
        refine oneT (i := 10) rfl (by kernel_rfl) (fun K hK => ?_)
        go_simp
        refine hK.out _ _ (fun h => absurd h (by decide)) ?_
        clear hK K
        try simp only [Act.put, List.setIfInBounds_toArray, List.set_cons_zero, List.set_cons_succ]
        refine oneT (i := 11) rfl (by kernel_rfl) (fun K hK => ?_)
        go_simp
        refine hK.out _ _ (fun h => absurd h (by decide)) ?_
        clear hK K
        try simp only [Act.put, List.setIfInBounds_toArray, List.set_cons_zero, List.set_cons_succ]
        refine doneT (by kernel_rfl) ?_ _
        refine NoPanic.normal ?_
        go_wp2_with fail
        go_meet
        have gs := grown_trans (rdr_grown_set V4 w.heap.size 1 (.slice (some ⟨g3, 0, none⟩) nv c3)) (rdr_grown_set _ w.heap.size 5 (.slice (some ⟨g7, 0, none⟩) ns c7))
        exact ⟨g3, c3, g7, c7, (k1.set_ 1 (.slice (some ⟨g3, 0, none⟩) nv c3)).set_ 5 (.slice (some ⟨g7, 0, none⟩) ns c7), k2.left gs (by omega), o3.kept gs (by omega), o7.kept gs (by omega), b.trans (below_grown gs (Nat.le_refl _) k1.lt)⟩
      · go_simp
        have o4 : Oz (V1.alloc (.cells #[] 96)) (w.heap.size + 2) 96 2 (some ⟨V1.heap.size, 0, none⟩) 0 0 [] := Oz.emptyK V1 _ _ _ _ rfl k2.lt
        have ba := below_a1' (Below.refl V1.heap.size V1) (.cells #[] 96)
        have k1 := k1.alloc (.cells #[] 96)
        have k2 := k2.alloc (.cells #[] 96)
        have b := below_step b ba
        have o0 := o0.below ba
        generalize hW : V1.alloc (.cells #[] 96) = V2 at o4 k1 k2 b ba o0 ⊢
        clear hW
        have hl4 := o4.base.2
        have hHeld := (show _ ∧ _ from ⟨(box7 k1).2.1, (box7 k1).2.2.2.2.2.1⟩)
        refine hK.out _ _ (fun _ => hHeld) ?_
        clear hK K
        try simp only [Act.put, List.setIfInBounds_toArray, List.set_cons_zero, List.set_cons_succ]
        refine oneT (i := 3) rfl (by kernel_rfl) (fun K hK => ?_)
        refine step_app8g _ rfl _ _ rfl (w.heap.size + 2) (V0.heap.size) 0 0 [] rfl o0 w.heap.size VA nv cv lv rfl (rv.below b) (by omega) k2.lt ?_
        intro g3 c3 V3 o3 gb3 hg3
        have h0 := o0.base
        simp only [Nat.zero_add, List.nil_append] at o3 ⊢
        have b := b.trans (below_grown gb3 (by omega) h0.2)
        have k1 := k1.left gb3 (by omega)
        have k2 := k2.left gb3 (by omega)
        have o4 := o4.left gb3 (by have := o4.base; omega)
        have hl3 := o3.base.2
        have hHeld := (show _ ∧ _ from ⟨(box7 k1).2.1, (box7 k1).2.2.2.2.2.1⟩)
        refine hK.out _ _ (fun _ => hHeld) ?_
        clear hK K
        try simp only [Act.put, List.setIfInBounds_toArray, List.set_cons_zero, List.set_cons_succ]
        refine takeT (i := 8) (v := ?_) rfl (by kernel_rfl) (by kernel_rfl) (by decide) (by kernel_rfl) (by kernel_rfl) (fun _ _ _ h => h) (Or.inl ⟨by rfl, ?_⟩) hHeld ?_
        rotate_left
        · (intro wx hSw; (try dsimp only at hSw); go_simp; try (with_reducible rfl))
        try simp only [Act.put, List.setIfInBounds_toArray, List.set_cons_zero, List.set_cons_succ]
        refine oneT (i := 7) rfl (by kernel_rfl) (fun K hK => ?_)
        refine step_apSt _ rfl _ _ rfl (w.heap.size + 2) (V1.heap.size) 0 0 [] rfl o4 w.heap.size SA ns sc _ rfl (rs.below b) h1c (by omega) k2.lt ?_
        intro g7 c7 V4 o7 gb7 hg7
        have h4 := o4.base
        simp only [Nat.zero_add, List.nil_append] at o7 ⊢
        have b := b.trans (below_grown gb7 (by omega) h4.2)
        have k1 := k1.left gb7 (by omega)
        have k2 := k2.left gb7 (by omega)
        have o3 := o3.left gb7 (by have := o3.base; omega)
        have hl7 := o7.base.2
        have hHeld := (show _ ∧ _ from ⟨(box7 k1).2.1, (box7 k1).2.2.2.2.2.1⟩)
        refine hK.out _ _ (fun _ => hHeld) ?_
        clear hK K
        try simp only [Act.put, List.setIfInBounds_toArray, List.set_cons_zero, List.set_cons_succ]
        have y1 := k1.frozen 1
        have y5 := k1.frozen 5
        refine oneT (i := 9) rfl (by kernel_rfl) (fun K hK => ?_)
        go_simp
        refine hK.out _ _ (fun h => absurd h (by decide)) ?_
        clear hK K
        try simp only [Act.put, List.setIfInBounds_toArray, List.set_cons_zero, List.set_cons_succ]
        refine oneT (i := 10) rfl (by kernel_rfl) (fun K hK => ?_)
        go_simp
        refine hK.out _ _ (fun h => absurd h (by decide)) ?_
        clear hK K
        try simp only [Act.put, List.setIfInBounds_toArray, List.set_cons_zero, List.set_cons_succ]
        refine oneT (i := 11) rfl (by kernel_rfl) (fun K hK => ?_)
        go_simp
        refine hK.out _ _ (fun h => absurd h (by decide)) ?_
        clear hK K
        try simp only [Act.put, List.setIfInBounds_toArray, List.set_cons_zero, List.set_cons_succ]
        refine doneT (by kernel_rfl) ?_ _
        refine NoPanic.normal ?_
        go_wp2_with fail
        go_meet
        have gs := grown_trans (rdr_grown_set V4 w.heap.size 1 (.slice (some ⟨g3, 0, none⟩) nv c3)) (rdr_grown_set _ w.heap.size 5 (.slice (some ⟨g7, 0, none⟩) ns c7))
        exact ⟨g3, c3, g7, c7, (k1.set_ 1 (.slice (some ⟨g3, 0, none⟩) nv c3)).set_ 5 (.slice (some ⟨g7, 0, none⟩) ns c7), k2.left gs (by omega), o3.kept gs (by omega), o7.kept gs (by omega), b.trans (below_grown gs (Nat.le_refl _) k1.lt)⟩
    · go_simp
      have o4 : Oz (V0.alloc (.cells #[] 96)) (w.heap.size + 2) 96 2 (some ⟨V0.heap.size, 0, none⟩) 0 0 [] := Oz.emptyK V0 _ _ _ _ rfl k2.lt
      have ba := below_a1' (Below.refl V0.heap.size V0) (.cells #[] 96)
      have k1 := k1.alloc (.cells #[] 96)
      have k2 := k2.alloc (.cells #[] 96)
      have b := below_step b ba
      generalize hW : V0.alloc (.cells #[] 96) = V1 at o4 k1 k2 b ba ⊢
      clear hW
      have hl4 := o4.base.2
      have hHeld := (show _ ∧ _ from ⟨(box7 k1).2.1, (box7 k1).2.2.2.2.2.1⟩)
      refine hK.out _ _ (fun _ => hHeld) ?_
      clear hK K
      try simp only [Act.put, List.setIfInBounds_toArray, List.set_cons_zero, List.set_cons_succ]
      refine oneT (i := 0) rfl (by kernel_rfl) (fun K hK => ?_)
      go_simp
      have o0 : Own (V1.alloc (.cells #[] 5)) (w.heap.size + 2) (some ⟨V1.heap.size, 0, none⟩) 0 0 [] := Own.emptyK V1 _ _ rfl k2.lt
      have ba := below_a1' (Below.refl V1.heap.size V1) (.cells #[] 5)
      have k1 := k1.alloc (.cells #[] 5)
      have k2 := k2.alloc (.cells #[] 5)
      have b := below_step b ba
      have o4 := o4.below ba
      generalize hW : V1.alloc (.cells #[] 5) = V2 at o0 k1 k2 b ba o4 ⊢
      clear hW
      have hl0 := o0.base.2
      have hHeld := (show _ ∧ _ from ⟨(box7 k1).2.1, (box7 k1).2.2.2.2.2.1⟩)
      refine hK.out _ _ (fun _ => hHeld) ?_
      clear hK K
      try simp only [Act.put, List.setIfInBounds_toArray, List.set_cons_zero, List.set_cons_succ]
      refine oneT (i := 3) rfl (by kernel_rfl) (fun K hK => ?_)
      refine step_app8g _ rfl _ _ rfl (w.heap.size + 2) (V1.heap.size) 0 0 [] rfl o0 w.heap.size VA nv cv lv rfl (rv.below b) (by omega) k2.lt ?_
      intro g3 c3 V3 o3 gb3 hg3
      have h0 := o0.base
      simp only [Nat.zero_add, List.nil_append] at o3 ⊢
      have b := b.trans (below_grown gb3 (by omega) h0.2)
      have k1 := k1.left gb3 (by omega)
      have k2 := k2.left gb3 (by omega)
      have o4 := o4.left gb3 (by have := o4.base; omega)
      have hl3 := o3.base.2
      have hHeld := (show _ ∧ _ from ⟨(box7 k1).2.1, (box7 k1).2.2.2.2.2.1⟩)
      refine hK.out _ _ (fun _ => hHeld) ?_
      clear hK K
      try simp only [Act.put, List.setIfInBounds_toArray, List.set_cons_zero, List.set_cons_succ]
      refine takeT (i := 8) (v := ?_) rfl (by kernel_rfl) (by kernel_rfl) (by decide) (by kernel_rfl) (by kernel_rfl) (fun _ _ _ h => h) (Or.inl ⟨by rfl, ?_⟩) hHeld ?_
      rotate_left
      · (intro wx hSw; (try dsimp only at hSw); go_simp; try (with_reducible rfl))
      try simp only [Act.put, List.setIfInBounds_toArray, List.set_cons_zero, List.set_cons_succ]
      refine oneT (i := 7) rfl (by kernel_rfl) (fun K hK => ?_)
      refine step_apSt _ rfl _ _ rfl (w.heap.size + 2) (V0.heap.size) 0 0 [] rfl o4 w.heap.size SA ns sc _ rfl (rs.below b) h1c (by omega) k2.lt ?_
      intro g7 c7 V4 o7 gb7 hg7
      have h4 := o4.base
      simp only [Nat.zero_add, List.nil_append] at o7 ⊢
      have b := b.trans (below_grown gb7 (by omega) h4.2)
      have k1 := k1.left gb7 (by omega)
      have k2 := k2.left gb7 (by omega)
      have o3 := o3.left gb7 (by have := o3.base; omega)
      have hl7 := o7.base.2
      have hHeld := (show _ ∧ _ from ⟨(box7 k1).2.1, (box7 k1).2.2.2.2.2.1⟩)
      refine hK.out _ _ (fun _ => hHeld) ?_
      clear hK K
      try simp only [Act.put, List.setIfInBounds_toArray, List.set_cons_zero, List.set_cons_succ]
      have y1 := k1.frozen 1
      have y5 := k1.frozen 5
      refine oneT (i := 9) rfl (by kernel_rfl) (fun K hK => ?_)
      go_simp
      refine hK.out _ _ (fun h => absurd h (by decide)) ?_
      clear hK K
      try simp only [Act.put, List.setIfInBounds_toArray, List.set_cons_zero, List.set_cons_succ]
      refine oneT (i := 10) rfl (by kernel_rfl) (fun K hK => ?_)
      go_simp
      refine hK.out _ _ (fun h => absurd h (by decide)) ?_
      clear hK K
      try simp only [Act.put, List.setIfInBounds_toArray, List.set_cons_zero, List.set_cons_succ]
      refine oneT (i := 11) rfl (by kernel_rfl) (fun K hK => ?_)
      go_simp
      refine hK.out _ _ (fun h => absurd h (by decide)) ?_
      clear hK K
      try simp only [Act.put, List.setIfInBounds_toArray, List.set_cons_zero, List.set_cons_succ]
      refine doneT (by kernel_rfl) ?_ _
      refine NoPanic.normal ?_
      go_wp2_with fail
      go_meet
      have gs := grown_trans (rdr_grown_set V4 w.heap.size 1 (.slice (some ⟨g3, 0, none⟩) nv c3)) (rdr_grown_set _ w.heap.size 5 (.slice (some ⟨g7, 0, none⟩) ns c7))
      exact ⟨g3, c3, g7, c7, (k1.set_ 1 (.slice (some ⟨g3, 0, none⟩) nv c3)).set_ 5 (.slice (some ⟨g7, 0, none⟩) ns c7), k2.left gs (by omega), o3.kept gs (by omega), o7.kept gs (by omega), b.trans (below_grown gs (Nat.le_refl _) k1.lt)⟩
  case rest =>
    obtain ⟨g1, c1, g2, c2, k1, k2, oP, oV, b⟩ := hcut
    obtain ⟨q0, q1, q2, q3, q4, q5, q6⟩ := box7 k1
    obtain ⟨z0, z1, z2, z3, z4, z5, z6⟩ := box7 k2
    have y0 := k2.frozen 0
    have y1 := k2.frozen 1
    have y2 := k2.frozen 2
    have y3 := k2.frozen 3
    have y4 := k2.frozen 4
    have y5 := k2.frozen 5
    have y6 := k2.frozen 6
    have kf := blk_put7 k2 (.int .i64 st) (.slice (some ⟨g1, 0, none⟩) nv c1) (.int .u32 (af : Nat)) (.int .u64 (ac : Nat)) (.int .u64 (an : Nat)) (.slice (some ⟨g2, 0, none⟩) ns c2) (.bool cl)
    have hg := grown_put7 wc (w.heap.size + 1) (.int .i64 st) (.slice (some ⟨g1, 0, none⟩) nv c1) (.int .u32 (af : Nat)) (.int .u64 (ac : Nat)) (.int .u64 (an : Nat)) (.slice (some ⟨g2, 0, none⟩) ns c2) (.bool cl)
    have bff := b.trans (below_grown hg (by omega) k2.lt)
    obtain ⟨t0, t1, t2, t3, t4, t5, t6⟩ := box7 kf
    have gP := (oP.kept hg (by omega)).more (show w.heap.size ≤ w.heap.size + 2 by omega)
    have gV := (oV.kept hg (by omega)).more (show w.heap.size ≤ w.heap.size + 2 by omega)
    clear kf hg oP oV k1 k2 b
    go_wp2_with fail
    refine bodyPost_ret (v := .agg #[.int .i64 st, .slice (some ⟨g1, 0, none⟩) nv c1, .int .u32 (af : Nat), .int .u64 (ac : Nat), .int .u64 (an : Nat), .slice (some ⟨g2, 0, none⟩) ns c2, .bool cl]) (by simp [results, Try.results23, go_sem, t0, t1, t2, t3, t4, t5, t6]) rfl ?_
    exact ⟨some ⟨g1, 0, none⟩, c1, some ⟨g2, 0, none⟩, c2, rfl, gP, gV, bff⟩
end Go.Proofs.Ytnghmgbmflcngaa

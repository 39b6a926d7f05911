/- ParseRequests: which request a frame is, or why it is refused. Conditions: none. -/
import Derived.Test.YtnghmgbmflcngaaRqn
import Derived.Test.YtnghmgbmflcngaaMst
import Derived.Test.YtnghmgbmflcngaaZpar
import Derived.Test.YtnghmgbmflcngaaZhld
import Derived.Test.YtnghmgbmflcngaaQrq
import Derived.Test.YtnghmgbmflcngaaPrs
import Derived.Test.YtnghmgbmflcngaaZfre
import Derived.Test.YtnghmgbmflcngaaQsho
import Derived.Test.YtnghmgbmflcngaaPabw
import Derived.Test.YtnghmgbmflcngaaWk20
import Derived.Test.YtnghmgbmflcngaaClo
import Derived.Test.YtnghmgbmflcngaaOpen
namespace Go.Proofs.Ytnghmgbmflcngaa
set_option linter.unusedVariables false
open Go.ChangeShapes Go.WideShapes Go.ChangeAt Go.RowKit

theorem Wr.stepQ {w w' : World} {B U n : Nat} {A : Option Addr} (h : Wr w B U A n) (b : Below w.heap.size w w') : Wr w' B U A n := by
  rcases h with h | ⟨g, cs, hA, hB, hU, hh, hn⟩
  · exact Or.inl h
  · exact Or.inr ⟨g, cs, hA, hB, hU, (b.block g (Array.getElem?_eq_some_iff.1 hh).1).trans hh, hn⟩
theorem Wr.up {w : World} {B U U' n : Nat} {A : Option Addr} (h : Wr w B U A n) (hU' : U ≤ U') : Wr w B U' A n := by
  rcases h with h | ⟨g, cs, hA, hB, hU, hh, hn⟩
  · exact Or.inl h
  · exact Or.inr ⟨g, cs, hA, hB, Nat.lt_of_lt_of_le hU hU', hh, hn⟩
theorem ltN17 : ∀ i, i < 17 → i = 0 ∨ i = 1 ∨ i = 2 ∨ i = 3 ∨ i = 4 ∨ i = 5 ∨ i = 6 ∨ i = 7 ∨ i = 8 ∨ i = 9 ∨ i = 10 ∨ i = 11 ∨ i = 12 ∨ i = 13 ∨ i = 14 ∨ i = 15 ∨ i = 16 := by decide
def RqP (q : RQ) (w : World) (e : Ending) (w' : World) : Prop := ∃ (K7 V7 : Option Addr) (nk7 ck7 nv7 cv7 : Nat), e = .returned (.agg #[.int .i64 q.op, .bool q.qt, .bool q.fu, .int .i64 q.bd, .int .u32 (q.oq : Nat), .slice K7 nk7 ck7, .slice V7 nv7 cv7, .int .u32 (q.fl : Nat), .int .u32 (q.ex : Nat), .int .u64 (q.cs : Nat), .int .u64 (q.dl : Nat), .int .u64 (q.ni : Nat)]) ∧ Own w' w.heap.size K7 nk7 ck7 q.lk ∧ Own w' w.heap.size V7 nv7 cv7 q.lv ∧ Below w.heap.size w w'
set_option maxRecDepth 100000 in
set_option maxHeartbeats 8000000 in
theorem preqs_no1 (mg op kl el ty st bl oq cas : Nat) (X K V : Option Addr) (nx cx nk ck nv cv mx mk mv : Nat) (ux uk uv : List UInt8) (w : World) (hm1 : mx ≤ 300) (hm2 : mk ≤ 3000) (hm3 : mv ≤ 3000)
    (HSH : Hid (∀ W, Below w.heap.size w W → Calls Try.prog 52 #[.agg #[.int .u8 (mg : Nat), .int .u8 (op : Nat), .int .u16 (kl : Nat), .int .u8 (el : Nat), .int .u8 (ty : Nat), .int .u16 (st : Nat), .int .u32 (bl : Nat), .int .u32 (oq : Nat), .int .u64 (cas : Nat), .slice X nx cx, .slice K nk ck, .slice V nv cv]] W (ShortP w.heap.size mg op kl el ty st bl oq cas mx mk mv ux uk uv W)))
    (HFS : Hid (∀ W X4 cx4 K4 ck4 V4 cv4 X5 cx5 K5 ck5 V5 cv5, Rd W W.heap.size X4 mx cx4 ux → Rd W W.heap.size K4 mk ck4 uk → Rd W W.heap.size V4 mv cv4 uv → Rd W W.heap.size X5 mx cx5 ux → Rd W W.heap.size K5 mk ck5 uk → Rd W W.heap.size V5 mv cv5 uv → Calls Try.prog 47 #[.agg #[.int .u8 (mg : Nat), .int .u8 (op : Nat), .int .u16 (kl : Nat), .int .u8 (el : Nat), .int .u8 (ty : Nat), .int .u16 (st : Nat), .int .u32 (bl : Nat), .int .u32 (oq : Nat), .int .u64 (cas : Nat), .slice X4 mx cx4, .slice K4 mk ck4, .slice V4 mv cv4], .agg #[.int .u8 (mg : Nat), .int .u8 (op : Nat), .int .u16 (kl : Nat), .int .u8 (el : Nat), .int .u8 (ty : Nat), .int .u16 (st : Nat), .int .u32 (bl : Nat), .int .u32 (oq : Nat), .int .u64 (cas : Nat), .slice X5 mx cx5, .slice K5 mk ck5, .slice V5 mv cv5]] W (BoxQ (.bool true) W)))
    (HRQ : Hid (∀ W X4 cx4 K4 ck4 V4 cv4, Rd W W.heap.size X4 mx cx4 ux → Rd W W.heap.size K4 mk ck4 uk → Rd W W.heap.size V4 mv cv4 uv → Calls Try.prog 53 #[.agg #[.int .u8 (mg : Nat), .int .u8 (op : Nat), .int .u16 (kl : Nat), .int .u8 (el : Nat), .int .u8 (ty : Nat), .int .u16 (st : Nat), .int .u32 (bl : Nat), .int .u32 (oq : Nat), .int .u64 (cas : Nat), .slice X4 mx cx4, .slice K4 mk ck4, .slice V4 mv cv4]] W (PrqNo W)))
    (we : Int) (hwe : (we != 0) = true)
    (HWR : Hid (∀ W X4 cx4 K4 ck4 V4 cv4, Calls Try.prog 54 #[.agg #[.int .u8 (mg : Nat), .int .u8 (op : Nat), .int .u16 (kl : Nat), .int .u8 (el : Nat), .int .u8 (ty : Nat), .int .u16 (st : Nat), .int .u32 (bl : Nat), .int .u32 (oq : Nat), .int .u64 (cas : Nat), .slice X4 mx cx4, .slice K4 mk ck4, .slice V4 mv cv4]] W (BoxQ (.int .i64 we) W)))
    (HSZ : Hid (∀ W, Calls Try.prog 45 #[.agg #[.int .i64 0, .bool false, .bool false, .int .i64 0, .int .u32 0, .slice none 0 0, .slice none 0 0, .int .u32 0, .int .u32 0, .int .u64 0, .int .u64 0, .int .u64 0], .agg #[.int .i64 0, .bool false, .bool false, .int .i64 0, .int .u32 0, .slice none 0 0, .slice none 0 0, .int .u32 0, .int .u32 0, .int .u64 0, .int .u64 0, .int .u64 0]] W (PSame true W))) :
    Calls Try.prog 12 #[.agg #[.int .u8 (mg : Nat), .int .u8 (op : Nat), .int .u16 (kl : Nat), .int .u8 (el : Nat), .int .u8 (ty : Nat), .int .u16 (st : Nat), .int .u32 (bl : Nat), .int .u32 (oq : Nat), .int .u64 (cas : Nat), .slice X nx cx, .slice K nk ck, .slice V nv cv]] w fun e w' => e = .returned (.bool true) ∧ Below w.heap.size w w' := by
  have k1 := Blk.new w #[.int .u8 (mg : Nat), .int .u8 (op : Nat), .int .u16 (kl : Nat), .int .u8 (el : Nat), .int .u8 (ty : Nat), .int .u16 (st : Nat), .int .u32 (bl : Nat), .int .u32 (oq : Nat), .int .u64 (cas : Nat), .slice X nx cx, .slice K nk ck, .slice V nv cv] 61
  have b : Below w.heap.size w (w.alloc (.cells #[.int .u8 (mg : Nat), .int .u8 (op : Nat), .int .u16 (kl : Nat), .int .u8 (el : Nat), .int .u8 (ty : Nat), .int .u16 (st : Nat), .int .u32 (bl : Nat), .int .u32 (oq : Nat), .int .u64 (cas : Nat), .slice X nx cx, .slice K nk ck, .slice V nv cv] 61)) := below_a1' (Below.refl _ _) _
  go_enter Try.func12, Try.ntmps12
  go_upto_region 1 with fail
  generalize w.alloc (.cells #[.int .u8 (mg : Nat), .int .u8 (op : Nat), .int .u16 (kl : Nat), .int .u8 (el : Nat), .int .u8 (ty : Nat), .int .u16 (st : Nat), .int .u32 (bl : Nat), .int .u32 (oq : Nat), .int .u64 (cas : Nat), .slice X nx cx, .slice K nk ck, .slice V nv cv] 61) = W0 at k1 b ⊢
  go_wp2_with fail
  refine (wakes20 W0).mono ?_
  rintro e w1 ⟨rfl, b1⟩
  replace k1 := k1.step b1
  replace b := below_step b b1
  clear b1
  obtain ⟨a0, a1, a2, a3, a4, a5, a6, a7, a8, a9, a10, a11⟩ := box12 k1
  go_wp2_with fail
  refine (HSH.out _ b).mono ?_
  rintro e w2 ⟨X2, cx2, K2, ck2, V2, cv2, rfl, rX, rK, rV, b1⟩
  replace k1 := k1.step b1
  replace b := below_step b b1
  clear b1 a0 a1 a2 a3 a4 a5 a6 a7 a8 a9 a10 a11
  obtain ⟨z0, z1, z2, z3, z4, z5, z6, z7, z8, z9, z10, z11⟩ := box12 k1
  have y0 := k1.frozen 0
  have y1 := k1.frozen 1
  have y2 := k1.frozen 2
  have y3 := k1.frozen 3
  have y4 := k1.frozen 4
  have y5 := k1.frozen 5
  have y6 := k1.frozen 6
  have y7 := k1.frozen 7
  have y8 := k1.frozen 8
  have y9 := k1.frozen 9
  have y10 := k1.frozen 10
  have y11 := k1.frozen 11
  have kf := blk_set12 k1 (.int .u8 (mg : Nat)) (.int .u8 (op : Nat)) (.int .u16 (kl : Nat)) (.int .u8 (el : Nat)) (.int .u8 (ty : Nat)) (.int .u16 (st : Nat)) (.int .u32 (bl : Nat)) (.int .u32 (oq : Nat)) (.int .u64 (cas : Nat)) (.slice X2 mx cx2) (.slice K2 mk ck2) (.slice V2 mv cv2)
  have hg := grown_set12 w2 w.heap.size (.int .u8 (mg : Nat)) (.int .u8 (op : Nat)) (.int .u16 (kl : Nat)) (.int .u8 (el : Nat)) (.int .u8 (ty : Nat)) (.int .u16 (st : Nat)) (.int .u32 (bl : Nat)) (.int .u32 (oq : Nat)) (.int .u64 (cas : Nat)) (.slice X2 mx cx2) (.slice K2 mk ck2) (.slice V2 mv cv2)
  have b1 := below_grown hg (Nat.le_refl _) k1.lt
  have bff := b.trans b1
  replace rX := rX.below b1
  replace rK := rK.below b1
  replace rV := rV.below b1
  clear b b1 hg k1
  go_upto_region 4 with fail
  clear z0 z1 z2 z3 z4 z5 z6 z7 z8 z9 z10 z11 y0 y1 y2 y3 y4 y5 y6 y7 y8 y9 y10 y11
  generalize (((((((((((w2.setCell ⟨w.heap.size, 0, none⟩ (.int .u8 (mg : Nat))).setCell ⟨w.heap.size, 1, none⟩ (.int .u8 (op : Nat))).setCell ⟨w.heap.size, 2, none⟩ (.int .u16 (kl : Nat))).setCell ⟨w.heap.size, 3, none⟩ (.int .u8 (el : Nat))).setCell ⟨w.heap.size, 4, none⟩ (.int .u8 (ty : Nat))).setCell ⟨w.heap.size, 5, none⟩ (.int .u16 (st : Nat))).setCell ⟨w.heap.size, 6, none⟩ (.int .u32 (bl : Nat))).setCell ⟨w.heap.size, 7, none⟩ (.int .u32 (oq : Nat))).setCell ⟨w.heap.size, 8, none⟩ (.int .u64 (cas : Nat))).setCell ⟨w.heap.size, 9, none⟩ (.slice X2 mx cx2)).setCell ⟨w.heap.size, 10, none⟩ (.slice K2 mk ck2)).setCell ⟨w.heap.size, 11, none⟩ (.slice V2 mv cv2) = W3 at kf bff rX rK rV ⊢
  have k1 := kf
  have b := bff
  clear kf bff
  go_cut [3] (fun s3 wx => ∃ (jb j0 e0 j1 e1 j2 e2 : Nat), s3 = .pointer (some ⟨jb, 0, none⟩) ∧ Blk wx jb #[.int .u8 (mg : Nat), .int .u8 (op : Nat), .int .u16 (kl : Nat), .int .u8 (el : Nat), .int .u8 (ty : Nat), .int .u16 (st : Nat), .int .u32 (bl : Nat), .int .u32 (oq : Nat), .int .u64 (cas : Nat), .slice (some ⟨j0, 0, none⟩) mx e0, .slice (some ⟨j1, 0, none⟩) mk e1, .slice (some ⟨j2, 0, none⟩) mv e2] 61 ∧ Rd wx wx.heap.size (some ⟨j0, 0, none⟩) mx e0 ux ∧ Rd wx wx.heap.size (some ⟨j1, 0, none⟩) mk e1 uk ∧ Rd wx wx.heap.size (some ⟨j2, 0, none⟩) mv e2 uv ∧ Below W3.heap.size W3 wx)
  case first =>
    refine wp_region_noPanic ?_
    refine region_T (fun wx => Blk wx w.heap.size #[.int .u8 (mg : Nat), .int .u8 (op : Nat), .int .u16 (kl : Nat), .int .u8 (el : Nat), .int .u8 (ty : Nat), .int .u16 (st : Nat), .int .u32 (bl : Nat), .int .u32 (oq : Nat), .int .u64 (cas : Nat), .slice X2 mx cx2, .slice K2 mk ck2, .slice V2 mv cv2] 61) 16 (by kernel_rfl) ?_
    have bD : Below W3.heap.size W3 W3.drew := (Below.refl _ _).drew
    have hHeld := k1.step bD
    have rX0 : Rd W3.drew w.heap.size X2 mx cx2 ux := rX
    have rK0 : Rd W3.drew w.heap.size K2 mk ck2 uk := rK
    have rV0 : Rd W3.drew w.heap.size V2 mv cv2 uv := rV
    have hsz0 : W3.drew.heap.size = W3.heap.size := rfl
    have hbs := b.size
    have hbs0 : w.heap.size ≤ W3.drew.heap.size := hbs
    generalize W3.drew = Y0 at bD hHeld rX0 rK0 rV0 hsz0 hbs0 ⊢
    refine takeT (i := 0) (v := ?_) rfl (by kernel_rfl) (by kernel_rfl) (by decide) (by kernel_rfl) (by kernel_rfl) (fun _ _ _ h => h) (Or.inl ⟨by rfl, ?_⟩) hHeld ?_
    rotate_left
    · (intro wx hSw; obtain ⟨a0, a1, a2, a3, a4, a5, a6, a7, a8, a9, a10, a11⟩ := box12 hSw; go_simp; try (with_reducible rfl))
    try simp only [Act.put, List.setIfInBounds_toArray, List.set_cons_zero, List.set_cons_succ]
    refine takeT (i := 1) (v := ?_) rfl (by kernel_rfl) (by kernel_rfl) (by decide) (by kernel_rfl) (by kernel_rfl) (fun _ _ _ h => h) (Or.inl ⟨by rfl, ?_⟩) hHeld ?_
    rotate_left
    · (intro wx hSw; obtain ⟨a0, a1, a2, a3, a4, a5, a6, a7, a8, a9, a10, a11⟩ := box12 hSw; go_simp; try (with_reducible rfl))
    try simp only [Act.put, List.setIfInBounds_toArray, List.set_cons_zero, List.set_cons_succ]
    refine takeT (i := 3) (v := ?_) rfl (by kernel_rfl) (by kernel_rfl) (by decide) (by kernel_rfl) (by kernel_rfl) (fun _ _ _ h => h) (Or.inl ⟨by rfl, ?_⟩) hHeld ?_
    rotate_left
    · (intro wx hSw; obtain ⟨a0, a1, a2, a3, a4, a5, a6, a7, a8, a9, a10, a11⟩ := box12 hSw; go_simp; try (with_reducible rfl))
    try simp only [Act.put, List.setIfInBounds_toArray, List.set_cons_zero, List.set_cons_succ]
    refine takeT (i := 4) (v := ?_) rfl (by kernel_rfl) (by kernel_rfl) (by decide) (by kernel_rfl) (by kernel_rfl) (fun _ _ _ h => h) (Or.inl ⟨by rfl, ?_⟩) hHeld ?_
    rotate_left
    · (intro wx hSw; obtain ⟨a0, a1, a2, a3, a4, a5, a6, a7, a8, a9, a10, a11⟩ := box12 hSw; go_simp; try (with_reducible rfl))
    try simp only [Act.put, List.setIfInBounds_toArray, List.set_cons_zero, List.set_cons_succ]
    refine takeT (i := 7) (v := ?_) rfl (by kernel_rfl) (by kernel_rfl) (by decide) (by kernel_rfl) (by kernel_rfl) (fun _ _ _ h => h) (Or.inl ⟨by rfl, ?_⟩) hHeld ?_
    rotate_left
    · (intro wx hSw; obtain ⟨a0, a1, a2, a3, a4, a5, a6, a7, a8, a9, a10, a11⟩ := box12 hSw; go_simp; try (with_reducible rfl))
    try simp only [Act.put, List.setIfInBounds_toArray, List.set_cons_zero, List.set_cons_succ]
    refine takeT (i := 8) (v := ?_) rfl (by kernel_rfl) (by kernel_rfl) (by decide) (by kernel_rfl) (by kernel_rfl) (fun _ _ _ h => h) (Or.inl ⟨by rfl, ?_⟩) hHeld ?_
    rotate_left
    · (intro wx hSw; obtain ⟨a0, a1, a2, a3, a4, a5, a6, a7, a8, a9, a10, a11⟩ := box12 hSw; go_simp; try (with_reducible rfl))
    try simp only [Act.put, List.setIfInBounds_toArray, List.set_cons_zero, List.set_cons_succ]
    refine takeT (i := 11) (v := ?_) rfl (by kernel_rfl) (by kernel_rfl) (by decide) (by kernel_rfl) (by kernel_rfl) (fun _ _ _ h => h) (Or.inl ⟨by rfl, ?_⟩) hHeld ?_
    rotate_left
    · (intro wx hSw; obtain ⟨a0, a1, a2, a3, a4, a5, a6, a7, a8, a9, a10, a11⟩ := box12 hSw; go_simp; try (with_reducible rfl))
    try simp only [Act.put, List.setIfInBounds_toArray, List.set_cons_zero, List.set_cons_succ]
    refine takeT (i := 12) (v := ?_) rfl (by kernel_rfl) (by kernel_rfl) (by decide) (by kernel_rfl) (by kernel_rfl) (fun _ _ _ h => h) (Or.inl ⟨by rfl, ?_⟩) hHeld ?_
    rotate_left
    · (intro wx hSw; obtain ⟨a0, a1, a2, a3, a4, a5, a6, a7, a8, a9, a10, a11⟩ := box12 hSw; go_simp; try (with_reducible rfl))
    try simp only [Act.put, List.setIfInBounds_toArray, List.set_cons_zero, List.set_cons_succ]
    refine anyT_inv (fun a0 listed a wx => ∃ (b2 b5 b6 b9 b10 b13 b14 b15 b16 : Bool) (v2 v5 v6 v9 v10 v13 v14 v15 : Value) (s : Nat → Option (Nat × Nat × Nat × List UInt8)) (sb : Option Nat), listed = #[true, true, b2, true, true, b5, b6, true, true, b9, b10, true, true, b13, b14, b15, b16] ∧ a = ((((((((a0.put (some 13) v2).put (some 16) v5).put (some 17) v6).put (some 20) v9).put (some 21) v10).put (some 24) v13).put (some 25) v14).put (some 3) v15) ∧ (b2 = true → b5 = false → ∃ g, v2 = .slice (some ⟨g, 0, none⟩) 0 0 ∧ s 0 = some (g, 0, 0, [])) ∧ (b5 = true → ∃ g c, v5 = .slice (some ⟨g, 0, none⟩) mx c ∧ s 0 = some (g, mx, c, ux)) ∧ (b6 = true → b9 = false → ∃ g, v6 = .slice (some ⟨g, 0, none⟩) 0 0 ∧ s 1 = some (g, 0, 0, [])) ∧ (b9 = true → ∃ g c, v9 = .slice (some ⟨g, 0, none⟩) mk c ∧ s 1 = some (g, mk, c, uk)) ∧ (b10 = true → b13 = false → ∃ g, v10 = .slice (some ⟨g, 0, none⟩) 0 0 ∧ s 2 = some (g, 0, 0, [])) ∧ (b13 = true → ∃ g c, v13 = .slice (some ⟨g, 0, none⟩) mv c ∧ s 2 = some (g, mv, c, uv)) ∧ (b14 = true → v14 = .agg #[.int .u8 (mg : Nat), .int .u8 (op : Nat), .int .u16 (kl : Nat), .int .u8 (el : Nat), .int .u8 (ty : Nat), .int .u16 (st : Nat), .int .u32 (bl : Nat), .int .u32 (oq : Nat), .int .u64 (cas : Nat), v5, v9, v13]) ∧ (b15 = true → ∃ g, v15 = .pointer (some ⟨g, 0, none⟩) ∧ sb = some g) ∧ (b15 = false → sb = none) ∧ (b5 = true → b2 = true) ∧ (b9 = true → b6 = true ∧ b5 = true) ∧ (b13 = true → b10 = true ∧ b9 = true) ∧ (b14 = true → b5 = true ∧ b9 = true ∧ b13 = true) ∧ (b16 = true → b2 = true ∧ b5 = true ∧ b6 = true ∧ b9 = true ∧ b10 = true ∧ b13 = true ∧ b14 = true ∧ b15 = true) ∧ (b16 = false → MkS Y0 wx #[.int .u8 0, .int .u8 0, .int .u16 0, .int .u8 0, .int .u8 0, .int .u16 0, .int .u32 0, .int .u32 0, .int .u64 0, .slice none 0 0, .slice none 0 0, .slice none 0 0] 61 s sb) ∧ (b16 = true → ∃ (jb j0 e0 j1 e1 j2 e2 : Nat), v15 = .pointer (some ⟨jb, 0, none⟩) ∧ Blk wx jb #[.int .u8 (mg : Nat), .int .u8 (op : Nat), .int .u16 (kl : Nat), .int .u8 (el : Nat), .int .u8 (ty : Nat), .int .u16 (st : Nat), .int .u32 (bl : Nat), .int .u32 (oq : Nat), .int .u64 (cas : Nat), .slice (some ⟨j0, 0, none⟩) mx e0, .slice (some ⟨j1, 0, none⟩) mk e1, .slice (some ⟨j2, 0, none⟩) mv e2] 61 ∧ Rd wx wx.heap.size (some ⟨j0, 0, none⟩) mx e0 ux ∧ Rd wx wx.heap.size (some ⟨j1, 0, none⟩) mk e1 uk ∧ Rd wx wx.heap.size (some ⟨j2, 0, none⟩) mv e2 uv ∧ Below W3.heap.size W3 wx) ∧ Below W3.heap.size W3 wx) ?_ (by decide) ?_ ?_ ?_
    · exact ⟨false, false, false, false, false, false, false, false, false, undef, undef, undef, undef, undef, undef, undef, undef, fun _ => none, none, rfl, (by simp only [Act.put, List.setIfInBounds_toArray, List.set_cons_zero, List.set_cons_succ]), (fun h => by cases h), (fun h => by cases h), (fun h => by cases h), (fun h => by cases h), (fun h => by cases h), (fun h => by cases h), (fun h => by cases h), (fun h => by cases h), (fun _ => rfl), (fun h => by cases h), (fun h => by cases h), (fun h => by cases h), (fun h => by cases h), (fun h => by cases h), (fun _ => MkS.start), (fun h => by cases h), bD⟩
    · rintro listed a wx ⟨b2, b5, b6, b9, b10, b13, b14, b15, b16, v2, v5, v6, v9, v10, v13, v14, v15, s, sb, rfl, rfl, c2, c5, c6, c9, c10, c13, c14, c15, cn15, w5, w9, w13, w14, w16, cm, cp, bx⟩
      exact k1.step bx
    · intro listed a wx i hI hi
      obtain ⟨b2, b5, b6, b9, b10, b13, b14, b15, b16, v2, v5, v6, v9, v10, v13, v14, v15, s, sb, rfl, ha, c2, c5, c6, c9, c10, c13, c14, c15, cn15, w5, w9, w13, w14, w16, cm, cp, bx⟩ := hI
      simp only [Act.put, List.setIfInBounds_toArray, List.set_cons_zero, List.set_cons_succ] at ha
      subst ha
      obtain ⟨hi1, hi2⟩ := ready_lt hi
      obtain rfl | rfl | rfl | rfl | rfl | rfl | rfl | rfl | rfl | rfl | rfl | rfl | rfl | rfl | rfl | rfl | rfl := ltN17 i hi1
      · cases (show true = false from hi2)
      · cases (show true = false from hi2)
      · obtain rfl : b2 = false := hi2
        obtain rfl : b16 = false := by (cases b16 with | false => rfl | true => (have hh := w16 rfl; simp at hh))
        have hst := cm rfl
        obtain rfl : b5 = false := by (cases b5 with | false => rfl | true => (have hh := w5 rfl; simp at hh))
        replace hst := hst.al 0
        refine ⟨_, rfl, fun KK hK => ?_⟩
        go_simp
        refine hK.out _ _ ?_
        exact ⟨true, false, _, _, _, _, _, _, false, _, v5, v6, v9, v10, v13, v14, v15, _, _, rfl, (by simp only [Act.put, List.setIfInBounds_toArray, List.set_cons_zero, List.set_cons_succ]), (fun _ _ => ⟨_, rfl, updM_at⟩), (fun h => by cases h), (fun h1 h2 => by rw [updM_ne (by decide)]; exact c6 h1 h2), (fun h1 => by rw [updM_ne (by decide)]; exact c9 h1), (fun h1 h2 => by rw [updM_ne (by decide)]; exact c10 h1 h2), (fun h1 => by rw [updM_ne (by decide)]; exact c13 h1), c14, c15, cn15, (fun h => by cases h), w9, w13, w14, (fun h => by cases h), (fun _ => hst), (fun h => by cases h), (below_step bD hst.bel)⟩
      · cases (show true = false from hi2)
      · cases (show true = false from hi2)
      · obtain rfl : b5 = false := hi2
        obtain rfl : b9 = false := by (cases b9 with | false => rfl | true => (have hh := w9 rfl; simp at hh))
        obtain rfl : b14 = false := by (cases b14 with | false => rfl | true => (have hh := w14 rfl; simp at hh))
        obtain rfl : b16 = false := by (cases b16 with | false => rfl | true => (have hh := w16 rfl; simp at hh))
        have hst := cm rfl
        obtain rfl : b2 = true := ready_waits hi (i := 2) (by kernel_rfl)
        obtain ⟨g0, rfl, hs0⟩ := c2 rfl rfl
        refine ⟨_, rfl, fun KK hK => ?_⟩
        refine hst.app 0 hs0 hbs0 rX0 (Nat.le_trans hm1 (by decide)) rfl _ _ rfl rfl rfl ?_
        clear hst
        intro g' c' V' hst
        refine hK.out _ _ ?_
        exact ⟨true, true, _, false, _, _, false, _, false, (.slice (some ⟨g0, 0, none⟩) 0 0), _, v6, v9, v10, v13, v14, v15, _, _, rfl, (by simp only [Act.put, List.setIfInBounds_toArray, List.set_cons_zero, List.set_cons_succ]), (fun _ h => by cases h), (fun _ => ⟨_, _, rfl, updM_at⟩), (fun h1 h2 => by rw [updM_ne (by decide)]; exact c6 h1 h2), (fun h => by cases h), (fun h1 h2 => by rw [updM_ne (by decide)]; exact c10 h1 h2), (fun h1 => by rw [updM_ne (by decide)]; exact c13 h1), (fun h => by cases h), c15, cn15, (fun _ => rfl), (fun h => by cases h), w13, (fun h => by cases h), (fun h => by cases h), (fun _ => hst), (fun h => by cases h), (below_step bD hst.bel)⟩
      · obtain rfl : b6 = false := hi2
        obtain rfl : b16 = false := by (cases b16 with | false => rfl | true => (have hh := w16 rfl; simp at hh))
        have hst := cm rfl
        obtain rfl : b9 = false := by (cases b9 with | false => rfl | true => (have hh := w9 rfl; simp at hh))
        replace hst := hst.al 1
        refine ⟨_, rfl, fun KK hK => ?_⟩
        go_simp
        refine hK.out _ _ ?_
        exact ⟨_, _, true, false, _, _, _, _, false, v2, v5, _, v9, v10, v13, v14, v15, _, _, rfl, (by simp only [Act.put, List.setIfInBounds_toArray, List.set_cons_zero, List.set_cons_succ]), (fun h1 h2 => by rw [updM_ne (by decide)]; exact c2 h1 h2), (fun h1 => by rw [updM_ne (by decide)]; exact c5 h1), (fun _ _ => ⟨_, rfl, updM_at⟩), (fun h => by cases h), (fun h1 h2 => by rw [updM_ne (by decide)]; exact c10 h1 h2), (fun h1 => by rw [updM_ne (by decide)]; exact c13 h1), c14, c15, cn15, w5, (fun h => by cases h), w13, w14, (fun h => by cases h), (fun _ => hst), (fun h => by cases h), (below_step bD hst.bel)⟩
      · cases (show true = false from hi2)
      · cases (show true = false from hi2)
      · obtain rfl : b9 = false := hi2
        obtain rfl : b13 = false := by (cases b13 with | false => rfl | true => (have hh := w13 rfl; simp at hh))
        obtain rfl : b14 = false := by (cases b14 with | false => rfl | true => (have hh := w14 rfl; simp at hh))
        obtain rfl : b16 = false := by (cases b16 with | false => rfl | true => (have hh := w16 rfl; simp at hh))
        have hst := cm rfl
        obtain rfl : b6 = true := ready_waits hi (i := 6) (by kernel_rfl)
        obtain rfl : b5 = true := ready_waits hi (i := 5) (by kernel_rfl)
        obtain ⟨g1, rfl, hs1⟩ := c6 rfl rfl
        refine ⟨_, rfl, fun KK hK => ?_⟩
        refine hst.app 1 hs1 hbs0 rK0 (Nat.le_trans hm2 (by decide)) rfl _ _ rfl rfl rfl ?_
        clear hst
        intro g' c' V' hst
        refine hK.out _ _ ?_
        exact ⟨_, true, true, true, _, false, false, _, false, v2, v5, (.slice (some ⟨g1, 0, none⟩) 0 0), _, v10, v13, v14, v15, _, _, rfl, (by simp only [Act.put, List.setIfInBounds_toArray, List.set_cons_zero, List.set_cons_succ]), (fun h1 h2 => by rw [updM_ne (by decide)]; exact c2 h1 h2), (fun h1 => by rw [updM_ne (by decide)]; exact c5 h1), (fun _ h => by cases h), (fun _ => ⟨_, _, rfl, updM_at⟩), (fun h1 h2 => by rw [updM_ne (by decide)]; exact c10 h1 h2), (fun h => by cases h), (fun h => by cases h), c15, cn15, w5, (fun _ => ⟨rfl, rfl⟩), (fun h => by cases h), (fun h => by cases h), (fun h => by cases h), (fun _ => hst), (fun h => by cases h), (below_step bD hst.bel)⟩
      · obtain rfl : b10 = false := hi2
        obtain rfl : b16 = false := by (cases b16 with | false => rfl | true => (have hh := w16 rfl; simp at hh))
        have hst := cm rfl
        obtain rfl : b13 = false := by (cases b13 with | false => rfl | true => (have hh := w13 rfl; simp at hh))
        replace hst := hst.al 2
        refine ⟨_, rfl, fun KK hK => ?_⟩
        go_simp
        refine hK.out _ _ ?_
        exact ⟨_, _, _, _, true, false, _, _, false, v2, v5, v6, v9, _, v13, v14, v15, _, _, rfl, (by simp only [Act.put, List.setIfInBounds_toArray, List.set_cons_zero, List.set_cons_succ]), (fun h1 h2 => by rw [updM_ne (by decide)]; exact c2 h1 h2), (fun h1 => by rw [updM_ne (by decide)]; exact c5 h1), (fun h1 h2 => by rw [updM_ne (by decide)]; exact c6 h1 h2), (fun h1 => by rw [updM_ne (by decide)]; exact c9 h1), (fun _ _ => ⟨_, rfl, updM_at⟩), (fun h => by cases h), c14, c15, cn15, w5, w9, (fun h => by cases h), w14, (fun h => by cases h), (fun _ => hst), (fun h => by cases h), (below_step bD hst.bel)⟩
      · cases (show true = false from hi2)
      · cases (show true = false from hi2)
      · obtain rfl : b13 = false := hi2
        obtain rfl : b14 = false := by (cases b14 with | false => rfl | true => (have hh := w14 rfl; simp at hh))
        obtain rfl : b16 = false := by (cases b16 with | false => rfl | true => (have hh := w16 rfl; simp at hh))
        have hst := cm rfl
        obtain rfl : b10 = true := ready_waits hi (i := 10) (by kernel_rfl)
        obtain rfl : b9 = true := ready_waits hi (i := 9) (by kernel_rfl)
        obtain ⟨g2, rfl, hs2⟩ := c10 rfl rfl
        refine ⟨_, rfl, fun KK hK => ?_⟩
        refine hst.app 2 hs2 hbs0 rV0 (Nat.le_trans hm3 (by decide)) rfl _ _ rfl rfl rfl ?_
        clear hst
        intro g' c' V' hst
        refine hK.out _ _ ?_
        exact ⟨_, _, _, true, true, true, false, _, false, v2, v5, v6, v9, (.slice (some ⟨g2, 0, none⟩) 0 0), _, v14, v15, _, _, rfl, (by simp only [Act.put, List.setIfInBounds_toArray, List.set_cons_zero, List.set_cons_succ]), (fun h1 h2 => by rw [updM_ne (by decide)]; exact c2 h1 h2), (fun h1 => by rw [updM_ne (by decide)]; exact c5 h1), (fun h1 h2 => by rw [updM_ne (by decide)]; exact c6 h1 h2), (fun h1 => by rw [updM_ne (by decide)]; exact c9 h1), (fun _ h => by cases h), (fun _ => ⟨_, _, rfl, updM_at⟩), (fun h => by cases h), c15, cn15, w5, w9, (fun _ => ⟨rfl, rfl⟩), (fun h => by cases h), (fun h => by cases h), (fun _ => hst), (fun h => by cases h), (below_step bD hst.bel)⟩
      · obtain rfl : b14 = false := hi2
        obtain rfl : b16 = false := by (cases b16 with | false => rfl | true => (have hh := w16 rfl; simp at hh))
        have hst := cm rfl
        obtain rfl : b5 = true := ready_waits hi (i := 5) (by kernel_rfl)
        obtain rfl : b9 = true := ready_waits hi (i := 9) (by kernel_rfl)
        obtain rfl : b13 = true := ready_waits hi (i := 13) (by kernel_rfl)
        obtain ⟨g0, d0, rfl, hs0⟩ := c5 rfl
        obtain ⟨g1, d1, rfl, hs1⟩ := c9 rfl
        obtain ⟨g2, d2, rfl, hs2⟩ := c13 rfl
        refine ⟨_, rfl, fun KK hK => ?_⟩
        go_simp
        refine hK.out _ _ ?_
        exact ⟨_, true, _, true, _, true, true, _, false, v2, _, v6, _, v10, _, _, v15, _, _, rfl, (by simp only [Act.put, List.setIfInBounds_toArray, List.set_cons_zero, List.set_cons_succ]), c2, (fun _ => ⟨_, _, rfl, hs0⟩), c6, (fun _ => ⟨_, _, rfl, hs1⟩), c10, (fun _ => ⟨_, _, rfl, hs2⟩), (fun _ => rfl), c15, cn15, w5, w9, w13, (fun _ => ⟨rfl, rfl, rfl⟩), (fun h => by cases h), (fun _ => hst), (fun h => by cases h), (below_step bD hst.bel)⟩
      · obtain rfl : b15 = false := hi2
        obtain rfl : b16 = false := by (cases b16 with | false => rfl | true => (have hh := w16 rfl; simp at hh))
        have hst := cm rfl
        obtain rfl := cn15 rfl
        replace hst := hst.bx
        refine ⟨_, rfl, fun KK hK => ?_⟩
        go_simp
        refine hK.out _ _ ?_
        exact ⟨_, _, _, _, _, _, _, true, false, v2, v5, v6, v9, v10, v13, v14, _, _, _, rfl, (by simp only [Act.put, List.setIfInBounds_toArray, List.set_cons_zero, List.set_cons_succ]), c2, c5, c6, c9, c10, c13, c14, (fun _ => ⟨_, rfl, rfl⟩), (fun h => by cases h), w5, w9, w13, w14, (fun h => by cases h), (fun _ => hst), (fun h => by cases h), (below_step bD hst.bel)⟩
      · obtain rfl : b16 = false := hi2
        obtain rfl : b2 = true := ready_waits hi (i := 2) (by kernel_rfl)
        obtain rfl : b5 = true := ready_waits hi (i := 5) (by kernel_rfl)
        obtain rfl : b6 = true := ready_waits hi (i := 6) (by kernel_rfl)
        obtain rfl : b9 = true := ready_waits hi (i := 9) (by kernel_rfl)
        obtain rfl : b10 = true := ready_waits hi (i := 10) (by kernel_rfl)
        obtain rfl : b13 = true := ready_waits hi (i := 13) (by kernel_rfl)
        obtain rfl : b14 = true := ready_waits hi (i := 14) (by kernel_rfl)
        obtain rfl : b15 = true := ready_waits hi (i := 15) (by kernel_rfl)
        obtain ⟨g0, d0, rfl, hs0⟩ := c5 rfl
        obtain ⟨g1, d1, rfl, hs1⟩ := c9 rfl
        obtain ⟨g2, d2, rfl, hs2⟩ := c13 rfl
        obtain ⟨gb, rfl, rfl⟩ := c15 rfl
        have hst := cm rfl
        obtain rfl := c14 rfl
        obtain ⟨kb, hgb, hap⟩ := hst.bk rfl
        have hn0 : g0 ≠ gb := hap 0 _ hs0
        have hn1 : g1 ≠ gb := hap 1 _ hs1
        have hn2 : g2 ≠ gb := hap 2 _ hs2
        have kf := blk_set12 kb (.int .u8 (mg : Nat)) (.int .u8 (op : Nat)) (.int .u16 (kl : Nat)) (.int .u8 (el : Nat)) (.int .u8 (ty : Nat)) (.int .u16 (st : Nat)) (.int .u32 (bl : Nat)) (.int .u32 (oq : Nat)) (.int .u64 (cas : Nat)) (.slice (some ⟨g0, 0, none⟩) mx d0) (.slice (some ⟨g1, 0, none⟩) mk d1) (.slice (some ⟨g2, 0, none⟩) mv d2)
        have gs := grown_set12 wx gb (.int .u8 (mg : Nat)) (.int .u8 (op : Nat)) (.int .u16 (kl : Nat)) (.int .u8 (el : Nat)) (.int .u8 (ty : Nat)) (.int .u16 (st : Nat)) (.int .u32 (bl : Nat)) (.int .u32 (oq : Nat)) (.int .u64 (cas : Nat)) (.slice (some ⟨g0, 0, none⟩) mx d0) (.slice (some ⟨g1, 0, none⟩) mk d1) (.slice (some ⟨g2, 0, none⟩) mv d2)
        have o0 := ((hst.own 0 hs0).left gs hn0).rd
        have o1 := ((hst.own 1 hs1).left gs hn1).rd
        have o2 := ((hst.own 2 hs2).left gs hn2).rd
        rw [hsz0] at hgb
        have hBel := bx.trans (below_grown gs hgb kb.lt)
        have hPost : ∃ (jb j0 e0 j1 e1 j2 e2 : Nat), Value.pointer (some ⟨gb, 0, none⟩) = .pointer (some ⟨jb, 0, none⟩) ∧ Blk ((((((((((((wx.setCell ⟨gb, 0, none⟩ (.int .u8 (mg : Nat))).setCell ⟨gb, 1, none⟩ (.int .u8 (op : Nat))).setCell ⟨gb, 2, none⟩ (.int .u16 (kl : Nat))).setCell ⟨gb, 3, none⟩ (.int .u8 (el : Nat))).setCell ⟨gb, 4, none⟩ (.int .u8 (ty : Nat))).setCell ⟨gb, 5, none⟩ (.int .u16 (st : Nat))).setCell ⟨gb, 6, none⟩ (.int .u32 (bl : Nat))).setCell ⟨gb, 7, none⟩ (.int .u32 (oq : Nat))).setCell ⟨gb, 8, none⟩ (.int .u64 (cas : Nat))).setCell ⟨gb, 9, none⟩ (.slice (some ⟨g0, 0, none⟩) mx d0)).setCell ⟨gb, 10, none⟩ (.slice (some ⟨g1, 0, none⟩) mk d1)).setCell ⟨gb, 11, none⟩ (.slice (some ⟨g2, 0, none⟩) mv d2)) jb #[.int .u8 (mg : Nat), .int .u8 (op : Nat), .int .u16 (kl : Nat), .int .u8 (el : Nat), .int .u8 (ty : Nat), .int .u16 (st : Nat), .int .u32 (bl : Nat), .int .u32 (oq : Nat), .int .u64 (cas : Nat), .slice (some ⟨j0, 0, none⟩) mx e0, .slice (some ⟨j1, 0, none⟩) mk e1, .slice (some ⟨j2, 0, none⟩) mv e2] 61 ∧ Rd ((((((((((((wx.setCell ⟨gb, 0, none⟩ (.int .u8 (mg : Nat))).setCell ⟨gb, 1, none⟩ (.int .u8 (op : Nat))).setCell ⟨gb, 2, none⟩ (.int .u16 (kl : Nat))).setCell ⟨gb, 3, none⟩ (.int .u8 (el : Nat))).setCell ⟨gb, 4, none⟩ (.int .u8 (ty : Nat))).setCell ⟨gb, 5, none⟩ (.int .u16 (st : Nat))).setCell ⟨gb, 6, none⟩ (.int .u32 (bl : Nat))).setCell ⟨gb, 7, none⟩ (.int .u32 (oq : Nat))).setCell ⟨gb, 8, none⟩ (.int .u64 (cas : Nat))).setCell ⟨gb, 9, none⟩ (.slice (some ⟨g0, 0, none⟩) mx d0)).setCell ⟨gb, 10, none⟩ (.slice (some ⟨g1, 0, none⟩) mk d1)).setCell ⟨gb, 11, none⟩ (.slice (some ⟨g2, 0, none⟩) mv d2)) ((((((((((((wx.setCell ⟨gb, 0, none⟩ (.int .u8 (mg : Nat))).setCell ⟨gb, 1, none⟩ (.int .u8 (op : Nat))).setCell ⟨gb, 2, none⟩ (.int .u16 (kl : Nat))).setCell ⟨gb, 3, none⟩ (.int .u8 (el : Nat))).setCell ⟨gb, 4, none⟩ (.int .u8 (ty : Nat))).setCell ⟨gb, 5, none⟩ (.int .u16 (st : Nat))).setCell ⟨gb, 6, none⟩ (.int .u32 (bl : Nat))).setCell ⟨gb, 7, none⟩ (.int .u32 (oq : Nat))).setCell ⟨gb, 8, none⟩ (.int .u64 (cas : Nat))).setCell ⟨gb, 9, none⟩ (.slice (some ⟨g0, 0, none⟩) mx d0)).setCell ⟨gb, 10, none⟩ (.slice (some ⟨g1, 0, none⟩) mk d1)).setCell ⟨gb, 11, none⟩ (.slice (some ⟨g2, 0, none⟩) mv d2)).heap.size (some ⟨j0, 0, none⟩) mx e0 ux ∧ Rd ((((((((((((wx.setCell ⟨gb, 0, none⟩ (.int .u8 (mg : Nat))).setCell ⟨gb, 1, none⟩ (.int .u8 (op : Nat))).setCell ⟨gb, 2, none⟩ (.int .u16 (kl : Nat))).setCell ⟨gb, 3, none⟩ (.int .u8 (el : Nat))).setCell ⟨gb, 4, none⟩ (.int .u8 (ty : Nat))).setCell ⟨gb, 5, none⟩ (.int .u16 (st : Nat))).setCell ⟨gb, 6, none⟩ (.int .u32 (bl : Nat))).setCell ⟨gb, 7, none⟩ (.int .u32 (oq : Nat))).setCell ⟨gb, 8, none⟩ (.int .u64 (cas : Nat))).setCell ⟨gb, 9, none⟩ (.slice (some ⟨g0, 0, none⟩) mx d0)).setCell ⟨gb, 10, none⟩ (.slice (some ⟨g1, 0, none⟩) mk d1)).setCell ⟨gb, 11, none⟩ (.slice (some ⟨g2, 0, none⟩) mv d2)) ((((((((((((wx.setCell ⟨gb, 0, none⟩ (.int .u8 (mg : Nat))).setCell ⟨gb, 1, none⟩ (.int .u8 (op : Nat))).setCell ⟨gb, 2, none⟩ (.int .u16 (kl : Nat))).setCell ⟨gb, 3, none⟩ (.int .u8 (el : Nat))).setCell ⟨gb, 4, none⟩ (.int .u8 (ty : Nat))).setCell ⟨gb, 5, none⟩ (.int .u16 (st : Nat))).setCell ⟨gb, 6, none⟩ (.int .u32 (bl : Nat))).setCell ⟨gb, 7, none⟩ (.int .u32 (oq : Nat))).setCell ⟨gb, 8, none⟩ (.int .u64 (cas : Nat))).setCell ⟨gb, 9, none⟩ (.slice (some ⟨g0, 0, none⟩) mx d0)).setCell ⟨gb, 10, none⟩ (.slice (some ⟨g1, 0, none⟩) mk d1)).setCell ⟨gb, 11, none⟩ (.slice (some ⟨g2, 0, none⟩) mv d2)).heap.size (some ⟨j1, 0, none⟩) mk e1 uk ∧ Rd ((((((((((((wx.setCell ⟨gb, 0, none⟩ (.int .u8 (mg : Nat))).setCell ⟨gb, 1, none⟩ (.int .u8 (op : Nat))).setCell ⟨gb, 2, none⟩ (.int .u16 (kl : Nat))).setCell ⟨gb, 3, none⟩ (.int .u8 (el : Nat))).setCell ⟨gb, 4, none⟩ (.int .u8 (ty : Nat))).setCell ⟨gb, 5, none⟩ (.int .u16 (st : Nat))).setCell ⟨gb, 6, none⟩ (.int .u32 (bl : Nat))).setCell ⟨gb, 7, none⟩ (.int .u32 (oq : Nat))).setCell ⟨gb, 8, none⟩ (.int .u64 (cas : Nat))).setCell ⟨gb, 9, none⟩ (.slice (some ⟨g0, 0, none⟩) mx d0)).setCell ⟨gb, 10, none⟩ (.slice (some ⟨g1, 0, none⟩) mk d1)).setCell ⟨gb, 11, none⟩ (.slice (some ⟨g2, 0, none⟩) mv d2)) ((((((((((((wx.setCell ⟨gb, 0, none⟩ (.int .u8 (mg : Nat))).setCell ⟨gb, 1, none⟩ (.int .u8 (op : Nat))).setCell ⟨gb, 2, none⟩ (.int .u16 (kl : Nat))).setCell ⟨gb, 3, none⟩ (.int .u8 (el : Nat))).setCell ⟨gb, 4, none⟩ (.int .u8 (ty : Nat))).setCell ⟨gb, 5, none⟩ (.int .u16 (st : Nat))).setCell ⟨gb, 6, none⟩ (.int .u32 (bl : Nat))).setCell ⟨gb, 7, none⟩ (.int .u32 (oq : Nat))).setCell ⟨gb, 8, none⟩ (.int .u64 (cas : Nat))).setCell ⟨gb, 9, none⟩ (.slice (some ⟨g0, 0, none⟩) mx d0)).setCell ⟨gb, 10, none⟩ (.slice (some ⟨g1, 0, none⟩) mk d1)).setCell ⟨gb, 11, none⟩ (.slice (some ⟨g2, 0, none⟩) mv d2)).heap.size (some ⟨j2, 0, none⟩) mv e2 uv ∧ Below W3.heap.size W3 ((((((((((((wx.setCell ⟨gb, 0, none⟩ (.int .u8 (mg : Nat))).setCell ⟨gb, 1, none⟩ (.int .u8 (op : Nat))).setCell ⟨gb, 2, none⟩ (.int .u16 (kl : Nat))).setCell ⟨gb, 3, none⟩ (.int .u8 (el : Nat))).setCell ⟨gb, 4, none⟩ (.int .u8 (ty : Nat))).setCell ⟨gb, 5, none⟩ (.int .u16 (st : Nat))).setCell ⟨gb, 6, none⟩ (.int .u32 (bl : Nat))).setCell ⟨gb, 7, none⟩ (.int .u32 (oq : Nat))).setCell ⟨gb, 8, none⟩ (.int .u64 (cas : Nat))).setCell ⟨gb, 9, none⟩ (.slice (some ⟨g0, 0, none⟩) mx d0)).setCell ⟨gb, 10, none⟩ (.slice (some ⟨g1, 0, none⟩) mk d1)).setCell ⟨gb, 11, none⟩ (.slice (some ⟨g2, 0, none⟩) mv d2)) := ⟨gb, g0, d0, g1, d1, g2, d2, rfl, kf, o0, o1, o2, hBel⟩
        obtain ⟨u0, u1, u2, u3, u4, u5, u6, u7, u8, u9, u10, u11⟩ := box12 kb
        have y0 := kb.frozen 0
        have y1 := kb.frozen 1
        have y2 := kb.frozen 2
        have y3 := kb.frozen 3
        have y4 := kb.frozen 4
        have y5 := kb.frozen 5
        have y6 := kb.frozen 6
        have y7 := kb.frozen 7
        have y8 := kb.frozen 8
        have y9 := kb.frozen 9
        have y10 := kb.frozen 10
        have y11 := kb.frozen 11
        refine ⟨_, rfl, fun KK hK => ?_⟩
        go_simp
        refine hK.out _ _ ?_
        exact ⟨true, true, true, true, true, true, true, true, true, v2, (.slice (some ⟨g0, 0, none⟩) mx d0), v6, (.slice (some ⟨g1, 0, none⟩) mk d1), v10, (.slice (some ⟨g2, 0, none⟩) mv d2), (.agg #[.int .u8 (mg : Nat), .int .u8 (op : Nat), .int .u16 (kl : Nat), .int .u8 (el : Nat), .int .u8 (ty : Nat), .int .u16 (st : Nat), .int .u32 (bl : Nat), .int .u32 (oq : Nat), .int .u64 (cas : Nat), .slice (some ⟨g0, 0, none⟩) mx d0, .slice (some ⟨g1, 0, none⟩) mk d1, .slice (some ⟨g2, 0, none⟩) mv d2]), (.pointer (some ⟨gb, 0, none⟩)), s, some gb, rfl, (by simp only [Act.put, List.setIfInBounds_toArray, List.set_cons_zero, List.set_cons_succ]), (fun h1 h2 => by cases h2), (fun _ => ⟨_, _, rfl, hs0⟩), (fun h1 h2 => by cases h2), (fun _ => ⟨_, _, rfl, hs1⟩), (fun h1 h2 => by cases h2), (fun _ => ⟨_, _, rfl, hs2⟩), (fun _ => rfl), (fun _ => ⟨_, rfl, rfl⟩), (fun h => by cases h), (fun _ => rfl), (fun _ => ⟨rfl, rfl⟩), (fun _ => ⟨rfl, rfl⟩), (fun _ => ⟨rfl, rfl, rfl⟩), (fun _ => ⟨rfl, rfl, rfl, rfl, rfl, rfl, rfl, rfl⟩), (fun h => by cases h), (fun _ => hPost), hBel⟩
    · rintro listed a wx ⟨b2, b5, b6, b9, b10, b13, b14, b15, b16, v2, v5, v6, v9, v10, v13, v14, v15, s, sb, rfl, rfl, c2, c5, c6, c9, c10, c13, c14, c15, cn15, w5, w9, w13, w14, w16, cm, cp, bx⟩ hr
      obtain rfl : b16 = true := ready_end (by kernel_rfl) (by kernel_rfl) hr 16 (by decide)
      obtain ⟨gb, g0, d0, g1, d1, g2, d2, rfl, kF, o0, o1, o2, bw⟩ := cp rfl
      refine NoPanic.normal ?_
      go_wp2_with fail
      go_meet
      exact ⟨gb, g0, d0, g1, d1, g2, d2, rfl, kF, o0, o1, o2, bw⟩
  case rest =>
    obtain ⟨g3, g0, d0, g1, d1, g2, d2, rfl, k3, sX, sK, sV, b3⟩ := hcut
    have hbz := b.size
    replace k1 := k1.step b3
    replace rX := (rX.more hbz).step b3
    replace rK := (rK.more hbz).step b3
    replace rV := (rV.more hbz).step b3
    replace b := below_step b b3
    clear b3 hbz
    obtain ⟨t0, t1, t2, t3, t4, t5, t6, t7, t8, t9, t10, t11⟩ := box12 k3
    go_wp2_with fail
    refine (HRQ.out _ _ _ _ _ _ _ sX sK sV).mono ?_
    rintro e w5 ⟨rfl, b5⟩
    replace k1 := k1.step b5
    replace k3 := k3.step b5
    replace sX := sX.step b5
    replace sK := sK.step b5
    replace sV := sV.step b5
    replace rX := rX.step b5
    replace rK := rK.step b5
    replace rV := rV.step b5
    replace b := below_step b b5
    clear b5
    clear t0 t1 t2 t3 t4 t5 t6 t7 t8 t9 t10 t11
    go_upto_region 6 with fail
    have kq := Blk.new w5 #[.int .i64 0, .bool false, .bool false, .int .i64 0, .int .u32 0, .slice none 0 0, .slice none 0 0, .int .u32 0, .int .u32 0, .int .u64 0, .int .u64 0, .int .u64 0] 26
    have ba := below_a1' (Below.refl w5.heap.size w5) (.cells #[.int .i64 0, .bool false, .bool false, .int .i64 0, .int .u32 0, .slice none 0 0, .slice none 0 0, .int .u32 0, .int .u32 0, .int .u64 0, .int .u64 0, .int .u64 0] 26)
    replace k1 := k1.step ba
    replace k3 := k3.step ba
    replace sX := sX.step ba
    replace sK := sK.step ba
    replace sV := sV.step ba
    replace rX := rX.step ba
    replace rK := rK.step ba
    replace rV := rV.step ba
    replace b := below_step b ba
    clear ba
    generalize w5.alloc (.cells #[.int .i64 0, .bool false, .bool false, .int .i64 0, .int .u32 0, .slice none 0 0, .slice none 0 0, .int .u32 0, .int .u32 0, .int .u64 0, .int .u64 0, .int .u64 0] 26) = W5 at kq b k1 k3 sX sK sV rX rK rV ⊢
    generalize w5.heap.size = gq at kq ⊢
    obtain ⟨t0, t1, t2, t3, t4, t5, t6, t7, t8, t9, t10, t11⟩ := box12 k3
    obtain ⟨z0, z1, z2, z3, z4, z5, z6, z7, z8, z9, z10, z11⟩ := box12 k1
    go_wp2_with fail
    refine (HFS.out _ _ _ _ _ _ _ _ _ _ _ _ _ sX sK sV rX rK rV).mono ?_
    rintro e w6 ⟨rfl, b6⟩
    replace k1 := k1.step b6
    replace k3 := k3.step b6
    replace sX := sX.step b6
    replace sK := sK.step b6
    replace sV := sV.step b6
    replace rX := rX.step b6
    replace rK := rK.step b6
    replace rV := rV.step b6
    replace kq := kq.step b6
    replace b := below_step b b6
    clear b6
    clear t0 t1 t2 t3 t4 t5 t6 t7 t8 t9 t10 t11 z0 z1 z2 z3 z4 z5 z6 z7 z8 z9 z10 z11
    obtain ⟨z0, z1, z2, z3, z4, z5, z6, z7, z8, z9, z10, z11⟩ := box12 k1
    go_wp2_with fail
    refine (HWR.out _ _ _ _ _ _ _).mono ?_
    rintro e w7 ⟨rfl, b7⟩
    replace k1 := k1.step b7
    replace k3 := k3.step b7
    replace sX := sX.step b7
    replace sK := sK.step b7
    replace sV := sV.step b7
    replace rX := rX.step b7
    replace rK := rK.step b7
    replace rV := rV.step b7
    replace kq := kq.step b7
    replace b := below_step b b7
    clear b7
    clear z0 z1 z2 z3 z4 z5 z6 z7 z8 z9 z10 z11
    obtain ⟨t0, t1, t2, t3, t4, t5, t6, t7, t8, t9, t10, t11⟩ := box12 kq
    go_wp2_with fail
    refine (HSZ.out _).mono ?_
    rintro e w9 ⟨rfl, b9⟩
    replace b := below_step b b9
    clear b9
    go_wp2_with fail
    go_ret
    exact ⟨rfl, b⟩
set_option maxRecDepth 100000 in
set_option maxHeartbeats 8000000 in
theorem preqs_no2 (mg op kl el ty st bl oq cas : Nat) (X K V : Option Addr) (nx cx nk ck nv cv mx mk mv : Nat) (ux uk uv : List UInt8) (w : World) (hm1 : mx ≤ 300) (hm2 : mk ≤ 3000) (hm3 : mv ≤ 3000)
    (HSH : Hid (∀ W, Below w.heap.size w W → Calls Try.prog 52 #[.agg #[.int .u8 (mg : Nat), .int .u8 (op : Nat), .int .u16 (kl : Nat), .int .u8 (el : Nat), .int .u8 (ty : Nat), .int .u16 (st : Nat), .int .u32 (bl : Nat), .int .u32 (oq : Nat), .int .u64 (cas : Nat), .slice X nx cx, .slice K nk ck, .slice V nv cv]] W (ShortP w.heap.size mg op kl el ty st bl oq cas mx mk mv ux uk uv W)))
    (HFS : Hid (∀ W X4 cx4 K4 ck4 V4 cv4 X5 cx5 K5 ck5 V5 cv5, Rd W W.heap.size X4 mx cx4 ux → Rd W W.heap.size K4 mk ck4 uk → Rd W W.heap.size V4 mv cv4 uv → Rd W W.heap.size X5 mx cx5 ux → Rd W W.heap.size K5 mk ck5 uk → Rd W W.heap.size V5 mv cv5 uv → Calls Try.prog 47 #[.agg #[.int .u8 (mg : Nat), .int .u8 (op : Nat), .int .u16 (kl : Nat), .int .u8 (el : Nat), .int .u8 (ty : Nat), .int .u16 (st : Nat), .int .u32 (bl : Nat), .int .u32 (oq : Nat), .int .u64 (cas : Nat), .slice X4 mx cx4, .slice K4 mk ck4, .slice V4 mv cv4], .agg #[.int .u8 (mg : Nat), .int .u8 (op : Nat), .int .u16 (kl : Nat), .int .u8 (el : Nat), .int .u8 (ty : Nat), .int .u16 (st : Nat), .int .u32 (bl : Nat), .int .u32 (oq : Nat), .int .u64 (cas : Nat), .slice X5 mx cx5, .slice K5 mk ck5, .slice V5 mv cv5]] W (BoxQ (.bool true) W)))
    (HRQ : Hid (∀ W X4 cx4 K4 ck4 V4 cv4, Rd W W.heap.size X4 mx cx4 ux → Rd W W.heap.size K4 mk ck4 uk → Rd W W.heap.size V4 mv cv4 uv → Calls Try.prog 53 #[.agg #[.int .u8 (mg : Nat), .int .u8 (op : Nat), .int .u16 (kl : Nat), .int .u8 (el : Nat), .int .u8 (ty : Nat), .int .u16 (st : Nat), .int .u32 (bl : Nat), .int .u32 (oq : Nat), .int .u64 (cas : Nat), .slice X4 mx cx4, .slice K4 mk ck4, .slice V4 mv cv4]] W (PrqNo W)))
    (HWR : Hid (∀ W X4 cx4 K4 ck4 V4 cv4, Calls Try.prog 54 #[.agg #[.int .u8 (mg : Nat), .int .u8 (op : Nat), .int .u16 (kl : Nat), .int .u8 (el : Nat), .int .u8 (ty : Nat), .int .u16 (st : Nat), .int .u32 (bl : Nat), .int .u32 (oq : Nat), .int .u64 (cas : Nat), .slice X4 mx cx4, .slice K4 mk ck4, .slice V4 mv cv4]] W (BoxQ (.int .i64 0) W)))
    (HRT : Hid (∀ W, Calls Try.prog 55 #[.agg #[.int .u8 (mg : Nat), .int .u8 (op : Nat), .int .u16 (kl : Nat), .int .u8 (el : Nat), .int .u8 (ty : Nat), .int .u16 (st : Nat), .int .u32 (bl : Nat), .int .u32 (oq : Nat), .int .u64 (cas : Nat)]] W (BoxQ' (.bool false) W)))
    (HSZ : Hid (∀ W, Calls Try.prog 45 #[.agg #[.int .i64 0, .bool false, .bool false, .int .i64 0, .int .u32 0, .slice none 0 0, .slice none 0 0, .int .u32 0, .int .u32 0, .int .u64 0, .int .u64 0, .int .u64 0], .agg #[.int .i64 0, .bool false, .bool false, .int .i64 0, .int .u32 0, .slice none 0 0, .slice none 0 0, .int .u32 0, .int .u32 0, .int .u64 0, .int .u64 0, .int .u64 0]] W (PSame true W))) :
    Calls Try.prog 12 #[.agg #[.int .u8 (mg : Nat), .int .u8 (op : Nat), .int .u16 (kl : Nat), .int .u8 (el : Nat), .int .u8 (ty : Nat), .int .u16 (st : Nat), .int .u32 (bl : Nat), .int .u32 (oq : Nat), .int .u64 (cas : Nat), .slice X nx cx, .slice K nk ck, .slice V nv cv]] w fun e w' => e = .returned (.bool true) ∧ Below w.heap.size w w' := by
  have k1 := Blk.new w #[.int .u8 (mg : Nat), .int .u8 (op : Nat), .int .u16 (kl : Nat), .int .u8 (el : Nat), .int .u8 (ty : Nat), .int .u16 (st : Nat), .int .u32 (bl : Nat), .int .u32 (oq : Nat), .int .u64 (cas : Nat), .slice X nx cx, .slice K nk ck, .slice V nv cv] 61
  have b : Below w.heap.size w (w.alloc (.cells #[.int .u8 (mg : Nat), .int .u8 (op : Nat), .int .u16 (kl : Nat), .int .u8 (el : Nat), .int .u8 (ty : Nat), .int .u16 (st : Nat), .int .u32 (bl : Nat), .int .u32 (oq : Nat), .int .u64 (cas : Nat), .slice X nx cx, .slice K nk ck, .slice V nv cv] 61)) := below_a1' (Below.refl _ _) _
  go_enter Try.func12, Try.ntmps12
  go_upto_region 1 with fail
  generalize w.alloc (.cells #[.int .u8 (mg : Nat), .int .u8 (op : Nat), .int .u16 (kl : Nat), .int .u8 (el : Nat), .int .u8 (ty : Nat), .int .u16 (st : Nat), .int .u32 (bl : Nat), .int .u32 (oq : Nat), .int .u64 (cas : Nat), .slice X nx cx, .slice K nk ck, .slice V nv cv] 61) = W0 at k1 b ⊢
  go_wp2_with fail
  refine (wakes20 W0).mono ?_
  rintro e w1 ⟨rfl, b1⟩
  replace k1 := k1.step b1
  replace b := below_step b b1
  clear b1
  obtain ⟨a0, a1, a2, a3, a4, a5, a6, a7, a8, a9, a10, a11⟩ := box12 k1
  go_wp2_with fail
  refine (HSH.out _ b).mono ?_
  rintro e w2 ⟨X2, cx2, K2, ck2, V2, cv2, rfl, rX, rK, rV, b1⟩
  replace k1 := k1.step b1
  replace b := below_step b b1
  clear b1 a0 a1 a2 a3 a4 a5 a6 a7 a8 a9 a10 a11
  obtain ⟨z0, z1, z2, z3, z4, z5, z6, z7, z8, z9, z10, z11⟩ := box12 k1
  have y0 := k1.frozen 0
  have y1 := k1.frozen 1
  have y2 := k1.frozen 2
  have y3 := k1.frozen 3
  have y4 := k1.frozen 4
  have y5 := k1.frozen 5
  have y6 := k1.frozen 6
  have y7 := k1.frozen 7
  have y8 := k1.frozen 8
  have y9 := k1.frozen 9
  have y10 := k1.frozen 10
  have y11 := k1.frozen 11
  have kf := blk_set12 k1 (.int .u8 (mg : Nat)) (.int .u8 (op : Nat)) (.int .u16 (kl : Nat)) (.int .u8 (el : Nat)) (.int .u8 (ty : Nat)) (.int .u16 (st : Nat)) (.int .u32 (bl : Nat)) (.int .u32 (oq : Nat)) (.int .u64 (cas : Nat)) (.slice X2 mx cx2) (.slice K2 mk ck2) (.slice V2 mv cv2)
  have hg := grown_set12 w2 w.heap.size (.int .u8 (mg : Nat)) (.int .u8 (op : Nat)) (.int .u16 (kl : Nat)) (.int .u8 (el : Nat)) (.int .u8 (ty : Nat)) (.int .u16 (st : Nat)) (.int .u32 (bl : Nat)) (.int .u32 (oq : Nat)) (.int .u64 (cas : Nat)) (.slice X2 mx cx2) (.slice K2 mk ck2) (.slice V2 mv cv2)
  have b1 := below_grown hg (Nat.le_refl _) k1.lt
  have bff := b.trans b1
  replace rX := rX.below b1
  replace rK := rK.below b1
  replace rV := rV.below b1
  clear b b1 hg k1
  go_upto_region 4 with fail
  clear z0 z1 z2 z3 z4 z5 z6 z7 z8 z9 z10 z11 y0 y1 y2 y3 y4 y5 y6 y7 y8 y9 y10 y11
  generalize (((((((((((w2.setCell ⟨w.heap.size, 0, none⟩ (.int .u8 (mg : Nat))).setCell ⟨w.heap.size, 1, none⟩ (.int .u8 (op : Nat))).setCell ⟨w.heap.size, 2, none⟩ (.int .u16 (kl : Nat))).setCell ⟨w.heap.size, 3, none⟩ (.int .u8 (el : Nat))).setCell ⟨w.heap.size, 4, none⟩ (.int .u8 (ty : Nat))).setCell ⟨w.heap.size, 5, none⟩ (.int .u16 (st : Nat))).setCell ⟨w.heap.size, 6, none⟩ (.int .u32 (bl : Nat))).setCell ⟨w.heap.size, 7, none⟩ (.int .u32 (oq : Nat))).setCell ⟨w.heap.size, 8, none⟩ (.int .u64 (cas : Nat))).setCell ⟨w.heap.size, 9, none⟩ (.slice X2 mx cx2)).setCell ⟨w.heap.size, 10, none⟩ (.slice K2 mk ck2)).setCell ⟨w.heap.size, 11, none⟩ (.slice V2 mv cv2) = W3 at kf bff rX rK rV ⊢
  have k1 := kf
  have b := bff
  clear kf bff
  go_cut [3] (fun s3 wx => ∃ (jb j0 e0 j1 e1 j2 e2 : Nat), s3 = .pointer (some ⟨jb, 0, none⟩) ∧ Blk wx jb #[.int .u8 (mg : Nat), .int .u8 (op : Nat), .int .u16 (kl : Nat), .int .u8 (el : Nat), .int .u8 (ty : Nat), .int .u16 (st : Nat), .int .u32 (bl : Nat), .int .u32 (oq : Nat), .int .u64 (cas : Nat), .slice (some ⟨j0, 0, none⟩) mx e0, .slice (some ⟨j1, 0, none⟩) mk e1, .slice (some ⟨j2, 0, none⟩) mv e2] 61 ∧ Rd wx wx.heap.size (some ⟨j0, 0, none⟩) mx e0 ux ∧ Rd wx wx.heap.size (some ⟨j1, 0, none⟩) mk e1 uk ∧ Rd wx wx.heap.size (some ⟨j2, 0, none⟩) mv e2 uv ∧ Below W3.heap.size W3 wx)
  case first =>
    refine wp_region_noPanic ?_
    refine region_T (fun wx => Blk wx w.heap.size #[.int .u8 (mg : Nat), .int .u8 (op : Nat), .int .u16 (kl : Nat), .int .u8 (el : Nat), .int .u8 (ty : Nat), .int .u16 (st : Nat), .int .u32 (bl : Nat), .int .u32 (oq : Nat), .int .u64 (cas : Nat), .slice X2 mx cx2, .slice K2 mk ck2, .slice V2 mv cv2] 61) 16 (by kernel_rfl) ?_
    have bD : Below W3.heap.size W3 W3.drew := (Below.refl _ _).drew
    have hHeld := k1.step bD
    have rX0 : Rd W3.drew w.heap.size X2 mx cx2 ux := rX
    have rK0 : Rd W3.drew w.heap.size K2 mk ck2 uk := rK
    have rV0 : Rd W3.drew w.heap.size V2 mv cv2 uv := rV
    have hsz0 : W3.drew.heap.size = W3.heap.size := rfl
    have hbs := b.size
    have hbs0 : w.heap.size ≤ W3.drew.heap.size := hbs
    generalize W3.drew = Y0 at bD hHeld rX0 rK0 rV0 hsz0 hbs0 ⊢
    refine takeT (i := 0) (v := ?_) rfl (by kernel_rfl) (by kernel_rfl) (by decide) (by kernel_rfl) (by kernel_rfl) (fun _ _ _ h => h) (Or.inl ⟨by rfl, ?_⟩) hHeld ?_
    rotate_left
    · (intro wx hSw; obtain ⟨a0, a1, a2, a3, a4, a5, a6, a7, a8, a9, a10, a11⟩ := box12 hSw; go_simp; try (with_reducible rfl))
    try simp only [Act.put, List.setIfInBounds_toArray, List.set_cons_zero, List.set_cons_succ]
    refine takeT (i := 1) (v := ?_) rfl (by kernel_rfl) (by kernel_rfl) (by decide) (by kernel_rfl) (by kernel_rfl) (fun _ _ _ h => h) (Or.inl ⟨by rfl, ?_⟩) hHeld ?_
    rotate_left
    · (intro wx hSw; obtain ⟨a0, a1, a2, a3, a4, a5, a6, a7, a8, a9, a10, a11⟩ := box12 hSw; go_simp; try (with_reducible rfl))
    try simp only [Act.put, List.setIfInBounds_toArray, List.set_cons_zero, List.set_cons_succ]
    refine takeT (i := 3) (v := ?_) rfl (by kernel_rfl) (by kernel_rfl) (by decide) (by kernel_rfl) (by kernel_rfl) (fun _ _ _ h => h) (Or.inl ⟨by rfl, ?_⟩) hHeld ?_
    rotate_left
    · (intro wx hSw; obtain ⟨a0, a1, a2, a3, a4, a5, a6, a7, a8, a9, a10, a11⟩ := box12 hSw; go_simp; try (with_reducible rfl))
    try simp only [Act.put, List.setIfInBounds_toArray, List.set_cons_zero, List.set_cons_succ]
    refine takeT (i := 4) (v := ?_) rfl (by kernel_rfl) (by kernel_rfl) (by decide) (by kernel_rfl) (by kernel_rfl) (fun _ _ _ h => h) (Or.inl ⟨by rfl, ?_⟩) hHeld ?_
    rotate_left
    · (intro wx hSw; obtain ⟨a0, a1, a2, a3, a4, a5, a6, a7, a8, a9, a10, a11⟩ := box12 hSw; go_simp; try (with_reducible rfl))
    try simp only [Act.put, List.setIfInBounds_toArray, List.set_cons_zero, List.set_cons_succ]
    refine takeT (i := 7) (v := ?_) rfl (by kernel_rfl) (by kernel_rfl) (by decide) (by kernel_rfl) (by kernel_rfl) (fun _ _ _ h => h) (Or.inl ⟨by rfl, ?_⟩) hHeld ?_
    rotate_left
    · (intro wx hSw; obtain ⟨a0, a1, a2, a3, a4, a5, a6, a7, a8, a9, a10, a11⟩ := box12 hSw; go_simp; try (with_reducible rfl))
    try simp only [Act.put, List.setIfInBounds_toArray, List.set_cons_zero, List.set_cons_succ]
    refine takeT (i := 8) (v := ?_) rfl (by kernel_rfl) (by kernel_rfl) (by decide) (by kernel_rfl) (by kernel_rfl) (fun _ _ _ h => h) (Or.inl ⟨by rfl, ?_⟩) hHeld ?_
    rotate_left
    · (intro wx hSw; obtain ⟨a0, a1, a2, a3, a4, a5, a6, a7, a8, a9, a10, a11⟩ := box12 hSw; go_simp; try (with_reducible rfl))
    try simp only [Act.put, List.setIfInBounds_toArray, List.set_cons_zero, List.set_cons_succ]
    refine takeT (i := 11) (v := ?_) rfl (by kernel_rfl) (by kernel_rfl) (by decide) (by kernel_rfl) (by kernel_rfl) (fun _ _ _ h => h) (Or.inl ⟨by rfl, ?_⟩) hHeld ?_
    rotate_left
    · (intro wx hSw; obtain ⟨a0, a1, a2, a3, a4, a5, a6, a7, a8, a9, a10, a11⟩ := box12 hSw; go_simp; try (with_reducible rfl))
    try simp only [Act.put, List.setIfInBounds_toArray, List.set_cons_zero, List.set_cons_succ]
    refine takeT (i := 12) (v := ?_) rfl (by kernel_rfl) (by kernel_rfl) (by decide) (by kernel_rfl) (by kernel_rfl) (fun _ _ _ h => h) (Or.inl ⟨by rfl, ?_⟩) hHeld ?_
    rotate_left
    · (intro wx hSw; obtain ⟨a0, a1, a2, a3, a4, a5, a6, a7, a8, a9, a10, a11⟩ := box12 hSw; go_simp; try (with_reducible rfl))
    try simp only [Act.put, List.setIfInBounds_toArray, List.set_cons_zero, List.set_cons_succ]
    refine anyT_inv (fun a0 listed a wx => ∃ (b2 b5 b6 b9 b10 b13 b14 b15 b16 : Bool) (v2 v5 v6 v9 v10 v13 v14 v15 : Value) (s : Nat → Option (Nat × Nat × Nat × List UInt8)) (sb : Option Nat), listed = #[true, true, b2, true, true, b5, b6, true, true, b9, b10, true, true, b13, b14, b15, b16] ∧ a = ((((((((a0.put (some 13) v2).put (some 16) v5).put (some 17) v6).put (some 20) v9).put (some 21) v10).put (some 24) v13).put (some 25) v14).put (some 3) v15) ∧ (b2 = true → b5 = false → ∃ g, v2 = .slice (some ⟨g, 0, none⟩) 0 0 ∧ s 0 = some (g, 0, 0, [])) ∧ (b5 = true → ∃ g c, v5 = .slice (some ⟨g, 0, none⟩) mx c ∧ s 0 = some (g, mx, c, ux)) ∧ (b6 = true → b9 = false → ∃ g, v6 = .slice (some ⟨g, 0, none⟩) 0 0 ∧ s 1 = some (g, 0, 0, [])) ∧ (b9 = true → ∃ g c, v9 = .slice (some ⟨g, 0, none⟩) mk c ∧ s 1 = some (g, mk, c, uk)) ∧ (b10 = true → b13 = false → ∃ g, v10 = .slice (some ⟨g, 0, none⟩) 0 0 ∧ s 2 = some (g, 0, 0, [])) ∧ (b13 = true → ∃ g c, v13 = .slice (some ⟨g, 0, none⟩) mv c ∧ s 2 = some (g, mv, c, uv)) ∧ (b14 = true → v14 = .agg #[.int .u8 (mg : Nat), .int .u8 (op : Nat), .int .u16 (kl : Nat), .int .u8 (el : Nat), .int .u8 (ty : Nat), .int .u16 (st : Nat), .int .u32 (bl : Nat), .int .u32 (oq : Nat), .int .u64 (cas : Nat), v5, v9, v13]) ∧ (b15 = true → ∃ g, v15 = .pointer (some ⟨g, 0, none⟩) ∧ sb = some g) ∧ (b15 = false → sb = none) ∧ (b5 = true → b2 = true) ∧ (b9 = true → b6 = true ∧ b5 = true) ∧ (b13 = true → b10 = true ∧ b9 = true) ∧ (b14 = true → b5 = true ∧ b9 = true ∧ b13 = true) ∧ (b16 = true → b2 = true ∧ b5 = true ∧ b6 = true ∧ b9 = true ∧ b10 = true ∧ b13 = true ∧ b14 = true ∧ b15 = true) ∧ (b16 = false → MkS Y0 wx #[.int .u8 0, .int .u8 0, .int .u16 0, .int .u8 0, .int .u8 0, .int .u16 0, .int .u32 0, .int .u32 0, .int .u64 0, .slice none 0 0, .slice none 0 0, .slice none 0 0] 61 s sb) ∧ (b16 = true → ∃ (jb j0 e0 j1 e1 j2 e2 : Nat), v15 = .pointer (some ⟨jb, 0, none⟩) ∧ Blk wx jb #[.int .u8 (mg : Nat), .int .u8 (op : Nat), .int .u16 (kl : Nat), .int .u8 (el : Nat), .int .u8 (ty : Nat), .int .u16 (st : Nat), .int .u32 (bl : Nat), .int .u32 (oq : Nat), .int .u64 (cas : Nat), .slice (some ⟨j0, 0, none⟩) mx e0, .slice (some ⟨j1, 0, none⟩) mk e1, .slice (some ⟨j2, 0, none⟩) mv e2] 61 ∧ Rd wx wx.heap.size (some ⟨j0, 0, none⟩) mx e0 ux ∧ Rd wx wx.heap.size (some ⟨j1, 0, none⟩) mk e1 uk ∧ Rd wx wx.heap.size (some ⟨j2, 0, none⟩) mv e2 uv ∧ Below W3.heap.size W3 wx) ∧ Below W3.heap.size W3 wx) ?_ (by decide) ?_ ?_ ?_
    · exact ⟨false, false, false, false, false, false, false, false, false, undef, undef, undef, undef, undef, undef, undef, undef, fun _ => none, none, rfl, (by simp only [Act.put, List.setIfInBounds_toArray, List.set_cons_zero, List.set_cons_succ]), (fun h => by cases h), (fun h => by cases h), (fun h => by cases h), (fun h => by cases h), (fun h => by cases h), (fun h => by cases h), (fun h => by cases h), (fun h => by cases h), (fun _ => rfl), (fun h => by cases h), (fun h => by cases h), (fun h => by cases h), (fun h => by cases h), (fun h => by cases h), (fun _ => MkS.start), (fun h => by cases h), bD⟩
    · rintro listed a wx ⟨b2, b5, b6, b9, b10, b13, b14, b15, b16, v2, v5, v6, v9, v10, v13, v14, v15, s, sb, rfl, rfl, c2, c5, c6, c9, c10, c13, c14, c15, cn15, w5, w9, w13, w14, w16, cm, cp, bx⟩
      exact k1.step bx
    · intro listed a wx i hI hi
      obtain ⟨b2, b5, b6, b9, b10, b13, b14, b15, b16, v2, v5, v6, v9, v10, v13, v14, v15, s, sb, rfl, ha, c2, c5, c6, c9, c10, c13, c14, c15, cn15, w5, w9, w13, w14, w16, cm, cp, bx⟩ := hI
      simp only [Act.put, List.setIfInBounds_toArray, List.set_cons_zero, List.set_cons_succ] at ha
      subst ha
      obtain ⟨hi1, hi2⟩ := ready_lt hi
      obtain rfl | rfl | rfl | rfl | rfl | rfl | rfl | rfl | rfl | rfl | rfl | rfl | rfl | rfl | rfl | rfl | rfl := ltN17 i hi1
      · cases (show true = false from hi2)
      · cases (show true = false from hi2)
      · obtain rfl : b2 = false := hi2
        obtain rfl : b16 = false := by (cases b16 with | false => rfl | true => (have hh := w16 rfl; simp at hh))
        have hst := cm rfl
        obtain rfl : b5 = false := by (cases b5 with | false => rfl | true => (have hh := w5 rfl; simp at hh))
        replace hst := hst.al 0
        refine ⟨_, rfl, fun KK hK => ?_⟩
        go_simp
        refine hK.out _ _ ?_
        exact ⟨true, false, _, _, _, _, _, _, false, _, v5, v6, v9, v10, v13, v14, v15, _, _, rfl, (by simp only [Act.put, List.setIfInBounds_toArray, List.set_cons_zero, List.set_cons_succ]), (fun _ _ => ⟨_, rfl, updM_at⟩), (fun h => by cases h), (fun h1 h2 => by rw [updM_ne (by decide)]; exact c6 h1 h2), (fun h1 => by rw [updM_ne (by decide)]; exact c9 h1), (fun h1 h2 => by rw [updM_ne (by decide)]; exact c10 h1 h2), (fun h1 => by rw [updM_ne (by decide)]; exact c13 h1), c14, c15, cn15, (fun h => by cases h), w9, w13, w14, (fun h => by cases h), (fun _ => hst), (fun h => by cases h), (below_step bD hst.bel)⟩
      · cases (show true = false from hi2)
      · cases (show true = false from hi2)
      · obtain rfl : b5 = false := hi2
        obtain rfl : b9 = false := by (cases b9 with | false => rfl | true => (have hh := w9 rfl; simp at hh))
        obtain rfl : b14 = false := by (cases b14 with | false => rfl | true => (have hh := w14 rfl; simp at hh))
        obtain rfl : b16 = false := by (cases b16 with | false => rfl | true => (have hh := w16 rfl; simp at hh))
        have hst := cm rfl
        obtain rfl : b2 = true := ready_waits hi (i := 2) (by kernel_rfl)
        obtain ⟨g0, rfl, hs0⟩ := c2 rfl rfl
        refine ⟨_, rfl, fun KK hK => ?_⟩
        refine hst.app 0 hs0 hbs0 rX0 (Nat.le_trans hm1 (by decide)) rfl _ _ rfl rfl rfl ?_
        clear hst
        intro g' c' V' hst
        refine hK.out _ _ ?_
        exact ⟨true, true, _, false, _, _, false, _, false, (.slice (some ⟨g0, 0, none⟩) 0 0), _, v6, v9, v10, v13, v14, v15, _, _, rfl, (by simp only [Act.put, List.setIfInBounds_toArray, List.set_cons_zero, List.set_cons_succ]), (fun _ h => by cases h), (fun _ => ⟨_, _, rfl, updM_at⟩), (fun h1 h2 => by rw [updM_ne (by decide)]; exact c6 h1 h2), (fun h => by cases h), (fun h1 h2 => by rw [updM_ne (by decide)]; exact c10 h1 h2), (fun h1 => by rw [updM_ne (by decide)]; exact c13 h1), (fun h => by cases h), c15, cn15, (fun _ => rfl), (fun h => by cases h), w13, (fun h => by cases h), (fun h => by cases h), (fun _ => hst), (fun h => by cases h), (below_step bD hst.bel)⟩
      · obtain rfl : b6 = false := hi2
        obtain rfl : b16 = false := by (cases b16 with | false => rfl | true => (have hh := w16 rfl; simp at hh))
        have hst := cm rfl
        obtain rfl : b9 = false := by (cases b9 with | false => rfl | true => (have hh := w9 rfl; simp at hh))
        replace hst := hst.al 1
        refine ⟨_, rfl, fun KK hK => ?_⟩
        go_simp
        refine hK.out _ _ ?_
        exact ⟨_, _, true, false, _, _, _, _, false, v2, v5, _, v9, v10, v13, v14, v15, _, _, rfl, (by simp only [Act.put, List.setIfInBounds_toArray, List.set_cons_zero, List.set_cons_succ]), (fun h1 h2 => by rw [updM_ne (by decide)]; exact c2 h1 h2), (fun h1 => by rw [updM_ne (by decide)]; exact c5 h1), (fun _ _ => ⟨_, rfl, updM_at⟩), (fun h => by cases h), (fun h1 h2 => by rw [updM_ne (by decide)]; exact c10 h1 h2), (fun h1 => by rw [updM_ne (by decide)]; exact c13 h1), c14, c15, cn15, w5, (fun h => by cases h), w13, w14, (fun h => by cases h), (fun _ => hst), (fun h => by cases h), (below_step bD hst.bel)⟩
      · cases (show true = false from hi2)
      · cases (show true = false from hi2)
      · obtain rfl : b9 = false := hi2
        obtain rfl : b13 = false := by (cases b13 with | false => rfl | true => (have hh := w13 rfl; simp at hh))
        obtain rfl : b14 = false := by (cases b14 with | false => rfl | true => (have hh := w14 rfl; simp at hh))
        obtain rfl : b16 = false := by (cases b16 with | false => rfl | true => (have hh := w16 rfl; simp at hh))
        have hst := cm rfl
        obtain rfl : b6 = true := ready_waits hi (i := 6) (by kernel_rfl)
        obtain rfl : b5 = true := ready_waits hi (i := 5) (by kernel_rfl)
        obtain ⟨g1, rfl, hs1⟩ := c6 rfl rfl
        refine ⟨_, rfl, fun KK hK => ?_⟩
        refine hst.app 1 hs1 hbs0 rK0 (Nat.le_trans hm2 (by decide)) rfl _ _ rfl rfl rfl ?_
        clear hst
        intro g' c' V' hst
        refine hK.out _ _ ?_
        exact ⟨_, true, true, true, _, false, false, _, false, v2, v5, (.slice (some ⟨g1, 0, none⟩) 0 0), _, v10, v13, v14, v15, _, _, rfl, (by simp only [Act.put, List.setIfInBounds_toArray, List.set_cons_zero, List.set_cons_succ]), (fun h1 h2 => by rw [updM_ne (by decide)]; exact c2 h1 h2), (fun h1 => by rw [updM_ne (by decide)]; exact c5 h1), (fun _ h => by cases h), (fun _ => ⟨_, _, rfl, updM_at⟩), (fun h1 h2 => by rw [updM_ne (by decide)]; exact c10 h1 h2), (fun h => by cases h), (fun h => by cases h), c15, cn15, w5, (fun _ => ⟨rfl, rfl⟩), (fun h => by cases h), (fun h => by cases h), (fun h => by cases h), (fun _ => hst), (fun h => by cases h), (below_step bD hst.bel)⟩
      · obtain rfl : b10 = false := hi2
        obtain rfl : b16 = false := by (cases b16 with | false => rfl | true => (have hh := w16 rfl; simp at hh))
        have hst := cm rfl
        obtain rfl : b13 = false := by (cases b13 with | false => rfl | true => (have hh := w13 rfl; simp at hh))
        replace hst := hst.al 2
        refine ⟨_, rfl, fun KK hK => ?_⟩
        go_simp
        refine hK.out _ _ ?_
        exact ⟨_, _, _, _, true, false, _, _, false, v2, v5, v6, v9, _, v13, v14, v15, _, _, rfl, (by simp only [Act.put, List.setIfInBounds_toArray, List.set_cons_zero, List.set_cons_succ]), (fun h1 h2 => by rw [updM_ne (by decide)]; exact c2 h1 h2), (fun h1 => by rw [updM_ne (by decide)]; exact c5 h1), (fun h1 h2 => by rw [updM_ne (by decide)]; exact c6 h1 h2), (fun h1 => by rw [updM_ne (by decide)]; exact c9 h1), (fun _ _ => ⟨_, rfl, updM_at⟩), (fun h => by cases h), c14, c15, cn15, w5, w9, (fun h => by cases h), w14, (fun h => by cases h), (fun _ => hst), (fun h => by cases h), (below_step bD hst.bel)⟩
      · cases (show true = false from hi2)
      · cases (show true = false from hi2)
      · obtain rfl : b13 = false := hi2
        obtain rfl : b14 = false := by (cases b14 with | false => rfl | true => (have hh := w14 rfl; simp at hh))
        obtain rfl : b16 = false := by (cases b16 with | false => rfl | true => (have hh := w16 rfl; simp at hh))
        have hst := cm rfl
        obtain rfl : b10 = true := ready_waits hi (i := 10) (by kernel_rfl)
        obtain rfl : b9 = true := ready_waits hi (i := 9) (by kernel_rfl)
        obtain ⟨g2, rfl, hs2⟩ := c10 rfl rfl
        refine ⟨_, rfl, fun KK hK => ?_⟩
        refine hst.app 2 hs2 hbs0 rV0 (Nat.le_trans hm3 (by decide)) rfl _ _ rfl rfl rfl ?_
        clear hst
        intro g' c' V' hst
        refine hK.out _ _ ?_
        exact ⟨_, _, _, true, true, true, false, _, false, v2, v5, v6, v9, (.slice (some ⟨g2, 0, none⟩) 0 0), _, v14, v15, _, _, rfl, (by simp only [Act.put, List.setIfInBounds_toArray, List.set_cons_zero, List.set_cons_succ]), (fun h1 h2 => by rw [updM_ne (by decide)]; exact c2 h1 h2), (fun h1 => by rw [updM_ne (by decide)]; exact c5 h1), (fun h1 h2 => by rw [updM_ne (by decide)]; exact c6 h1 h2), (fun h1 => by rw [updM_ne (by decide)]; exact c9 h1), (fun _ h => by cases h), (fun _ => ⟨_, _, rfl, updM_at⟩), (fun h => by cases h), c15, cn15, w5, w9, (fun _ => ⟨rfl, rfl⟩), (fun h => by cases h), (fun h => by cases h), (fun _ => hst), (fun h => by cases h), (below_step bD hst.bel)⟩
      · obtain rfl : b14 = false := hi2
        obtain rfl : b16 = false := by (cases b16 with | false => rfl | true => (have hh := w16 rfl; simp at hh))
        have hst := cm rfl
        obtain rfl : b5 = true := ready_waits hi (i := 5) (by kernel_rfl)
        obtain rfl : b9 = true := ready_waits hi (i := 9) (by kernel_rfl)
        obtain rfl : b13 = true := ready_waits hi (i := 13) (by kernel_rfl)
        obtain ⟨g0, d0, rfl, hs0⟩ := c5 rfl
        obtain ⟨g1, d1, rfl, hs1⟩ := c9 rfl
        obtain ⟨g2, d2, rfl, hs2⟩ := c13 rfl
        refine ⟨_, rfl, fun KK hK => ?_⟩
        go_simp
        refine hK.out _ _ ?_
        exact ⟨_, true, _, true, _, true, true, _, false, v2, _, v6, _, v10, _, _, v15, _, _, rfl, (by simp only [Act.put, List.setIfInBounds_toArray, List.set_cons_zero, List.set_cons_succ]), c2, (fun _ => ⟨_, _, rfl, hs0⟩), c6, (fun _ => ⟨_, _, rfl, hs1⟩), c10, (fun _ => ⟨_, _, rfl, hs2⟩), (fun _ => rfl), c15, cn15, w5, w9, w13, (fun _ => ⟨rfl, rfl, rfl⟩), (fun h => by cases h), (fun _ => hst), (fun h => by cases h), (below_step bD hst.bel)⟩
      · obtain rfl : b15 = false := hi2
        obtain rfl : b16 = false := by (cases b16 with | false => rfl | true => (have hh := w16 rfl; simp at hh))
        have hst := cm rfl
        obtain rfl := cn15 rfl
        replace hst := hst.bx
        refine ⟨_, rfl, fun KK hK => ?_⟩
        go_simp
        refine hK.out _ _ ?_
        exact ⟨_, _, _, _, _, _, _, true, false, v2, v5, v6, v9, v10, v13, v14, _, _, _, rfl, (by simp only [Act.put, List.setIfInBounds_toArray, List.set_cons_zero, List.set_cons_succ]), c2, c5, c6, c9, c10, c13, c14, (fun _ => ⟨_, rfl, rfl⟩), (fun h => by cases h), w5, w9, w13, w14, (fun h => by cases h), (fun _ => hst), (fun h => by cases h), (below_step bD hst.bel)⟩
      · obtain rfl : b16 = false := hi2
        obtain rfl : b2 = true := ready_waits hi (i := 2) (by kernel_rfl)
        obtain rfl : b5 = true := ready_waits hi (i := 5) (by kernel_rfl)
        obtain rfl : b6 = true := ready_waits hi (i := 6) (by kernel_rfl)
        obtain rfl : b9 = true := ready_waits hi (i := 9) (by kernel_rfl)
        obtain rfl : b10 = true := ready_waits hi (i := 10) (by kernel_rfl)
        obtain rfl : b13 = true := ready_waits hi (i := 13) (by kernel_rfl)
        obtain rfl : b14 = true := ready_waits hi (i := 14) (by kernel_rfl)
        obtain rfl : b15 = true := ready_waits hi (i := 15) (by kernel_rfl)
        obtain ⟨g0, d0, rfl, hs0⟩ := c5 rfl
        obtain ⟨g1, d1, rfl, hs1⟩ := c9 rfl
        obtain ⟨g2, d2, rfl, hs2⟩ := c13 rfl
        obtain ⟨gb, rfl, rfl⟩ := c15 rfl
        have hst := cm rfl
        obtain rfl := c14 rfl
        obtain ⟨kb, hgb, hap⟩ := hst.bk rfl
        have hn0 : g0 ≠ gb := hap 0 _ hs0
        have hn1 : g1 ≠ gb := hap 1 _ hs1
        have hn2 : g2 ≠ gb := hap 2 _ hs2
        have kf := blk_set12 kb (.int .u8 (mg : Nat)) (.int .u8 (op : Nat)) (.int .u16 (kl : Nat)) (.int .u8 (el : Nat)) (.int .u8 (ty : Nat)) (.int .u16 (st : Nat)) (.int .u32 (bl : Nat)) (.int .u32 (oq : Nat)) (.int .u64 (cas : Nat)) (.slice (some ⟨g0, 0, none⟩) mx d0) (.slice (some ⟨g1, 0, none⟩) mk d1) (.slice (some ⟨g2, 0, none⟩) mv d2)
        have gs := grown_set12 wx gb (.int .u8 (mg : Nat)) (.int .u8 (op : Nat)) (.int .u16 (kl : Nat)) (.int .u8 (el : Nat)) (.int .u8 (ty : Nat)) (.int .u16 (st : Nat)) (.int .u32 (bl : Nat)) (.int .u32 (oq : Nat)) (.int .u64 (cas : Nat)) (.slice (some ⟨g0, 0, none⟩) mx d0) (.slice (some ⟨g1, 0, none⟩) mk d1) (.slice (some ⟨g2, 0, none⟩) mv d2)
        have o0 := ((hst.own 0 hs0).left gs hn0).rd
        have o1 := ((hst.own 1 hs1).left gs hn1).rd
        have o2 := ((hst.own 2 hs2).left gs hn2).rd
        rw [hsz0] at hgb
        have hBel := bx.trans (below_grown gs hgb kb.lt)
        have hPost : ∃ (jb j0 e0 j1 e1 j2 e2 : Nat), Value.pointer (some ⟨gb, 0, none⟩) = .pointer (some ⟨jb, 0, none⟩) ∧ Blk ((((((((((((wx.setCell ⟨gb, 0, none⟩ (.int .u8 (mg : Nat))).setCell ⟨gb, 1, none⟩ (.int .u8 (op : Nat))).setCell ⟨gb, 2, none⟩ (.int .u16 (kl : Nat))).setCell ⟨gb, 3, none⟩ (.int .u8 (el : Nat))).setCell ⟨gb, 4, none⟩ (.int .u8 (ty : Nat))).setCell ⟨gb, 5, none⟩ (.int .u16 (st : Nat))).setCell ⟨gb, 6, none⟩ (.int .u32 (bl : Nat))).setCell ⟨gb, 7, none⟩ (.int .u32 (oq : Nat))).setCell ⟨gb, 8, none⟩ (.int .u64 (cas : Nat))).setCell ⟨gb, 9, none⟩ (.slice (some ⟨g0, 0, none⟩) mx d0)).setCell ⟨gb, 10, none⟩ (.slice (some ⟨g1, 0, none⟩) mk d1)).setCell ⟨gb, 11, none⟩ (.slice (some ⟨g2, 0, none⟩) mv d2)) jb #[.int .u8 (mg : Nat), .int .u8 (op : Nat), .int .u16 (kl : Nat), .int .u8 (el : Nat), .int .u8 (ty : Nat), .int .u16 (st : Nat), .int .u32 (bl : Nat), .int .u32 (oq : Nat), .int .u64 (cas : Nat), .slice (some ⟨j0, 0, none⟩) mx e0, .slice (some ⟨j1, 0, none⟩) mk e1, .slice (some ⟨j2, 0, none⟩) mv e2] 61 ∧ Rd ((((((((((((wx.setCell ⟨gb, 0, none⟩ (.int .u8 (mg : Nat))).setCell ⟨gb, 1, none⟩ (.int .u8 (op : Nat))).setCell ⟨gb, 2, none⟩ (.int .u16 (kl : Nat))).setCell ⟨gb, 3, none⟩ (.int .u8 (el : Nat))).setCell ⟨gb, 4, none⟩ (.int .u8 (ty : Nat))).setCell ⟨gb, 5, none⟩ (.int .u16 (st : Nat))).setCell ⟨gb, 6, none⟩ (.int .u32 (bl : Nat))).setCell ⟨gb, 7, none⟩ (.int .u32 (oq : Nat))).setCell ⟨gb, 8, none⟩ (.int .u64 (cas : Nat))).setCell ⟨gb, 9, none⟩ (.slice (some ⟨g0, 0, none⟩) mx d0)).setCell ⟨gb, 10, none⟩ (.slice (some ⟨g1, 0, none⟩) mk d1)).setCell ⟨gb, 11, none⟩ (.slice (some ⟨g2, 0, none⟩) mv d2)) ((((((((((((wx.setCell ⟨gb, 0, none⟩ (.int .u8 (mg : Nat))).setCell ⟨gb, 1, none⟩ (.int .u8 (op : Nat))).setCell ⟨gb, 2, none⟩ (.int .u16 (kl : Nat))).setCell ⟨gb, 3, none⟩ (.int .u8 (el : Nat))).setCell ⟨gb, 4, none⟩ (.int .u8 (ty : Nat))).setCell ⟨gb, 5, none⟩ (.int .u16 (st : Nat))).setCell ⟨gb, 6, none⟩ (.int .u32 (bl : Nat))).setCell ⟨gb, 7, none⟩ (.int .u32 (oq : Nat))).setCell ⟨gb, 8, none⟩ (.int .u64 (cas : Nat))).setCell ⟨gb, 9, none⟩ (.slice (some ⟨g0, 0, none⟩) mx d0)).setCell ⟨gb, 10, none⟩ (.slice (some ⟨g1, 0, none⟩) mk d1)).setCell ⟨gb, 11, none⟩ (.slice (some ⟨g2, 0, none⟩) mv d2)).heap.size (some ⟨j0, 0, none⟩) mx e0 ux ∧ Rd ((((((((((((wx.setCell ⟨gb, 0, none⟩ (.int .u8 (mg : Nat))).setCell ⟨gb, 1, none⟩ (.int .u8 (op : Nat))).setCell ⟨gb, 2, none⟩ (.int .u16 (kl : Nat))).setCell ⟨gb, 3, none⟩ (.int .u8 (el : Nat))).setCell ⟨gb, 4, none⟩ (.int .u8 (ty : Nat))).setCell ⟨gb, 5, none⟩ (.int .u16 (st : Nat))).setCell ⟨gb, 6, none⟩ (.int .u32 (bl : Nat))).setCell ⟨gb, 7, none⟩ (.int .u32 (oq : Nat))).setCell ⟨gb, 8, none⟩ (.int .u64 (cas : Nat))).setCell ⟨gb, 9, none⟩ (.slice (some ⟨g0, 0, none⟩) mx d0)).setCell ⟨gb, 10, none⟩ (.slice (some ⟨g1, 0, none⟩) mk d1)).setCell ⟨gb, 11, none⟩ (.slice (some ⟨g2, 0, none⟩) mv d2)) ((((((((((((wx.setCell ⟨gb, 0, none⟩ (.int .u8 (mg : Nat))).setCell ⟨gb, 1, none⟩ (.int .u8 (op : Nat))).setCell ⟨gb, 2, none⟩ (.int .u16 (kl : Nat))).setCell ⟨gb, 3, none⟩ (.int .u8 (el : Nat))).setCell ⟨gb, 4, none⟩ (.int .u8 (ty : Nat))).setCell ⟨gb, 5, none⟩ (.int .u16 (st : Nat))).setCell ⟨gb, 6, none⟩ (.int .u32 (bl : Nat))).setCell ⟨gb, 7, none⟩ (.int .u32 (oq : Nat))).setCell ⟨gb, 8, none⟩ (.int .u64 (cas : Nat))).setCell ⟨gb, 9, none⟩ (.slice (some ⟨g0, 0, none⟩) mx d0)).setCell ⟨gb, 10, none⟩ (.slice (some ⟨g1, 0, none⟩) mk d1)).setCell ⟨gb, 11, none⟩ (.slice (some ⟨g2, 0, none⟩) mv d2)).heap.size (some ⟨j1, 0, none⟩) mk e1 uk ∧ Rd ((((((((((((wx.setCell ⟨gb, 0, none⟩ (.int .u8 (mg : Nat))).setCell ⟨gb, 1, none⟩ (.int .u8 (op : Nat))).setCell ⟨gb, 2, none⟩ (.int .u16 (kl : Nat))).setCell ⟨gb, 3, none⟩ (.int .u8 (el : Nat))).setCell ⟨gb, 4, none⟩ (.int .u8 (ty : Nat))).setCell ⟨gb, 5, none⟩ (.int .u16 (st : Nat))).setCell ⟨gb, 6, none⟩ (.int .u32 (bl : Nat))).setCell ⟨gb, 7, none⟩ (.int .u32 (oq : Nat))).setCell ⟨gb, 8, none⟩ (.int .u64 (cas : Nat))).setCell ⟨gb, 9, none⟩ (.slice (some ⟨g0, 0, none⟩) mx d0)).setCell ⟨gb, 10, none⟩ (.slice (some ⟨g1, 0, none⟩) mk d1)).setCell ⟨gb, 11, none⟩ (.slice (some ⟨g2, 0, none⟩) mv d2)) ((((((((((((wx.setCell ⟨gb, 0, none⟩ (.int .u8 (mg : Nat))).setCell ⟨gb, 1, none⟩ (.int .u8 (op : Nat))).setCell ⟨gb, 2, none⟩ (.int .u16 (kl : Nat))).setCell ⟨gb, 3, none⟩ (.int .u8 (el : Nat))).setCell ⟨gb, 4, none⟩ (.int .u8 (ty : Nat))).setCell ⟨gb, 5, none⟩ (.int .u16 (st : Nat))).setCell ⟨gb, 6, none⟩ (.int .u32 (bl : Nat))).setCell ⟨gb, 7, none⟩ (.int .u32 (oq : Nat))).setCell ⟨gb, 8, none⟩ (.int .u64 (cas : Nat))).setCell ⟨gb, 9, none⟩ (.slice (some ⟨g0, 0, none⟩) mx d0)).setCell ⟨gb, 10, none⟩ (.slice (some ⟨g1, 0, none⟩) mk d1)).setCell ⟨gb, 11, none⟩ (.slice (some ⟨g2, 0, none⟩) mv d2)).heap.size (some ⟨j2, 0, none⟩) mv e2 uv ∧ Below W3.heap.size W3 ((((((((((((wx.setCell ⟨gb, 0, none⟩ (.int .u8 (mg : Nat))).setCell ⟨gb, 1, none⟩ (.int .u8 (op : Nat))).setCell ⟨gb, 2, none⟩ (.int .u16 (kl : Nat))).setCell ⟨gb, 3, none⟩ (.int .u8 (el : Nat))).setCell ⟨gb, 4, none⟩ (.int .u8 (ty : Nat))).setCell ⟨gb, 5, none⟩ (.int .u16 (st : Nat))).setCell ⟨gb, 6, none⟩ (.int .u32 (bl : Nat))).setCell ⟨gb, 7, none⟩ (.int .u32 (oq : Nat))).setCell ⟨gb, 8, none⟩ (.int .u64 (cas : Nat))).setCell ⟨gb, 9, none⟩ (.slice (some ⟨g0, 0, none⟩) mx d0)).setCell ⟨gb, 10, none⟩ (.slice (some ⟨g1, 0, none⟩) mk d1)).setCell ⟨gb, 11, none⟩ (.slice (some ⟨g2, 0, none⟩) mv d2)) := ⟨gb, g0, d0, g1, d1, g2, d2, rfl, kf, o0, o1, o2, hBel⟩
        obtain ⟨u0, u1, u2, u3, u4, u5, u6, u7, u8, u9, u10, u11⟩ := box12 kb
        have y0 := kb.frozen 0
        have y1 := kb.frozen 1
        have y2 := kb.frozen 2
        have y3 := kb.frozen 3
        have y4 := kb.frozen 4
        have y5 := kb.frozen 5
        have y6 := kb.frozen 6
        have y7 := kb.frozen 7
        have y8 := kb.frozen 8
        have y9 := kb.frozen 9
        have y10 := kb.frozen 10
        have y11 := kb.frozen 11
        refine ⟨_, rfl, fun KK hK => ?_⟩
        go_simp
        refine hK.out _ _ ?_
        exact ⟨true, true, true, true, true, true, true, true, true, v2, (.slice (some ⟨g0, 0, none⟩) mx d0), v6, (.slice (some ⟨g1, 0, none⟩) mk d1), v10, (.slice (some ⟨g2, 0, none⟩) mv d2), (.agg #[.int .u8 (mg : Nat), .int .u8 (op : Nat), .int .u16 (kl : Nat), .int .u8 (el : Nat), .int .u8 (ty : Nat), .int .u16 (st : Nat), .int .u32 (bl : Nat), .int .u32 (oq : Nat), .int .u64 (cas : Nat), .slice (some ⟨g0, 0, none⟩) mx d0, .slice (some ⟨g1, 0, none⟩) mk d1, .slice (some ⟨g2, 0, none⟩) mv d2]), (.pointer (some ⟨gb, 0, none⟩)), s, some gb, rfl, (by simp only [Act.put, List.setIfInBounds_toArray, List.set_cons_zero, List.set_cons_succ]), (fun h1 h2 => by cases h2), (fun _ => ⟨_, _, rfl, hs0⟩), (fun h1 h2 => by cases h2), (fun _ => ⟨_, _, rfl, hs1⟩), (fun h1 h2 => by cases h2), (fun _ => ⟨_, _, rfl, hs2⟩), (fun _ => rfl), (fun _ => ⟨_, rfl, rfl⟩), (fun h => by cases h), (fun _ => rfl), (fun _ => ⟨rfl, rfl⟩), (fun _ => ⟨rfl, rfl⟩), (fun _ => ⟨rfl, rfl, rfl⟩), (fun _ => ⟨rfl, rfl, rfl, rfl, rfl, rfl, rfl, rfl⟩), (fun h => by cases h), (fun _ => hPost), hBel⟩
    · rintro listed a wx ⟨b2, b5, b6, b9, b10, b13, b14, b15, b16, v2, v5, v6, v9, v10, v13, v14, v15, s, sb, rfl, rfl, c2, c5, c6, c9, c10, c13, c14, c15, cn15, w5, w9, w13, w14, w16, cm, cp, bx⟩ hr
      obtain rfl : b16 = true := ready_end (by kernel_rfl) (by kernel_rfl) hr 16 (by decide)
      obtain ⟨gb, g0, d0, g1, d1, g2, d2, rfl, kF, o0, o1, o2, bw⟩ := cp rfl
      refine NoPanic.normal ?_
      go_wp2_with fail
      go_meet
      exact ⟨gb, g0, d0, g1, d1, g2, d2, rfl, kF, o0, o1, o2, bw⟩
  case rest =>
    obtain ⟨g3, g0, d0, g1, d1, g2, d2, rfl, k3, sX, sK, sV, b3⟩ := hcut
    have hbz := b.size
    replace k1 := k1.step b3
    replace rX := (rX.more hbz).step b3
    replace rK := (rK.more hbz).step b3
    replace rV := (rV.more hbz).step b3
    replace b := below_step b b3
    clear b3 hbz
    obtain ⟨t0, t1, t2, t3, t4, t5, t6, t7, t8, t9, t10, t11⟩ := box12 k3
    go_wp2_with fail
    refine (HRQ.out _ _ _ _ _ _ _ sX sK sV).mono ?_
    rintro e w5 ⟨rfl, b5⟩
    replace k1 := k1.step b5
    replace k3 := k3.step b5
    replace sX := sX.step b5
    replace sK := sK.step b5
    replace sV := sV.step b5
    replace rX := rX.step b5
    replace rK := rK.step b5
    replace rV := rV.step b5
    replace b := below_step b b5
    clear b5
    clear t0 t1 t2 t3 t4 t5 t6 t7 t8 t9 t10 t11
    go_upto_region 6 with fail
    have kq := Blk.new w5 #[.int .i64 0, .bool false, .bool false, .int .i64 0, .int .u32 0, .slice none 0 0, .slice none 0 0, .int .u32 0, .int .u32 0, .int .u64 0, .int .u64 0, .int .u64 0] 26
    have ba := below_a1' (Below.refl w5.heap.size w5) (.cells #[.int .i64 0, .bool false, .bool false, .int .i64 0, .int .u32 0, .slice none 0 0, .slice none 0 0, .int .u32 0, .int .u32 0, .int .u64 0, .int .u64 0, .int .u64 0] 26)
    replace k1 := k1.step ba
    replace k3 := k3.step ba
    replace sX := sX.step ba
    replace sK := sK.step ba
    replace sV := sV.step ba
    replace rX := rX.step ba
    replace rK := rK.step ba
    replace rV := rV.step ba
    replace b := below_step b ba
    clear ba
    generalize w5.alloc (.cells #[.int .i64 0, .bool false, .bool false, .int .i64 0, .int .u32 0, .slice none 0 0, .slice none 0 0, .int .u32 0, .int .u32 0, .int .u64 0, .int .u64 0, .int .u64 0] 26) = W5 at kq b k1 k3 sX sK sV rX rK rV ⊢
    generalize w5.heap.size = gq at kq ⊢
    obtain ⟨t0, t1, t2, t3, t4, t5, t6, t7, t8, t9, t10, t11⟩ := box12 k3
    obtain ⟨z0, z1, z2, z3, z4, z5, z6, z7, z8, z9, z10, z11⟩ := box12 k1
    go_wp2_with fail
    refine (HFS.out _ _ _ _ _ _ _ _ _ _ _ _ _ sX sK sV rX rK rV).mono ?_
    rintro e w6 ⟨rfl, b6⟩
    replace k1 := k1.step b6
    replace k3 := k3.step b6
    replace sX := sX.step b6
    replace sK := sK.step b6
    replace sV := sV.step b6
    replace rX := rX.step b6
    replace rK := rK.step b6
    replace rV := rV.step b6
    replace kq := kq.step b6
    replace b := below_step b b6
    clear b6
    clear t0 t1 t2 t3 t4 t5 t6 t7 t8 t9 t10 t11 z0 z1 z2 z3 z4 z5 z6 z7 z8 z9 z10 z11
    obtain ⟨z0, z1, z2, z3, z4, z5, z6, z7, z8, z9, z10, z11⟩ := box12 k1
    go_wp2_with fail
    refine (HWR.out _ _ _ _ _ _ _).mono ?_
    rintro e w7 ⟨rfl, b7⟩
    replace k1 := k1.step b7
    replace k3 := k3.step b7
    replace sX := sX.step b7
    replace sK := sK.step b7
    replace sV := sV.step b7
    replace rX := rX.step b7
    replace rK := rK.step b7
    replace rV := rV.step b7
    replace kq := kq.step b7
    replace b := below_step b b7
    clear b7
    clear z0 z1 z2 z3 z4 z5 z6 z7 z8 z9 z10 z11
    obtain ⟨z0, z1, z2, z3, z4, z5, z6, z7, z8, z9, z10, z11⟩ := box12 k1
    go_wp2_with fail
    refine (HRT.out _).mono ?_
    rintro e w8 ⟨rfl, b8⟩
    replace k1 := k1.step b8
    replace k3 := k3.step b8
    replace sX := sX.step b8
    replace sK := sK.step b8
    replace sV := sV.step b8
    replace rX := rX.step b8
    replace rK := rK.step b8
    replace rV := rV.step b8
    replace kq := kq.step b8
    replace b := below_step b b8
    clear b8
    clear z0 z1 z2 z3 z4 z5 z6 z7 z8 z9 z10 z11
    obtain ⟨t0, t1, t2, t3, t4, t5, t6, t7, t8, t9, t10, t11⟩ := box12 kq
    go_wp2_with fail
    refine (HSZ.out _).mono ?_
    rintro e w9 ⟨rfl, b9⟩
    replace b := below_step b b9
    clear b9
    go_wp2_with fail
    go_ret
    exact ⟨rfl, b⟩
set_option maxRecDepth 100000 in
set_option maxHeartbeats 8000000 in
theorem preqs_yes (mg op kl el ty st bl oq cas : Nat) (X K V : Option Addr) (nx cx nk ck nv cv mx mk mv : Nat) (ux uk uv : List UInt8) (w : World) (hm1 : mx ≤ 300) (hm2 : mk ≤ 3000) (hm3 : mv ≤ 3000)
    (HSH : Hid (∀ W, Below w.heap.size w W → Calls Try.prog 52 #[.agg #[.int .u8 (mg : Nat), .int .u8 (op : Nat), .int .u16 (kl : Nat), .int .u8 (el : Nat), .int .u8 (ty : Nat), .int .u16 (st : Nat), .int .u32 (bl : Nat), .int .u32 (oq : Nat), .int .u64 (cas : Nat), .slice X nx cx, .slice K nk ck, .slice V nv cv]] W (ShortP w.heap.size mg op kl el ty st bl oq cas mx mk mv ux uk uv W)))
    (HFS : Hid (∀ W X4 cx4 K4 ck4 V4 cv4 X5 cx5 K5 ck5 V5 cv5, Rd W W.heap.size X4 mx cx4 ux → Rd W W.heap.size K4 mk ck4 uk → Rd W W.heap.size V4 mv cv4 uv → Rd W W.heap.size X5 mx cx5 ux → Rd W W.heap.size K5 mk ck5 uk → Rd W W.heap.size V5 mv cv5 uv → Calls Try.prog 47 #[.agg #[.int .u8 (mg : Nat), .int .u8 (op : Nat), .int .u16 (kl : Nat), .int .u8 (el : Nat), .int .u8 (ty : Nat), .int .u16 (st : Nat), .int .u32 (bl : Nat), .int .u32 (oq : Nat), .int .u64 (cas : Nat), .slice X4 mx cx4, .slice K4 mk ck4, .slice V4 mv cv4], .agg #[.int .u8 (mg : Nat), .int .u8 (op : Nat), .int .u16 (kl : Nat), .int .u8 (el : Nat), .int .u8 (ty : Nat), .int .u16 (st : Nat), .int .u32 (bl : Nat), .int .u32 (oq : Nat), .int .u64 (cas : Nat), .slice X5 mx cx5, .slice K5 mk ck5, .slice V5 mv cv5]] W (BoxQ (.bool true) W)))
    (q : RQ)
    (HRQ : Hid (∀ W X4 cx4 K4 ck4 V4 cv4, Rd W W.heap.size X4 mx cx4 ux → Rd W W.heap.size K4 mk ck4 uk → Rd W W.heap.size V4 mv cv4 uv → Calls Try.prog 53 #[.agg #[.int .u8 (mg : Nat), .int .u8 (op : Nat), .int .u16 (kl : Nat), .int .u8 (el : Nat), .int .u8 (ty : Nat), .int .u16 (st : Nat), .int .u32 (bl : Nat), .int .u32 (oq : Nat), .int .u64 (cas : Nat), .slice X4 mx cx4, .slice K4 mk ck4, .slice V4 mv cv4]] W (PrqYes q W)))
    (HWR : Hid (∀ W X4 cx4 K4 ck4 V4 cv4, Calls Try.prog 54 #[.agg #[.int .u8 (mg : Nat), .int .u8 (op : Nat), .int .u16 (kl : Nat), .int .u8 (el : Nat), .int .u8 (ty : Nat), .int .u16 (st : Nat), .int .u32 (bl : Nat), .int .u32 (oq : Nat), .int .u64 (cas : Nat), .slice X4 mx cx4, .slice K4 mk ck4, .slice V4 mv cv4]] W (BoxQ (.int .i64 0) W)))
    (HRT : Hid (∀ W, Calls Try.prog 55 #[.agg #[.int .u8 (mg : Nat), .int .u8 (op : Nat), .int .u16 (kl : Nat), .int .u8 (el : Nat), .int .u8 (ty : Nat), .int .u16 (st : Nat), .int .u32 (bl : Nat), .int .u32 (oq : Nat), .int .u64 (cas : Nat)]] W (BoxQ' (.bool true) W)))
    (HRF : Hid (∀ W X4 cx4 K4 ck4 V4 cv4, Rd W W.heap.size X4 mx cx4 ux → Rd W W.heap.size K4 mk ck4 uk → Rd W W.heap.size V4 mv cv4 uv → Calls Try.prog 56 #[.agg #[.int .u8 (mg : Nat), .int .u8 (op : Nat), .int .u16 (kl : Nat), .int .u8 (el : Nat), .int .u8 (ty : Nat), .int .u16 (st : Nat), .int .u32 (bl : Nat), .int .u32 (oq : Nat), .int .u64 (cas : Nat), .slice X4 mx cx4, .slice K4 mk ck4, .slice V4 mv cv4]] W (RqP q W)))
    (HSQ : Hid (∀ W K6 nk6 ck6 V6 nv6 cv6 K7 nk7 ck7 V7 nv7 cv7, Rd W W.heap.size K6 nk6 ck6 q.lk → Rd W W.heap.size V6 nv6 cv6 q.lv → Rd W W.heap.size K7 nk7 ck7 q.lk → Rd W W.heap.size V7 nv7 cv7 q.lv → Calls Try.prog 45 #[.agg #[.int .i64 q.op, .bool q.qt, .bool q.fu, .int .i64 q.bd, .int .u32 (q.oq : Nat), .slice K6 nk6 ck6, .slice V6 nv6 cv6, .int .u32 (q.fl : Nat), .int .u32 (q.ex : Nat), .int .u64 (q.cs : Nat), .int .u64 (q.dl : Nat), .int .u64 (q.ni : Nat)], .agg #[.int .i64 q.op, .bool q.qt, .bool q.fu, .int .i64 q.bd, .int .u32 (q.oq : Nat), .slice K7 nk7 ck7, .slice V7 nv7 cv7, .int .u32 (q.fl : Nat), .int .u32 (q.ex : Nat), .int .u64 (q.cs : Nat), .int .u64 (q.dl : Nat), .int .u64 (q.ni : Nat)]] W (PSame true W)))
    (HLN : Hid (q.lk.length ≤ 9223372036854775800 ∧ q.lv.length ≤ 9223372036854775800)) :
    Calls Try.prog 12 #[.agg #[.int .u8 (mg : Nat), .int .u8 (op : Nat), .int .u16 (kl : Nat), .int .u8 (el : Nat), .int .u8 (ty : Nat), .int .u16 (st : Nat), .int .u32 (bl : Nat), .int .u32 (oq : Nat), .int .u64 (cas : Nat), .slice X nx cx, .slice K nk ck, .slice V nv cv]] w fun e w' => e = .returned (.bool true) ∧ Below w.heap.size w w' := by
  have k1 := Blk.new w #[.int .u8 (mg : Nat), .int .u8 (op : Nat), .int .u16 (kl : Nat), .int .u8 (el : Nat), .int .u8 (ty : Nat), .int .u16 (st : Nat), .int .u32 (bl : Nat), .int .u32 (oq : Nat), .int .u64 (cas : Nat), .slice X nx cx, .slice K nk ck, .slice V nv cv] 61
  have b : Below w.heap.size w (w.alloc (.cells #[.int .u8 (mg : Nat), .int .u8 (op : Nat), .int .u16 (kl : Nat), .int .u8 (el : Nat), .int .u8 (ty : Nat), .int .u16 (st : Nat), .int .u32 (bl : Nat), .int .u32 (oq : Nat), .int .u64 (cas : Nat), .slice X nx cx, .slice K nk ck, .slice V nv cv] 61)) := below_a1' (Below.refl _ _) _
  go_enter Try.func12, Try.ntmps12
  go_upto_region 1 with fail
  generalize w.alloc (.cells #[.int .u8 (mg : Nat), .int .u8 (op : Nat), .int .u16 (kl : Nat), .int .u8 (el : Nat), .int .u8 (ty : Nat), .int .u16 (st : Nat), .int .u32 (bl : Nat), .int .u32 (oq : Nat), .int .u64 (cas : Nat), .slice X nx cx, .slice K nk ck, .slice V nv cv] 61) = W0 at k1 b ⊢
  go_wp2_with fail
  refine (wakes20 W0).mono ?_
  rintro e w1 ⟨rfl, b1⟩
  replace k1 := k1.step b1
  replace b := below_step b b1
  clear b1
  obtain ⟨a0, a1, a2, a3, a4, a5, a6, a7, a8, a9, a10, a11⟩ := box12 k1
  go_wp2_with fail
  refine (HSH.out _ b).mono ?_
  rintro e w2 ⟨X2, cx2, K2, ck2, V2, cv2, rfl, rX, rK, rV, b1⟩
  replace k1 := k1.step b1
  replace b := below_step b b1
  clear b1 a0 a1 a2 a3 a4 a5 a6 a7 a8 a9 a10 a11
  obtain ⟨z0, z1, z2, z3, z4, z5, z6, z7, z8, z9, z10, z11⟩ := box12 k1
  have y0 := k1.frozen 0
  have y1 := k1.frozen 1
  have y2 := k1.frozen 2
  have y3 := k1.frozen 3
  have y4 := k1.frozen 4
  have y5 := k1.frozen 5
  have y6 := k1.frozen 6
  have y7 := k1.frozen 7
  have y8 := k1.frozen 8
  have y9 := k1.frozen 9
  have y10 := k1.frozen 10
  have y11 := k1.frozen 11
  have kf := blk_set12 k1 (.int .u8 (mg : Nat)) (.int .u8 (op : Nat)) (.int .u16 (kl : Nat)) (.int .u8 (el : Nat)) (.int .u8 (ty : Nat)) (.int .u16 (st : Nat)) (.int .u32 (bl : Nat)) (.int .u32 (oq : Nat)) (.int .u64 (cas : Nat)) (.slice X2 mx cx2) (.slice K2 mk ck2) (.slice V2 mv cv2)
  have hg := grown_set12 w2 w.heap.size (.int .u8 (mg : Nat)) (.int .u8 (op : Nat)) (.int .u16 (kl : Nat)) (.int .u8 (el : Nat)) (.int .u8 (ty : Nat)) (.int .u16 (st : Nat)) (.int .u32 (bl : Nat)) (.int .u32 (oq : Nat)) (.int .u64 (cas : Nat)) (.slice X2 mx cx2) (.slice K2 mk ck2) (.slice V2 mv cv2)
  have b1 := below_grown hg (Nat.le_refl _) k1.lt
  have bff := b.trans b1
  replace rX := rX.below b1
  replace rK := rK.below b1
  replace rV := rV.below b1
  clear b b1 hg k1
  go_upto_region 4 with fail
  clear z0 z1 z2 z3 z4 z5 z6 z7 z8 z9 z10 z11 y0 y1 y2 y3 y4 y5 y6 y7 y8 y9 y10 y11
  generalize (((((((((((w2.setCell ⟨w.heap.size, 0, none⟩ (.int .u8 (mg : Nat))).setCell ⟨w.heap.size, 1, none⟩ (.int .u8 (op : Nat))).setCell ⟨w.heap.size, 2, none⟩ (.int .u16 (kl : Nat))).setCell ⟨w.heap.size, 3, none⟩ (.int .u8 (el : Nat))).setCell ⟨w.heap.size, 4, none⟩ (.int .u8 (ty : Nat))).setCell ⟨w.heap.size, 5, none⟩ (.int .u16 (st : Nat))).setCell ⟨w.heap.size, 6, none⟩ (.int .u32 (bl : Nat))).setCell ⟨w.heap.size, 7, none⟩ (.int .u32 (oq : Nat))).setCell ⟨w.heap.size, 8, none⟩ (.int .u64 (cas : Nat))).setCell ⟨w.heap.size, 9, none⟩ (.slice X2 mx cx2)).setCell ⟨w.heap.size, 10, none⟩ (.slice K2 mk ck2)).setCell ⟨w.heap.size, 11, none⟩ (.slice V2 mv cv2) = W3 at kf bff rX rK rV ⊢
  have k1 := kf
  have b := bff
  clear kf bff
  go_cut [3] (fun s3 wx => ∃ (jb j0 e0 j1 e1 j2 e2 : Nat), s3 = .pointer (some ⟨jb, 0, none⟩) ∧ Blk wx jb #[.int .u8 (mg : Nat), .int .u8 (op : Nat), .int .u16 (kl : Nat), .int .u8 (el : Nat), .int .u8 (ty : Nat), .int .u16 (st : Nat), .int .u32 (bl : Nat), .int .u32 (oq : Nat), .int .u64 (cas : Nat), .slice (some ⟨j0, 0, none⟩) mx e0, .slice (some ⟨j1, 0, none⟩) mk e1, .slice (some ⟨j2, 0, none⟩) mv e2] 61 ∧ Rd wx wx.heap.size (some ⟨j0, 0, none⟩) mx e0 ux ∧ Rd wx wx.heap.size (some ⟨j1, 0, none⟩) mk e1 uk ∧ Rd wx wx.heap.size (some ⟨j2, 0, none⟩) mv e2 uv ∧ Below W3.heap.size W3 wx)
  case first =>
    refine wp_region_noPanic ?_
    refine region_T (fun wx => Blk wx w.heap.size #[.int .u8 (mg : Nat), .int .u8 (op : Nat), .int .u16 (kl : Nat), .int .u8 (el : Nat), .int .u8 (ty : Nat), .int .u16 (st : Nat), .int .u32 (bl : Nat), .int .u32 (oq : Nat), .int .u64 (cas : Nat), .slice X2 mx cx2, .slice K2 mk ck2, .slice V2 mv cv2] 61) 16 (by kernel_rfl) ?_
    have bD : Below W3.heap.size W3 W3.drew := (Below.refl _ _).drew
    have hHeld := k1.step bD
    have rX0 : Rd W3.drew w.heap.size X2 mx cx2 ux := rX
    have rK0 : Rd W3.drew w.heap.size K2 mk ck2 uk := rK
    have rV0 : Rd W3.drew w.heap.size V2 mv cv2 uv := rV
    have hsz0 : W3.drew.heap.size = W3.heap.size := rfl
    have hbs := b.size
    have hbs0 : w.heap.size ≤ W3.drew.heap.size := hbs
    generalize W3.drew = Y0 at bD hHeld rX0 rK0 rV0 hsz0 hbs0 ⊢
    refine takeT (i := 0) (v := ?_) rfl (by kernel_rfl) (by kernel_rfl) (by decide) (by kernel_rfl) (by kernel_rfl) (fun _ _ _ h => h) (Or.inl ⟨by rfl, ?_⟩) hHeld ?_
    rotate_left
    · (intro wx hSw; obtain ⟨a0, a1, a2, a3, a4, a5, a6, a7, a8, a9, a10, a11⟩ := box12 hSw; go_simp; try (with_reducible rfl))
    try simp only [Act.put, List.setIfInBounds_toArray, List.set_cons_zero, List.set_cons_succ]
    refine takeT (i := 1) (v := ?_) rfl (by kernel_rfl) (by kernel_rfl) (by decide) (by kernel_rfl) (by kernel_rfl) (fun _ _ _ h => h) (Or.inl ⟨by rfl, ?_⟩) hHeld ?_
    rotate_left
    · (intro wx hSw; obtain ⟨a0, a1, a2, a3, a4, a5, a6, a7, a8, a9, a10, a11⟩ := box12 hSw; go_simp; try (with_reducible rfl))
    try simp only [Act.put, List.setIfInBounds_toArray, List.set_cons_zero, List.set_cons_succ]
    refine takeT (i := 3) (v := ?_) rfl (by kernel_rfl) (by kernel_rfl) (by decide) (by kernel_rfl) (by kernel_rfl) (fun _ _ _ h => h) (Or.inl ⟨by rfl, ?_⟩) hHeld ?_
    rotate_left
    · (intro wx hSw; obtain ⟨a0, a1, a2, a3, a4, a5, a6, a7, a8, a9, a10, a11⟩ := box12 hSw; go_simp; try (with_reducible rfl))
    try simp only [Act.put, List.setIfInBounds_toArray, List.set_cons_zero, List.set_cons_succ]
    refine takeT (i := 4) (v := ?_) rfl (by kernel_rfl) (by kernel_rfl) (by decide) (by kernel_rfl) (by kernel_rfl) (fun _ _ _ h => h) (Or.inl ⟨by rfl, ?_⟩) hHeld ?_
    rotate_left
    · (intro wx hSw; obtain ⟨a0, a1, a2, a3, a4, a5, a6, a7, a8, a9, a10, a11⟩ := box12 hSw; go_simp; try (with_reducible rfl))
    try simp only [Act.put, List.setIfInBounds_toArray, List.set_cons_zero, List.set_cons_succ]
    refine takeT (i := 7) (v := ?_) rfl (by kernel_rfl) (by kernel_rfl) (by decide) (by kernel_rfl) (by kernel_rfl) (fun _ _ _ h => h) (Or.inl ⟨by rfl, ?_⟩) hHeld ?_
    rotate_left
    · (intro wx hSw; obtain ⟨a0, a1, a2, a3, a4, a5, a6, a7, a8, a9, a10, a11⟩ := box12 hSw; go_simp; try (with_reducible rfl))
    try simp only [Act.put, List.setIfInBounds_toArray, List.set_cons_zero, List.set_cons_succ]
    refine takeT (i := 8) (v := ?_) rfl (by kernel_rfl) (by kernel_rfl) (by decide) (by kernel_rfl) (by kernel_rfl) (fun _ _ _ h => h) (Or.inl ⟨by rfl, ?_⟩) hHeld ?_
    rotate_left
    · (intro wx hSw; obtain ⟨a0, a1, a2, a3, a4, a5, a6, a7, a8, a9, a10, a11⟩ := box12 hSw; go_simp; try (with_reducible rfl))
    try simp only [Act.put, List.setIfInBounds_toArray, List.set_cons_zero, List.set_cons_succ]
    refine takeT (i := 11) (v := ?_) rfl (by kernel_rfl) (by kernel_rfl) (by decide) (by kernel_rfl) (by kernel_rfl) (fun _ _ _ h => h) (Or.inl ⟨by rfl, ?_⟩) hHeld ?_
    rotate_left
    · (intro wx hSw; obtain ⟨a0, a1, a2, a3, a4, a5, a6, a7, a8, a9, a10, a11⟩ := box12 hSw; go_simp; try (with_reducible rfl))
    try simp only [Act.put, List.setIfInBounds_toArray, List.set_cons_zero, List.set_cons_succ]
    refine takeT (i := 12) (v := ?_) rfl (by kernel_rfl) (by kernel_rfl) (by decide) (by kernel_rfl) (by kernel_rfl) (fun _ _ _ h => h) (Or.inl ⟨by rfl, ?_⟩) hHeld ?_
    rotate_left
    · (intro wx hSw; obtain ⟨a0, a1, a2, a3, a4, a5, a6, a7, a8, a9, a10, a11⟩ := box12 hSw; go_simp; try (with_reducible rfl))
    try simp only [Act.put, List.setIfInBounds_toArray, List.set_cons_zero, List.set_cons_succ]
    refine anyT_inv (fun a0 listed a wx => ∃ (b2 b5 b6 b9 b10 b13 b14 b15 b16 : Bool) (v2 v5 v6 v9 v10 v13 v14 v15 : Value) (s : Nat → Option (Nat × Nat × Nat × List UInt8)) (sb : Option Nat), listed = #[true, true, b2, true, true, b5, b6, true, true, b9, b10, true, true, b13, b14, b15, b16] ∧ a = ((((((((a0.put (some 13) v2).put (some 16) v5).put (some 17) v6).put (some 20) v9).put (some 21) v10).put (some 24) v13).put (some 25) v14).put (some 3) v15) ∧ (b2 = true → b5 = false → ∃ g, v2 = .slice (some ⟨g, 0, none⟩) 0 0 ∧ s 0 = some (g, 0, 0, [])) ∧ (b5 = true → ∃ g c, v5 = .slice (some ⟨g, 0, none⟩) mx c ∧ s 0 = some (g, mx, c, ux)) ∧ (b6 = true → b9 = false → ∃ g, v6 = .slice (some ⟨g, 0, none⟩) 0 0 ∧ s 1 = some (g, 0, 0, [])) ∧ (b9 = true → ∃ g c, v9 = .slice (some ⟨g, 0, none⟩) mk c ∧ s 1 = some (g, mk, c, uk)) ∧ (b10 = true → b13 = false → ∃ g, v10 = .slice (some ⟨g, 0, none⟩) 0 0 ∧ s 2 = some (g, 0, 0, [])) ∧ (b13 = true → ∃ g c, v13 = .slice (some ⟨g, 0, none⟩) mv c ∧ s 2 = some (g, mv, c, uv)) ∧ (b14 = true → v14 = .agg #[.int .u8 (mg : Nat), .int .u8 (op : Nat), .int .u16 (kl : Nat), .int .u8 (el : Nat), .int .u8 (ty : Nat), .int .u16 (st : Nat), .int .u32 (bl : Nat), .int .u32 (oq : Nat), .int .u64 (cas : Nat), v5, v9, v13]) ∧ (b15 = true → ∃ g, v15 = .pointer (some ⟨g, 0, none⟩) ∧ sb = some g) ∧ (b15 = false → sb = none) ∧ (b5 = true → b2 = true) ∧ (b9 = true → b6 = true ∧ b5 = true) ∧ (b13 = true → b10 = true ∧ b9 = true) ∧ (b14 = true → b5 = true ∧ b9 = true ∧ b13 = true) ∧ (b16 = true → b2 = true ∧ b5 = true ∧ b6 = true ∧ b9 = true ∧ b10 = true ∧ b13 = true ∧ b14 = true ∧ b15 = true) ∧ (b16 = false → MkS Y0 wx #[.int .u8 0, .int .u8 0, .int .u16 0, .int .u8 0, .int .u8 0, .int .u16 0, .int .u32 0, .int .u32 0, .int .u64 0, .slice none 0 0, .slice none 0 0, .slice none 0 0] 61 s sb) ∧ (b16 = true → ∃ (jb j0 e0 j1 e1 j2 e2 : Nat), v15 = .pointer (some ⟨jb, 0, none⟩) ∧ Blk wx jb #[.int .u8 (mg : Nat), .int .u8 (op : Nat), .int .u16 (kl : Nat), .int .u8 (el : Nat), .int .u8 (ty : Nat), .int .u16 (st : Nat), .int .u32 (bl : Nat), .int .u32 (oq : Nat), .int .u64 (cas : Nat), .slice (some ⟨j0, 0, none⟩) mx e0, .slice (some ⟨j1, 0, none⟩) mk e1, .slice (some ⟨j2, 0, none⟩) mv e2] 61 ∧ Rd wx wx.heap.size (some ⟨j0, 0, none⟩) mx e0 ux ∧ Rd wx wx.heap.size (some ⟨j1, 0, none⟩) mk e1 uk ∧ Rd wx wx.heap.size (some ⟨j2, 0, none⟩) mv e2 uv ∧ Below W3.heap.size W3 wx) ∧ Below W3.heap.size W3 wx) ?_ (by decide) ?_ ?_ ?_
    · exact ⟨false, false, false, false, false, false, false, false, false, undef, undef, undef, undef, undef, undef, undef, undef, fun _ => none, none, rfl, (by simp only [Act.put, List.setIfInBounds_toArray, List.set_cons_zero, List.set_cons_succ]), (fun h => by cases h), (fun h => by cases h), (fun h => by cases h), (fun h => by cases h), (fun h => by cases h), (fun h => by cases h), (fun h => by cases h), (fun h => by cases h), (fun _ => rfl), (fun h => by cases h), (fun h => by cases h), (fun h => by cases h), (fun h => by cases h), (fun h => by cases h), (fun _ => MkS.start), (fun h => by cases h), bD⟩
    · rintro listed a wx ⟨b2, b5, b6, b9, b10, b13, b14, b15, b16, v2, v5, v6, v9, v10, v13, v14, v15, s, sb, rfl, rfl, c2, c5, c6, c9, c10, c13, c14, c15, cn15, w5, w9, w13, w14, w16, cm, cp, bx⟩
      exact k1.step bx
    · intro listed a wx i hI hi
      obtain ⟨b2, b5, b6, b9, b10, b13, b14, b15, b16, v2, v5, v6, v9, v10, v13, v14, v15, s, sb, rfl, ha, c2, c5, c6, c9, c10, c13, c14, c15, cn15, w5, w9, w13, w14, w16, cm, cp, bx⟩ := hI
      simp only [Act.put, List.setIfInBounds_toArray, List.set_cons_zero, List.set_cons_succ] at ha
      subst ha
      obtain ⟨hi1, hi2⟩ := ready_lt hi
      obtain rfl | rfl | rfl | rfl | rfl | rfl | rfl | rfl | rfl | rfl | rfl | rfl | rfl | rfl | rfl | rfl | rfl := ltN17 i hi1
      · cases (show true = false from hi2)
      · cases (show true = false from hi2)
      · obtain rfl : b2 = false := hi2
        obtain rfl : b16 = false := by (cases b16 with | false => rfl | true => (have hh := w16 rfl; simp at hh))
        have hst := cm rfl
        obtain rfl : b5 = false := by (cases b5 with | false => rfl | true => (have hh := w5 rfl; simp at hh))
        replace hst := hst.al 0
        refine ⟨_, rfl, fun KK hK => ?_⟩
        go_simp
        refine hK.out _ _ ?_
        exact ⟨true, false, _, _, _, _, _, _, false, _, v5, v6, v9, v10, v13, v14, v15, _, _, rfl, (by simp only [Act.put, List.setIfInBounds_toArray, List.set_cons_zero, List.set_cons_succ]), (fun _ _ => ⟨_, rfl, updM_at⟩), (fun h => by cases h), (fun h1 h2 => by rw [updM_ne (by decide)]; exact c6 h1 h2), (fun h1 => by rw [updM_ne (by decide)]; exact c9 h1), (fun h1 h2 => by rw [updM_ne (by decide)]; exact c10 h1 h2), (fun h1 => by rw [updM_ne (by decide)]; exact c13 h1), c14, c15, cn15, (fun h => by cases h), w9, w13, w14, (fun h => by cases h), (fun _ => hst), (fun h => by cases h), (below_step bD hst.bel)⟩
      · cases (show true = false from hi2)
      · cases (show true = false from hi2)
      · obtain rfl : b5 = false := hi2
        obtain rfl : b9 = false := by (cases b9 with | false => rfl | true => (have hh := w9 rfl; simp at hh))
        obtain rfl : b14 = false := by (cases b14 with | false => rfl | true => (have hh := w14 rfl; simp at hh))
        obtain rfl : b16 = false := by (cases b16 with | false => rfl | true => (have hh := w16 rfl; simp at hh))
        have hst := cm rfl
        obtain rfl : b2 = true := ready_waits hi (i := 2) (by kernel_rfl)
        obtain ⟨g0, rfl, hs0⟩ := c2 rfl rfl
        refine ⟨_, rfl, fun KK hK => ?_⟩
        refine hst.app 0 hs0 hbs0 rX0 (Nat.le_trans hm1 (by decide)) rfl _ _ rfl rfl rfl ?_
        clear hst
        intro g' c' V' hst
        refine hK.out _ _ ?_
        exact ⟨true, true, _, false, _, _, false, _, false, (.slice (some ⟨g0, 0, none⟩) 0 0), _, v6, v9, v10, v13, v14, v15, _, _, rfl, (by simp only [Act.put, List.setIfInBounds_toArray, List.set_cons_zero, List.set_cons_succ]), (fun _ h => by cases h), (fun _ => ⟨_, _, rfl, updM_at⟩), (fun h1 h2 => by rw [updM_ne (by decide)]; exact c6 h1 h2), (fun h => by cases h), (fun h1 h2 => by rw [updM_ne (by decide)]; exact c10 h1 h2), (fun h1 => by rw [updM_ne (by decide)]; exact c13 h1), (fun h => by cases h), c15, cn15, (fun _ => rfl), (fun h => by cases h), w13, (fun h => by cases h), (fun h => by cases h), (fun _ => hst), (fun h => by cases h), (below_step bD hst.bel)⟩
      · obtain rfl : b6 = false := hi2
        obtain rfl : b16 = false := by (cases b16 with | false => rfl | true => (have hh := w16 rfl; simp at hh))
        have hst := cm rfl
        obtain rfl : b9 = false := by (cases b9 with | false => rfl | true => (have hh := w9 rfl; simp at hh))
        replace hst := hst.al 1
        refine ⟨_, rfl, fun KK hK => ?_⟩
        go_simp
        refine hK.out _ _ ?_
        exact ⟨_, _, true, false, _, _, _, _, false, v2, v5, _, v9, v10, v13, v14, v15, _, _, rfl, (by simp only [Act.put, List.setIfInBounds_toArray, List.set_cons_zero, List.set_cons_succ]), (fun h1 h2 => by rw [updM_ne (by decide)]; exact c2 h1 h2), (fun h1 => by rw [updM_ne (by decide)]; exact c5 h1), (fun _ _ => ⟨_, rfl, updM_at⟩), (fun h => by cases h), (fun h1 h2 => by rw [updM_ne (by decide)]; exact c10 h1 h2), (fun h1 => by rw [updM_ne (by decide)]; exact c13 h1), c14, c15, cn15, w5, (fun h => by cases h), w13, w14, (fun h => by cases h), (fun _ => hst), (fun h => by cases h), (below_step bD hst.bel)⟩
      · cases (show true = false from hi2)
      · cases (show true = false from hi2)
      · obtain rfl : b9 = false := hi2
        obtain rfl : b13 = false := by (cases b13 with | false => rfl | true => (have hh := w13 rfl; simp at hh))
        obtain rfl : b14 = false := by (cases b14 with | false => rfl | true => (have hh := w14 rfl; simp at hh))
        obtain rfl : b16 = false := by (cases b16 with | false => rfl | true => (have hh := w16 rfl; simp at hh))
        have hst := cm rfl
        obtain rfl : b6 = true := ready_waits hi (i := 6) (by kernel_rfl)
        obtain rfl : b5 = true := ready_waits hi (i := 5) (by kernel_rfl)
        obtain ⟨g1, rfl, hs1⟩ := c6 rfl rfl
        refine ⟨_, rfl, fun KK hK => ?_⟩
        refine hst.app 1 hs1 hbs0 rK0 (Nat.le_trans hm2 (by decide)) rfl _ _ rfl rfl rfl ?_
        clear hst
        intro g' c' V' hst
        refine hK.out _ _ ?_
        exact ⟨_, true, true, true, _, false, false, _, false, v2, v5, (.slice (some ⟨g1, 0, none⟩) 0 0), _, v10, v13, v14, v15, _, _, rfl, (by simp only [Act.put, List.setIfInBounds_toArray, List.set_cons_zero, List.set_cons_succ]), (fun h1 h2 => by rw [updM_ne (by decide)]; exact c2 h1 h2), (fun h1 => by rw [updM_ne (by decide)]; exact c5 h1), (fun _ h => by cases h), (fun _ => ⟨_, _, rfl, updM_at⟩), (fun h1 h2 => by rw [updM_ne (by decide)]; exact c10 h1 h2), (fun h => by cases h), (fun h => by cases h), c15, cn15, w5, (fun _ => ⟨rfl, rfl⟩), (fun h => by cases h), (fun h => by cases h), (fun h => by cases h), (fun _ => hst), (fun h => by cases h), (below_step bD hst.bel)⟩
      · obtain rfl : b10 = false := hi2
        obtain rfl : b16 = false := by (cases b16 with | false => rfl | true => (have hh := w16 rfl; simp at hh))
        have hst := cm rfl
        obtain rfl : b13 = false := by (cases b13 with | false => rfl | true => (have hh := w13 rfl; simp at hh))
        replace hst := hst.al 2
        refine ⟨_, rfl, fun KK hK => ?_⟩
        go_simp
        refine hK.out _ _ ?_
        exact ⟨_, _, _, _, true, false, _, _, false, v2, v5, v6, v9, _, v13, v14, v15, _, _, rfl, (by simp only [Act.put, List.setIfInBounds_toArray, List.set_cons_zero, List.set_cons_succ]), (fun h1 h2 => by rw [updM_ne (by decide)]; exact c2 h1 h2), (fun h1 => by rw [updM_ne (by decide)]; exact c5 h1), (fun h1 h2 => by rw [updM_ne (by decide)]; exact c6 h1 h2), (fun h1 => by rw [updM_ne (by decide)]; exact c9 h1), (fun _ _ => ⟨_, rfl, updM_at⟩), (fun h => by cases h), c14, c15, cn15, w5, w9, (fun h => by cases h), w14, (fun h => by cases h), (fun _ => hst), (fun h => by cases h), (below_step bD hst.bel)⟩
      · cases (show true = false from hi2)
      · cases (show true = false from hi2)
      · obtain rfl : b13 = false := hi2
        obtain rfl : b14 = false := by (cases b14 with | false => rfl | true => (have hh := w14 rfl; simp at hh))
        obtain rfl : b16 = false := by (cases b16 with | false => rfl | true => (have hh := w16 rfl; simp at hh))
        have hst := cm rfl
        obtain rfl : b10 = true := ready_waits hi (i := 10) (by kernel_rfl)
        obtain rfl : b9 = true := ready_waits hi (i := 9) (by kernel_rfl)
        obtain ⟨g2, rfl, hs2⟩ := c10 rfl rfl
        refine ⟨_, rfl, fun KK hK => ?_⟩
        refine hst.app 2 hs2 hbs0 rV0 (Nat.le_trans hm3 (by decide)) rfl _ _ rfl rfl rfl ?_
        clear hst
        intro g' c' V' hst
        refine hK.out _ _ ?_
        exact ⟨_, _, _, true, true, true, false, _, false, v2, v5, v6, v9, (.slice (some ⟨g2, 0, none⟩) 0 0), _, v14, v15, _, _, rfl, (by simp only [Act.put, List.setIfInBounds_toArray, List.set_cons_zero, List.set_cons_succ]), (fun h1 h2 => by rw [updM_ne (by decide)]; exact c2 h1 h2), (fun h1 => by rw [updM_ne (by decide)]; exact c5 h1), (fun h1 h2 => by rw [updM_ne (by decide)]; exact c6 h1 h2), (fun h1 => by rw [updM_ne (by decide)]; exact c9 h1), (fun _ h => by cases h), (fun _ => ⟨_, _, rfl, updM_at⟩), (fun h => by cases h), c15, cn15, w5, w9, (fun _ => ⟨rfl, rfl⟩), (fun h => by cases h), (fun h => by cases h), (fun _ => hst), (fun h => by cases h), (below_step bD hst.bel)⟩
      · obtain rfl : b14 = false := hi2
        obtain rfl : b16 = false := by (cases b16 with | false => rfl | true => (have hh := w16 rfl; simp at hh))
        have hst := cm rfl
        obtain rfl : b5 = true := ready_waits hi (i := 5) (by kernel_rfl)
        obtain rfl : b9 = true := ready_waits hi (i := 9) (by kernel_rfl)
        obtain rfl : b13 = true := ready_waits hi (i := 13) (by kernel_rfl)
        obtain ⟨g0, d0, rfl, hs0⟩ := c5 rfl
        obtain ⟨g1, d1, rfl, hs1⟩ := c9 rfl
        obtain ⟨g2, d2, rfl, hs2⟩ := c13 rfl
        refine ⟨_, rfl, fun KK hK => ?_⟩
        go_simp
        refine hK.out _ _ ?_
        exact ⟨_, true, _, true, _, true, true, _, false, v2, _, v6, _, v10, _, _, v15, _, _, rfl, (by simp only [Act.put, List.setIfInBounds_toArray, List.set_cons_zero, List.set_cons_succ]), c2, (fun _ => ⟨_, _, rfl, hs0⟩), c6, (fun _ => ⟨_, _, rfl, hs1⟩), c10, (fun _ => ⟨_, _, rfl, hs2⟩), (fun _ => rfl), c15, cn15, w5, w9, w13, (fun _ => ⟨rfl, rfl, rfl⟩), (fun h => by cases h), (fun _ => hst), (fun h => by cases h), (below_step bD hst.bel)⟩
      · obtain rfl : b15 = false := hi2
        obtain rfl : b16 = false := by (cases b16 with | false => rfl | true => (have hh := w16 rfl; simp at hh))
        have hst := cm rfl
        obtain rfl := cn15 rfl
        replace hst := hst.bx
        refine ⟨_, rfl, fun KK hK => ?_⟩
        go_simp
        refine hK.out _ _ ?_
        exact ⟨_, _, _, _, _, _, _, true, false, v2, v5, v6, v9, v10, v13, v14, _, _, _, rfl, (by simp only [Act.put, List.setIfInBounds_toArray, List.set_cons_zero, List.set_cons_succ]), c2, c5, c6, c9, c10, c13, c14, (fun _ => ⟨_, rfl, rfl⟩), (fun h => by cases h), w5, w9, w13, w14, (fun h => by cases h), (fun _ => hst), (fun h => by cases h), (below_step bD hst.bel)⟩
      · obtain rfl : b16 = false := hi2
        obtain rfl : b2 = true := ready_waits hi (i := 2) (by kernel_rfl)
        obtain rfl : b5 = true := ready_waits hi (i := 5) (by kernel_rfl)
        obtain rfl : b6 = true := ready_waits hi (i := 6) (by kernel_rfl)
        obtain rfl : b9 = true := ready_waits hi (i := 9) (by kernel_rfl)
        obtain rfl : b10 = true := ready_waits hi (i := 10) (by kernel_rfl)
        obtain rfl : b13 = true := ready_waits hi (i := 13) (by kernel_rfl)
        obtain rfl : b14 = true := ready_waits hi (i := 14) (by kernel_rfl)
        obtain rfl : b15 = true := ready_waits hi (i := 15) (by kernel_rfl)
        obtain ⟨g0, d0, rfl, hs0⟩ := c5 rfl
        obtain ⟨g1, d1, rfl, hs1⟩ := c9 rfl
        obtain ⟨g2, d2, rfl, hs2⟩ := c13 rfl
        obtain ⟨gb, rfl, rfl⟩ := c15 rfl
        have hst := cm rfl
        obtain rfl := c14 rfl
        obtain ⟨kb, hgb, hap⟩ := hst.bk rfl
        have hn0 : g0 ≠ gb := hap 0 _ hs0
        have hn1 : g1 ≠ gb := hap 1 _ hs1
        have hn2 : g2 ≠ gb := hap 2 _ hs2
        have kf := blk_set12 kb (.int .u8 (mg : Nat)) (.int .u8 (op : Nat)) (.int .u16 (kl : Nat)) (.int .u8 (el : Nat)) (.int .u8 (ty : Nat)) (.int .u16 (st : Nat)) (.int .u32 (bl : Nat)) (.int .u32 (oq : Nat)) (.int .u64 (cas : Nat)) (.slice (some ⟨g0, 0, none⟩) mx d0) (.slice (some ⟨g1, 0, none⟩) mk d1) (.slice (some ⟨g2, 0, none⟩) mv d2)
        have gs := grown_set12 wx gb (.int .u8 (mg : Nat)) (.int .u8 (op : Nat)) (.int .u16 (kl : Nat)) (.int .u8 (el : Nat)) (.int .u8 (ty : Nat)) (.int .u16 (st : Nat)) (.int .u32 (bl : Nat)) (.int .u32 (oq : Nat)) (.int .u64 (cas : Nat)) (.slice (some ⟨g0, 0, none⟩) mx d0) (.slice (some ⟨g1, 0, none⟩) mk d1) (.slice (some ⟨g2, 0, none⟩) mv d2)
        have o0 := ((hst.own 0 hs0).left gs hn0).rd
        have o1 := ((hst.own 1 hs1).left gs hn1).rd
        have o2 := ((hst.own 2 hs2).left gs hn2).rd
        rw [hsz0] at hgb
        have hBel := bx.trans (below_grown gs hgb kb.lt)
        have hPost : ∃ (jb j0 e0 j1 e1 j2 e2 : Nat), Value.pointer (some ⟨gb, 0, none⟩) = .pointer (some ⟨jb, 0, none⟩) ∧ Blk ((((((((((((wx.setCell ⟨gb, 0, none⟩ (.int .u8 (mg : Nat))).setCell ⟨gb, 1, none⟩ (.int .u8 (op : Nat))).setCell ⟨gb, 2, none⟩ (.int .u16 (kl : Nat))).setCell ⟨gb, 3, none⟩ (.int .u8 (el : Nat))).setCell ⟨gb, 4, none⟩ (.int .u8 (ty : Nat))).setCell ⟨gb, 5, none⟩ (.int .u16 (st : Nat))).setCell ⟨gb, 6, none⟩ (.int .u32 (bl : Nat))).setCell ⟨gb, 7, none⟩ (.int .u32 (oq : Nat))).setCell ⟨gb, 8, none⟩ (.int .u64 (cas : Nat))).setCell ⟨gb, 9, none⟩ (.slice (some ⟨g0, 0, none⟩) mx d0)).setCell ⟨gb, 10, none⟩ (.slice (some ⟨g1, 0, none⟩) mk d1)).setCell ⟨gb, 11, none⟩ (.slice (some ⟨g2, 0, none⟩) mv d2)) jb #[.int .u8 (mg : Nat), .int .u8 (op : Nat), .int .u16 (kl : Nat), .int .u8 (el : Nat), .int .u8 (ty : Nat), .int .u16 (st : Nat), .int .u32 (bl : Nat), .int .u32 (oq : Nat), .int .u64 (cas : Nat), .slice (some ⟨j0, 0, none⟩) mx e0, .slice (some ⟨j1, 0, none⟩) mk e1, .slice (some ⟨j2, 0, none⟩) mv e2] 61 ∧ Rd ((((((((((((wx.setCell ⟨gb, 0, none⟩ (.int .u8 (mg : Nat))).setCell ⟨gb, 1, none⟩ (.int .u8 (op : Nat))).setCell ⟨gb, 2, none⟩ (.int .u16 (kl : Nat))).setCell ⟨gb, 3, none⟩ (.int .u8 (el : Nat))).setCell ⟨gb, 4, none⟩ (.int .u8 (ty : Nat))).setCell ⟨gb, 5, none⟩ (.int .u16 (st : Nat))).setCell ⟨gb, 6, none⟩ (.int .u32 (bl : Nat))).setCell ⟨gb, 7, none⟩ (.int .u32 (oq : Nat))).setCell ⟨gb, 8, none⟩ (.int .u64 (cas : Nat))).setCell ⟨gb, 9, none⟩ (.slice (some ⟨g0, 0, none⟩) mx d0)).setCell ⟨gb, 10, none⟩ (.slice (some ⟨g1, 0, none⟩) mk d1)).setCell ⟨gb, 11, none⟩ (.slice (some ⟨g2, 0, none⟩) mv d2)) ((((((((((((wx.setCell ⟨gb, 0, none⟩ (.int .u8 (mg : Nat))).setCell ⟨gb, 1, none⟩ (.int .u8 (op : Nat))).setCell ⟨gb, 2, none⟩ (.int .u16 (kl : Nat))).setCell ⟨gb, 3, none⟩ (.int .u8 (el : Nat))).setCell ⟨gb, 4, none⟩ (.int .u8 (ty : Nat))).setCell ⟨gb, 5, none⟩ (.int .u16 (st : Nat))).setCell ⟨gb, 6, none⟩ (.int .u32 (bl : Nat))).setCell ⟨gb, 7, none⟩ (.int .u32 (oq : Nat))).setCell ⟨gb, 8, none⟩ (.int .u64 (cas : Nat))).setCell ⟨gb, 9, none⟩ (.slice (some ⟨g0, 0, none⟩) mx d0)).setCell ⟨gb, 10, none⟩ (.slice (some ⟨g1, 0, none⟩) mk d1)).setCell ⟨gb, 11, none⟩ (.slice (some ⟨g2, 0, none⟩) mv d2)).heap.size (some ⟨j0, 0, none⟩) mx e0 ux ∧ Rd ((((((((((((wx.setCell ⟨gb, 0, none⟩ (.int .u8 (mg : Nat))).setCell ⟨gb, 1, none⟩ (.int .u8 (op : Nat))).setCell ⟨gb, 2, none⟩ (.int .u16 (kl : Nat))).setCell ⟨gb, 3, none⟩ (.int .u8 (el : Nat))).setCell ⟨gb, 4, none⟩ (.int .u8 (ty : Nat))).setCell ⟨gb, 5, none⟩ (.int .u16 (st : Nat))).setCell ⟨gb, 6, none⟩ (.int .u32 (bl : Nat))).setCell ⟨gb, 7, none⟩ (.int .u32 (oq : Nat))).setCell ⟨gb, 8, none⟩ (.int .u64 (cas : Nat))).setCell ⟨gb, 9, none⟩ (.slice (some ⟨g0, 0, none⟩) mx d0)).setCell ⟨gb, 10, none⟩ (.slice (some ⟨g1, 0, none⟩) mk d1)).setCell ⟨gb, 11, none⟩ (.slice (some ⟨g2, 0, none⟩) mv d2)) ((((((((((((wx.setCell ⟨gb, 0, none⟩ (.int .u8 (mg : Nat))).setCell ⟨gb, 1, none⟩ (.int .u8 (op : Nat))).setCell ⟨gb, 2, none⟩ (.int .u16 (kl : Nat))).setCell ⟨gb, 3, none⟩ (.int .u8 (el : Nat))).setCell ⟨gb, 4, none⟩ (.int .u8 (ty : Nat))).setCell ⟨gb, 5, none⟩ (.int .u16 (st : Nat))).setCell ⟨gb, 6, none⟩ (.int .u32 (bl : Nat))).setCell ⟨gb, 7, none⟩ (.int .u32 (oq : Nat))).setCell ⟨gb, 8, none⟩ (.int .u64 (cas : Nat))).setCell ⟨gb, 9, none⟩ (.slice (some ⟨g0, 0, none⟩) mx d0)).setCell ⟨gb, 10, none⟩ (.slice (some ⟨g1, 0, none⟩) mk d1)).setCell ⟨gb, 11, none⟩ (.slice (some ⟨g2, 0, none⟩) mv d2)).heap.size (some ⟨j1, 0, none⟩) mk e1 uk ∧ Rd ((((((((((((wx.setCell ⟨gb, 0, none⟩ (.int .u8 (mg : Nat))).setCell ⟨gb, 1, none⟩ (.int .u8 (op : Nat))).setCell ⟨gb, 2, none⟩ (.int .u16 (kl : Nat))).setCell ⟨gb, 3, none⟩ (.int .u8 (el : Nat))).setCell ⟨gb, 4, none⟩ (.int .u8 (ty : Nat))).setCell ⟨gb, 5, none⟩ (.int .u16 (st : Nat))).setCell ⟨gb, 6, none⟩ (.int .u32 (bl : Nat))).setCell ⟨gb, 7, none⟩ (.int .u32 (oq : Nat))).setCell ⟨gb, 8, none⟩ (.int .u64 (cas : Nat))).setCell ⟨gb, 9, none⟩ (.slice (some ⟨g0, 0, none⟩) mx d0)).setCell ⟨gb, 10, none⟩ (.slice (some ⟨g1, 0, none⟩) mk d1)).setCell ⟨gb, 11, none⟩ (.slice (some ⟨g2, 0, none⟩) mv d2)) ((((((((((((wx.setCell ⟨gb, 0, none⟩ (.int .u8 (mg : Nat))).setCell ⟨gb, 1, none⟩ (.int .u8 (op : Nat))).setCell ⟨gb, 2, none⟩ (.int .u16 (kl : Nat))).setCell ⟨gb, 3, none⟩ (.int .u8 (el : Nat))).setCell ⟨gb, 4, none⟩ (.int .u8 (ty : Nat))).setCell ⟨gb, 5, none⟩ (.int .u16 (st : Nat))).setCell ⟨gb, 6, none⟩ (.int .u32 (bl : Nat))).setCell ⟨gb, 7, none⟩ (.int .u32 (oq : Nat))).setCell ⟨gb, 8, none⟩ (.int .u64 (cas : Nat))).setCell ⟨gb, 9, none⟩ (.slice (some ⟨g0, 0, none⟩) mx d0)).setCell ⟨gb, 10, none⟩ (.slice (some ⟨g1, 0, none⟩) mk d1)).setCell ⟨gb, 11, none⟩ (.slice (some ⟨g2, 0, none⟩) mv d2)).heap.size (some ⟨j2, 0, none⟩) mv e2 uv ∧ Below W3.heap.size W3 ((((((((((((wx.setCell ⟨gb, 0, none⟩ (.int .u8 (mg : Nat))).setCell ⟨gb, 1, none⟩ (.int .u8 (op : Nat))).setCell ⟨gb, 2, none⟩ (.int .u16 (kl : Nat))).setCell ⟨gb, 3, none⟩ (.int .u8 (el : Nat))).setCell ⟨gb, 4, none⟩ (.int .u8 (ty : Nat))).setCell ⟨gb, 5, none⟩ (.int .u16 (st : Nat))).setCell ⟨gb, 6, none⟩ (.int .u32 (bl : Nat))).setCell ⟨gb, 7, none⟩ (.int .u32 (oq : Nat))).setCell ⟨gb, 8, none⟩ (.int .u64 (cas : Nat))).setCell ⟨gb, 9, none⟩ (.slice (some ⟨g0, 0, none⟩) mx d0)).setCell ⟨gb, 10, none⟩ (.slice (some ⟨g1, 0, none⟩) mk d1)).setCell ⟨gb, 11, none⟩ (.slice (some ⟨g2, 0, none⟩) mv d2)) := ⟨gb, g0, d0, g1, d1, g2, d2, rfl, kf, o0, o1, o2, hBel⟩
        obtain ⟨u0, u1, u2, u3, u4, u5, u6, u7, u8, u9, u10, u11⟩ := box12 kb
        have y0 := kb.frozen 0
        have y1 := kb.frozen 1
        have y2 := kb.frozen 2
        have y3 := kb.frozen 3
        have y4 := kb.frozen 4
        have y5 := kb.frozen 5
        have y6 := kb.frozen 6
        have y7 := kb.frozen 7
        have y8 := kb.frozen 8
        have y9 := kb.frozen 9
        have y10 := kb.frozen 10
        have y11 := kb.frozen 11
        refine ⟨_, rfl, fun KK hK => ?_⟩
        go_simp
        refine hK.out _ _ ?_
        exact ⟨true, true, true, true, true, true, true, true, true, v2, (.slice (some ⟨g0, 0, none⟩) mx d0), v6, (.slice (some ⟨g1, 0, none⟩) mk d1), v10, (.slice (some ⟨g2, 0, none⟩) mv d2), (.agg #[.int .u8 (mg : Nat), .int .u8 (op : Nat), .int .u16 (kl : Nat), .int .u8 (el : Nat), .int .u8 (ty : Nat), .int .u16 (st : Nat), .int .u32 (bl : Nat), .int .u32 (oq : Nat), .int .u64 (cas : Nat), .slice (some ⟨g0, 0, none⟩) mx d0, .slice (some ⟨g1, 0, none⟩) mk d1, .slice (some ⟨g2, 0, none⟩) mv d2]), (.pointer (some ⟨gb, 0, none⟩)), s, some gb, rfl, (by simp only [Act.put, List.setIfInBounds_toArray, List.set_cons_zero, List.set_cons_succ]), (fun h1 h2 => by cases h2), (fun _ => ⟨_, _, rfl, hs0⟩), (fun h1 h2 => by cases h2), (fun _ => ⟨_, _, rfl, hs1⟩), (fun h1 h2 => by cases h2), (fun _ => ⟨_, _, rfl, hs2⟩), (fun _ => rfl), (fun _ => ⟨_, rfl, rfl⟩), (fun h => by cases h), (fun _ => rfl), (fun _ => ⟨rfl, rfl⟩), (fun _ => ⟨rfl, rfl⟩), (fun _ => ⟨rfl, rfl, rfl⟩), (fun _ => ⟨rfl, rfl, rfl, rfl, rfl, rfl, rfl, rfl⟩), (fun h => by cases h), (fun _ => hPost), hBel⟩
    · rintro listed a wx ⟨b2, b5, b6, b9, b10, b13, b14, b15, b16, v2, v5, v6, v9, v10, v13, v14, v15, s, sb, rfl, rfl, c2, c5, c6, c9, c10, c13, c14, c15, cn15, w5, w9, w13, w14, w16, cm, cp, bx⟩ hr
      obtain rfl : b16 = true := ready_end (by kernel_rfl) (by kernel_rfl) hr 16 (by decide)
      obtain ⟨gb, g0, d0, g1, d1, g2, d2, rfl, kF, o0, o1, o2, bw⟩ := cp rfl
      refine NoPanic.normal ?_
      go_wp2_with fail
      go_meet
      exact ⟨gb, g0, d0, g1, d1, g2, d2, rfl, kF, o0, o1, o2, bw⟩
  case rest =>
    obtain ⟨g3, g0, d0, g1, d1, g2, d2, rfl, k3, sX, sK, sV, b3⟩ := hcut
    have hbz := b.size
    replace k1 := k1.step b3
    replace rX := (rX.more hbz).step b3
    replace rK := (rK.more hbz).step b3
    replace rV := (rV.more hbz).step b3
    replace b := below_step b b3
    clear b3 hbz
    obtain ⟨t0, t1, t2, t3, t4, t5, t6, t7, t8, t9, t10, t11⟩ := box12 k3
    go_wp2_with fail
    refine (HRQ.out _ _ _ _ _ _ _ sX sK sV).mono ?_
    rintro e w5 ⟨K6, V6, nk6, ck6, nv6, cv6, rfl, oK, oV, b5⟩
    have HW4 := Lib.hid (And.intro k1 (And.intro k3 (And.intro sX (And.intro sK (And.intro sV (And.intro rX (And.intro rK (And.intro rV b))))))))
    have bB := b5
    have wrK := oK.wr
    have wrV := oV.wr
    have rK6 := oK.rd
    have rV6 := oV.rd
    have hB5 := b5.size
    have hlK := oK.rd.len
    have hlV := oV.rd.len
    replace k1 := k1.step b5
    replace k3 := k3.step b5
    replace sX := sX.step b5
    replace sK := sK.step b5
    replace sV := sV.step b5
    replace rX := rX.step b5
    replace rK := rK.step b5
    replace rV := rV.step b5
    replace b := below_step b b5
    clear b5 oK oV t0 t1 t2 t3 t4 t5 t6 t7 t8 t9 t10 t11
    go_upto_region 6 with fail
    have kq := Blk.new w5 #[.int .i64 q.op, .bool q.qt, .bool q.fu, .int .i64 q.bd, .int .u32 (q.oq : Nat), .slice K6 nk6 ck6, .slice V6 nv6 cv6, .int .u32 (q.fl : Nat), .int .u32 (q.ex : Nat), .int .u64 (q.cs : Nat), .int .u64 (q.dl : Nat), .int .u64 (q.ni : Nat)] 26
    have ba := below_a1' (Below.refl w5.heap.size w5) (.cells #[.int .i64 q.op, .bool q.qt, .bool q.fu, .int .i64 q.bd, .int .u32 (q.oq : Nat), .slice K6 nk6 ck6, .slice V6 nv6 cv6, .int .u32 (q.fl : Nat), .int .u32 (q.ex : Nat), .int .u64 (q.cs : Nat), .int .u64 (q.dl : Nat), .int .u64 (q.ni : Nat)] 26)
    replace k1 := k1.step ba
    replace k3 := k3.step ba
    replace sX := sX.step ba
    replace sK := sK.step ba
    replace sV := sV.step ba
    replace rX := rX.step ba
    replace rK := rK.step ba
    replace rV := rV.step ba
    replace rK6 := rK6.step ba
    replace rV6 := rV6.step ba
    replace b := below_step b ba
    replace bB := below_step bB ba
    replace wrK := wrK.stepQ ba
    replace wrV := wrV.stepQ ba
    clear ba
    generalize w5.alloc (.cells #[.int .i64 q.op, .bool q.qt, .bool q.fu, .int .i64 q.bd, .int .u32 (q.oq : Nat), .slice K6 nk6 ck6, .slice V6 nv6 cv6, .int .u32 (q.fl : Nat), .int .u32 (q.ex : Nat), .int .u64 (q.cs : Nat), .int .u64 (q.dl : Nat), .int .u64 (q.ni : Nat)] 26) = W5 at kq b bB wrK wrV k1 k3 sX sK sV rX rK rV rK6 rV6 ⊢
    generalize w5.heap.size = gq at kq wrK wrV hB5 ⊢
    obtain ⟨t0, t1, t2, t3, t4, t5, t6, t7, t8, t9, t10, t11⟩ := box12 k3
    obtain ⟨z0, z1, z2, z3, z4, z5, z6, z7, z8, z9, z10, z11⟩ := box12 k1
    go_wp2_with fail
    refine (HFS.out _ _ _ _ _ _ _ _ _ _ _ _ _ sX sK sV rX rK rV).mono ?_
    rintro e w6 ⟨rfl, b6⟩
    replace k1 := k1.step b6
    replace k3 := k3.step b6
    replace sX := sX.step b6
    replace sK := sK.step b6
    replace sV := sV.step b6
    replace rX := rX.step b6
    replace rK := rK.step b6
    replace rV := rV.step b6
    replace rK6 := rK6.step b6
    replace rV6 := rV6.step b6
    replace kq := kq.step b6
    replace b := below_step b b6
    replace bB := below_step bB b6
    replace wrK := wrK.stepQ b6
    replace wrV := wrV.stepQ b6
    clear b6
    clear t0 t1 t2 t3 t4 t5 t6 t7 t8 t9 t10 t11 z0 z1 z2 z3 z4 z5 z6 z7 z8 z9 z10 z11
    obtain ⟨z0, z1, z2, z3, z4, z5, z6, z7, z8, z9, z10, z11⟩ := box12 k1
    go_wp2_with fail
    refine (HWR.out _ _ _ _ _ _ _).mono ?_
    rintro e w7 ⟨rfl, b7⟩
    replace k1 := k1.step b7
    replace k3 := k3.step b7
    replace sX := sX.step b7
    replace sK := sK.step b7
    replace sV := sV.step b7
    replace rX := rX.step b7
    replace rK := rK.step b7
    replace rV := rV.step b7
    replace rK6 := rK6.step b7
    replace rV6 := rV6.step b7
    replace kq := kq.step b7
    replace b := below_step b b7
    replace bB := below_step bB b7
    replace wrK := wrK.stepQ b7
    replace wrV := wrV.stepQ b7
    clear b7
    clear z0 z1 z2 z3 z4 z5 z6 z7 z8 z9 z10 z11
    obtain ⟨z0, z1, z2, z3, z4, z5, z6, z7, z8, z9, z10, z11⟩ := box12 k1
    go_wp2_with fail
    refine (HRT.out _).mono ?_
    rintro e w8 ⟨rfl, b8⟩
    replace k1 := k1.step b8
    replace k3 := k3.step b8
    replace sX := sX.step b8
    replace sK := sK.step b8
    replace sV := sV.step b8
    replace rX := rX.step b8
    replace rK := rK.step b8
    replace rV := rV.step b8
    replace rK6 := rK6.step b8
    replace rV6 := rV6.step b8
    replace kq := kq.step b8
    replace b := below_step b b8
    replace bB := below_step bB b8
    replace wrK := wrK.stepQ b8
    replace wrV := wrV.stepQ b8
    clear b8 z0 z1 z2 z3 z4 z5 z6 z7 z8 z9 z10 z11
    obtain ⟨z0, z1, z2, z3, z4, z5, z6, z7, z8, z9, z10, z11⟩ := box12 k1
    go_wp2_with fail
    refine (HRF.out _ _ _ _ _ _ _ rX rK rV).mono ?_
    rintro e w9 ⟨K7, V7, nk7, ck7, nv7, cv7, rfl, oK, oV, b9⟩
    have rK7 := oK.rd
    have rV7 := oV.rd
    replace k1 := k1.step b9
    replace k3 := k3.step b9
    replace sX := sX.step b9
    replace sK := sK.step b9
    replace sV := sV.step b9
    replace rX := rX.step b9
    replace rK := rK.step b9
    replace rV := rV.step b9
    replace rK6 := rK6.step b9
    replace rV6 := rV6.step b9
    replace kq := kq.step b9
    replace b := below_step b b9
    replace bB := below_step bB b9
    replace wrK := wrK.stepQ b9
    replace wrV := wrV.stepQ b9
    clear b9 oK oV z0 z1 z2 z3 z4 z5 z6 z7 z8 z9 z10 z11
    go_upto_region 11 with fail
    have k7 := Blk.new w9 #[.int .i64 q.op, .bool q.qt, .bool q.fu, .int .i64 q.bd, .int .u32 (q.oq : Nat), .slice K7 nk7 ck7, .slice V7 nv7 cv7, .int .u32 (q.fl : Nat), .int .u32 (q.ex : Nat), .int .u64 (q.cs : Nat), .int .u64 (q.dl : Nat), .int .u64 (q.ni : Nat)] 26
    have ba := below_a1' (Below.refl w9.heap.size w9) (.cells #[.int .i64 q.op, .bool q.qt, .bool q.fu, .int .i64 q.bd, .int .u32 (q.oq : Nat), .slice K7 nk7 ck7, .slice V7 nv7 cv7, .int .u32 (q.fl : Nat), .int .u32 (q.ex : Nat), .int .u64 (q.cs : Nat), .int .u64 (q.dl : Nat), .int .u64 (q.ni : Nat)] 26)
    replace k1 := k1.step ba
    replace k3 := k3.step ba
    replace sX := sX.step ba
    replace sK := sK.step ba
    replace sV := sV.step ba
    replace rX := rX.step ba
    replace rK := rK.step ba
    replace rV := rV.step ba
    replace rK6 := rK6.step ba
    replace rV6 := rV6.step ba
    replace kq := kq.step ba
    replace rK7 := rK7.step ba
    replace rV7 := rV7.step ba
    replace b := below_step b ba
    replace bB := below_step bB ba
    replace wrK := wrK.stepQ ba
    replace wrV := wrV.stepQ ba
    clear ba
    generalize w9.alloc (.cells #[.int .i64 q.op, .bool q.qt, .bool q.fu, .int .i64 q.bd, .int .u32 (q.oq : Nat), .slice K7 nk7 ck7, .slice V7 nv7 cv7, .int .u32 (q.fl : Nat), .int .u32 (q.ex : Nat), .int .u64 (q.cs : Nat), .int .u64 (q.dl : Nat), .int .u64 (q.ni : Nat)] 26) = W9 at k7 b bB wrK wrV k1 k3 sX sK sV rX rK rV rK6 rV6 kq rK7 rV7 ⊢
    generalize w9.heap.size = g7 at k7 ⊢
    obtain ⟨t0, t1, t2, t3, t4, t5, t6, t7, t8, t9, t10, t11⟩ := box12 kq
    obtain ⟨z0, z1, z2, z3, z4, z5, z6, z7, z8, z9, z10, z11⟩ := box12 k7
    go_wp2_with fail
    refine (HSQ.out _ _ _ _ _ _ _ _ _ _ _ _ _ rK6 rV6 rK7 rV7).mono ?_
    rintro e w10 ⟨rfl, b10⟩
    replace k1 := k1.step b10
    replace k3 := k3.step b10
    replace sX := sX.step b10
    replace sK := sK.step b10
    replace sV := sV.step b10
    replace rX := rX.step b10
    replace rK := rK.step b10
    replace rV := rV.step b10
    replace rK6 := rK6.step b10
    replace rV6 := rV6.step b10
    replace kq := kq.step b10
    replace rK7 := rK7.step b10
    replace rV7 := rV7.step b10
    replace k7 := k7.step b10
    replace b := below_step b b10
    replace bB := below_step bB b10
    replace wrK := wrK.stepQ b10
    replace wrV := wrV.stepQ b10
    clear b10
    clear t0 t1 t2 t3 t4 t5 t6 t7 t8 t9 t10 t11 z0 z1 z2 z3 z4 z5 z6 z7 z8 z9 z10 z11
    obtain ⟨t0, t1, t2, t3, t4, t5, t6, t7, t8, t9, t10, t11⟩ := box12 kq
    have HSPO := Lib.hid (spoil_any q.op q.qt q.fu q.bd q.oq q.fl q.ex q.cs q.dl q.ni K6 V6 nk6 ck6 nv6 cv6 w10 wc.heap.size bB.size (wrK.up (Nat.le_of_lt kq.lt)) (wrV.up (Nat.le_of_lt kq.lt)) (by rw [← hlK]; exact HLN.out.1) (by rw [← hlV]; exact HLN.out.2))
    clear wrK wrV hB5 hlK hlV
    go_wp2_with fail
    refine HSPO.out.mono ?_
    rintro e w11 ⟨rfl, b11⟩
    replace bB := bB.trans b11
    clear b11 HSPO b k1 k3 sX sK sV rX rK rV rK6 rV6 kq rK7 rV7 k7 t0 t1 t2 t3 t4 t5 t6 t7 t8 t9 t10 t11
    obtain ⟨k1, k3, sX, sK, sV, rX, rK, rV, b⟩ := HW4.out
    replace k1 := k1.step bB
    replace k3 := k3.step bB
    replace sX := sX.step bB
    replace sK := sK.step bB
    replace sV := sV.step bB
    replace rX := rX.step bB
    replace rK := rK.step bB
    replace rV := rV.step bB
    replace b := below_step b bB
    clear bB HW4
    obtain ⟨t0, t1, t2, t3, t4, t5, t6, t7, t8, t9, t10, t11⟩ := box12 k3
    obtain ⟨z0, z1, z2, z3, z4, z5, z6, z7, z8, z9, z10, z11⟩ := box12 k1
    go_wp2_with fail
    refine (HFS.out _ _ _ _ _ _ _ _ _ _ _ _ _ sX sK sV rX rK rV).mono ?_
    rintro e w12 ⟨rfl, b12⟩
    replace b := below_step b b12
    clear b12
    go_wp2_with fail
    go_ret
    exact ⟨rfl, b⟩
set_option maxRecDepth 100000 in
set_option maxHeartbeats 8000000 in
theorem walk_parseRequests (mg op kl el ty st bl oq cas : Nat) (AX : Option Addr) (nx cx : Nat) (lx : List UInt8) (AK : Option Addr) (nk ck : Nat) (lk : List UInt8) (AV : Option Addr) (nv cv : Nat) (lv : List UInt8) (w : World)
    (r0 : Frm w mg op kl el ty st bl oq cas AX nx cx lx AK nk ck lk AV nv cv lv) (s0 : cx ≤ 140737488351232 ∧ ck ≤ 140737488351232 ∧ cv ≤ 140737488351232) :
    Calls Try.prog 12 #[frV mg op kl el ty st bl oq cas (.slice AX nx cx) (.slice AK nk ck) (.slice AV nv cv)] w fun e w' => e = .returned (.bool true) ∧ Below w.heap.size w w' := by
  obtain ⟨hf, rx, rk, rv⟩ := r0
  have e1 := rx.cap
  have e2 := rk.cap
  have e3 := rv.cap
  obtain ⟨s1, s2, s3⟩ := s0
  have hsh : ∀ W, Below w.heap.size w W → Calls Try.prog 52 #[.agg #[.int .u8 (mg : Nat), .int .u8 (op : Nat), .int .u16 (kl : Nat), .int .u8 (el : Nat), .int .u8 (ty : Nat), .int .u16 (st : Nat), .int .u32 (bl : Nat), .int .u32 (oq : Nat), .int .u64 (cas : Nat), .slice AX nx cx, .slice AK nk ck, .slice AV nv cv]] W (ShortP w.heap.size mg op kl el ty st bl oq cas (min nx 300) (min nk 3000) (min nv 3000) (lx.take (min nx 300)) (lk.take (min nk 3000)) (lv.take (min nv 3000)) W) := fun W bW =>
    short_any mg op kl el ty st bl oq cas AX AK AV nx cx nk ck nv cv lx lk lv W w.heap.size bW.size (rx.below bW) (rk.below bW) (rv.below bW) (by omega) (by omega) (by omega)
  have b1 : min nx 300 ≤ 300 := by omega
  have b2 : min nk 3000 ≤ 3000 := by omega
  have b3 : min nv 3000 ≤ 3000 := by omega
  unfold frV frC
  generalize min nx 300 = mx at hsh b1
  generalize min nk 3000 = mk at hsh b2
  generalize min nv 3000 = mv at hsh b3
  generalize lx.take mx = ux at hsh
  generalize lk.take mk = uk at hsh
  generalize lv.take mv = uv at hsh
  have hN : mx + mk + mv ≤ 9223372036854775807 := by omega
  have HSH := Lib.hid hsh
  have hfs := fun W X4 cx4 K4 ck4 V4 cv4 X5 cx5 K5 ck5 V5 cv5 r1 r2 r3 r4 r5 r6 => fsame_yes mg op kl el ty st bl oq cas X4 K4 V4 X5 K5 V5 mx cx4 mk ck4 mv cv4 mx cx5 mk ck5 mv cv5 ux uk uv W r1 r2 r3 r4 r5 r6
  have hwr := fun W X4 cx4 K4 ck4 V4 cv4 => wrong19_any mg op kl el ty st bl oq cas hf X4 K4 V4 mx cx4 mk ck4 mv cv4 hN W
  have hrt := fun W => rright20 mg op kl el ty st bl oq cas hf W
  have hsz : ∀ W, Calls Try.prog 45 #[.agg #[.int .i64 0, .bool false, .bool false, .int .i64 0, .int .u32 0, .slice none 0 0, .slice none 0 0, .int .u32 0, .int .u32 0, .int .u64 0, .int .u64 0, .int .u64 0], .agg #[.int .i64 0, .bool false, .bool false, .int .i64 0, .int .u32 0, .slice none 0 0, .slice none 0 0, .int .u32 0, .int .u32 0, .int .u64 0, .int .u64 0, .int .u64 0]] W (PSame true W) := fun W => by
    have h := rqsame_any 0 0 0 0 false false false false 0 0 0 0 0 0 0 0 0 0 0 0 none none none none 0 0 0 0 0 0 0 0 [] [] [] [] W (Rd.nil _ _) (Rd.nil _ _) (Rd.nil _ _) (Rd.nil _ _)
    rw [reqSame_yes ⟨rfl, rfl, rfl, rfl, rfl, rfl, rfl, rfl, rfl, rfl, rfl, rfl⟩] at h
    exact h
  by_cases hw : wrongE mg kl el bl mx mk mv = 0
  · cases hr : rightB mg ty with
    | false =>
      rw [hw] at hwr
      rw [hr] at hrt
      exact preqs_no2 mg op kl el ty st bl oq cas AX AK AV nx cx nk ck nv cv mx mk mv ux uk uv w b1 b2 b3 HSH (Lib.hid hfs) (Lib.hid fun W X4 cx4 K4 ck4 V4 cv4 r1 r2 r3 => prequest_right mg op kl el ty st bl oq cas hf X4 K4 V4 mx cx4 mk ck4 mv cv4 hN ux uk uv W r1 r2 r3 hw hr) (Lib.hid hwr) (Lib.hid hrt) (Lib.hid hsz)
    | true =>
      have hd : (decide (kl + el ≤ bl) && decide (bl ≤ 2048)) = true := by
        have hm : mg = 128 := by unfold rightB at hr; simp at hr; exact hr.1
        have h := hw
        unfold wrongE at h
        split at h
        · rename_i hc
          have h1 := hc.1
          rw [mayB_yes (Or.inl hm)] at h1
          split at h
          · cases h
          · rename_i h2
            rw [h1, Bool.true_and]
            exact decide_eq_true (by omega)
        · cases h
      rw [hw] at hwr
      rw [hr, hd] at hrt
      obtain ⟨q, hq⟩ : ∃ q, reqO op oq cas ux uk uv = q := ⟨_, rfl⟩
      have hln : q.lk.length ≤ 9223372036854775800 ∧ q.lv.length ≤ 9223372036854775800 := by
        rw [← hq]
        by_cases hb : (reqO op oq cas ux uk uv).bd = 0
        · obtain ⟨-, h1, h2, h3, h4⟩ := say_of_req hb
          rw [h1, h2]
          omega
        · obtain ⟨-, h1, h2, -⟩ := reqO_bd hb
          rw [h1, h2]
          exact ⟨by decide, by decide⟩
      exact preqs_yes mg op kl el ty st bl oq cas AX AK AV nx cx nk ck nv cv mx mk mv ux uk uv w b1 b2 b3 HSH (Lib.hid hfs) q (Lib.hid fun W X4 cx4 K4 ck4 V4 cv4 r1 r2 r3 => prequest_yes mg op kl el ty st bl oq cas hf X4 K4 V4 mx cx4 mk ck4 mv cv4 hN ux uk uv W r1 r2 r3 hw hr q hq) (Lib.hid hwr) (Lib.hid hrt)
        (Lib.hid fun W X4 cx4 K4 ck4 V4 cv4 r1 r2 r3 => by
          have h := rqn_any mg op kl el ty st bl oq cas X4 K4 V4 mx cx4 mk ck4 mv cv4 ux uk uv W r1 r2 r3 hf.2.1
          rw [hq] at h
          exact h)
        (Lib.hid fun W K6 nk6 ck6 V6 nv6 cv6 K7 nk7 ck7 V7 nv7 cv7 r1 r2 r3 r4 => by
          have h := rqsame_any q.op q.op q.bd q.bd q.qt q.qt q.fu q.fu q.oq q.oq q.fl q.fl q.ex q.ex q.cs q.cs q.dl q.dl q.ni q.ni K6 K7 V6 V7 nk6 ck6 nk7 ck7 nv6 cv6 nv7 cv7 q.lk q.lk q.lv q.lv W r1 r3 r2 r4
          rw [reqSame_yes ⟨rfl, rfl, rfl, rfl, rfl, rfl, rfl, rfl, rfl, rfl, rfl, rfl⟩] at h
          exact h)
        (Lib.hid hln)
  · exact preqs_no1 mg op kl el ty st bl oq cas AX AK AV nx cx nk ck nv cv mx mk mv ux uk uv w b1 b2 b3 HSH (Lib.hid hfs) (Lib.hid fun W X4 cx4 K4 ck4 V4 cv4 r1 r2 r3 => prequest_put mg op kl el ty st bl oq cas hf X4 K4 V4 mx cx4 mk ck4 mv cv4 hN ux uk uv W r1 r2 r3 hw) _ (by rw [bne_iff_ne]; exact hw) (Lib.hid hwr) (Lib.hid hsz)


set_option maxRecDepth 100000 in
theorem lifted_parseRequests (os : Os) (started : os.Started) (H : Type) (enc : TypeId × Value → H) :
    ReturnsInHanded {} Try.checked os 12 .any (Rows.parseRequestsSpec.pre6 enc Try.prog Try.f12 Rows.parseRequestsRow.domain false) (Rows.parseRequestsSpec.post enc Try.prog Try.f12 false true false false) := by
  refine returnsInHanded_of_change_sized (C := Try.checked) own started (by kernel_rfl) Try.func12
    (ChangeSpec.witness6 (enc := enc) (C := Try.checked) false ⟨#[], #[.agg #[.int .u8 0, .int .u8 0, .int .u16 0, .int .u8 0, .int .u8 0, .int .u16 0, .int .u32 0, .int .u32 0, .int .u64 0, .slice none 0 0, .slice none 0 0, .slice none 0 0]], []⟩ 8 (by kernel_rfl) (by kernel_rfl) (by kernel_rfl) (by kernel_rfl)) ?_
  intro W base args ds gs before hval0 hW hcnd hsz0 _
  have hval : ∀ (j : Nat) t v, Try.f12.params[j]? = some t → args[j]? = some v → Value.okWide Try.prog W .any base t v := hval0
  have hsz : (DataW.weightsEach Try.prog (Try.f12.params.toList ++ Rows.parseRequestsSpec.plain.varTypes Try.prog) (ds ++ gs)).all (· ≤ reachBytes) = true := hsz0
  have hW' := hW
  obtain ⟨p, q, hA0, hV, rfl, hfz, hnd⟩ := hW
  have hA : DataW.TrodAll enc Try.prog W 0 (fun _ => true) true Try.f12.params.toList args.toList ds p := hA0
  rw [Try.params12] at hA hval hsz
  obtain ⟨v0, vs0, d0, ds0, p0, q0, hargs, rfl, rfl, h0, t0⟩ := trodAll_cons hA
  obtain ⟨rfl, rfl, rfl⟩ := trodAll_nil t0
  obtain rfl : args = #[v0] := by cases args; simp_all
  obtain ⟨rfl, rfl⟩ := trodVars_none hV
  have k0 := h0
  obtain ⟨mg0, op0, kl0, el0, ty0, st0, bl0, oq0, cas0, AX0, nx0, cx0, lx0, AK0, nk0, ck0, lk0, AV0, nv0, cv0, lv0, rfl, r0, y0⟩ := open_frame (hval 0 61 v0 rfl rfl) h0
  have s0 := y0 (weights_of hsz (j := 0) rfl rfl)
  clear hA0 hval0
  refine (walk_parseRequests mg0 op0 kl0 el0 ty0 st0 bl0 oq0 cas0 AX0 nx0 cx0 lx0 AK0 nk0 ck0 lk0 AV0 nv0 cv0 lv0 W r0 s0).mono fun e W' ⟨he, bel⟩ => ?_
  subst he
  exact ⟨_, rfl, _, _, _, [], _, [], hW', trodAll_mk1 (shut_bool Try.underlying4 _), (trodAll_cons_mk (Below.trod laidOut (by kernel_rfl) (of_decide_eq_true (by kernel_rfl)) k0 bel (trod_places k0)) trodAll_mk0), rfl, bel.frame _, fun h => by cases h⟩

theorem closed_parseRequests : joinedFacts Try.pinned.checked.prog 12 Try.f12 Rows.parseRequestsSpec Rows.parseRequestsRow = true := by
  unfold joinedFacts
  rw [clo_heard, clo_may, clo_lifts, clo_make]
  kernel_rfl
theorem over_parseRequests : Rows.parseRequestsRow.holds Try.pinned (OpenSpec.ofChange Rows.parseRequestsSpec) :=
  OpenClaim.holds_of_wide 12 Try.f12 rfl rfl rfl rfl rfl rfl rfl ⟨rfl, rfl, rfl, rfl, rfl⟩ rfl rfl rfl rfl rfl (by kernel_rfl) Try.func12 closed_parseRequests
    (of_decide_eq_true (by kernel_rfl)) (by unfold Func.isWrapper; first | (rw [if_pos (by decide +kernel)]; kernel_rfl) | (rw [if_neg (by decide +kernel)]; exact ⟨rfl, rfl⟩))
    (fun os started H enc _ => lifted_parseRequests os started H enc)

/-- The statement. -/
theorem parseRequests_holds : Rows.ParseRequestsSaid := over_parseRequests
#print axioms parseRequests_holds

end Go.Proofs.Ytnghmgbmflcngaa

/- parse.Request: by one function of the frame, or refused. Conditions: typed in each theorem. -/
import Derived.Test.YtnghmgbmflcngaaPfa
namespace Go.Proofs.Ytnghmgbmflcngaa
set_option linter.unusedVariables false
open Go.RowKit

theorem wrongE_0 {mg kl el bl nx nk nv : Nat} (h : wrongE mg kl el bl nx nk nv = 0) : mayB mg kl el bl = true ∧ nx = el ∧ nk = kl ∧ nx + nk + nv = bl ∧ ¬ 2048 < bl := by
  unfold wrongE at h
  split at h
  · rename_i h1
    split at h
    · cases h
    · rename_i h2
      exact ⟨h1.1, h1.2.1, h1.2.2.1, h1.2.2.2, by omega⟩
  · cases h
/-- A frame that is a request's: what parse.Request answers. -/
def PrqYes (q : RQ) (w : World) (e : Ending) (w' : World) : Prop := ∃ (K2 V2 : Option Addr) (nk2 ck2 nv2 cv2 : Nat), e = .returned (.tuple #[.agg #[.int .i64 q.op, .bool q.qt, .bool q.fu, .int .i64 q.bd, .int .u32 (q.oq : Nat), .slice K2 nk2 ck2, .slice V2 nv2 cv2, .int .u32 (q.fl : Nat), .int .u32 (q.ex : Nat), .int .u64 (q.cs : Nat), .int .u64 (q.dl : Nat), .int .u64 (q.ni : Nat)], .int .i64 0]) ∧ Own w' w.heap.size K2 nk2 ck2 q.lk ∧ Own w' w.heap.size V2 nv2 cv2 q.lv ∧ Below w.heap.size w w'
/-- Else. -/
def PrqNo (w : World) (e : Ending) (w' : World) : Prop := e = .returned (.tuple #[.agg #[.int .i64 0, .bool false, .bool false, .int .i64 0, .int .u32 0, .slice none 0 0, .slice none 0 0, .int .u32 0, .int .u32 0, .int .u64 0, .int .u64 0, .int .u64 0], .int .i64 300]) ∧ Below w.heap.size w w'
theorem grown_below_any {w w' : World} {g B : Nat} (h : w.grownBy w' (some g)) (hB : B ≤ g) (hw : B ≤ w.heap.size) : Below B w w' := ⟨h.os, h.tape, h.output, h.size, fun k hk => h.block k (by omega) (fun e => by injection e; omega)⟩
set_option maxRecDepth 100000 in
set_option maxHeartbeats 4000000 in
theorem prequest_put (mg op kl el ty st bl oq cas : Nat) (hf : HdF mg op kl el ty st bl oq cas) (X K V : Option Addr) (nx cx nk ck nv cv : Nat) (hn : nx + nk + nv ≤ 9223372036854775807) (lx lk lv : List UInt8) (w : World) (rX : Rd w w.heap.size X nx cx lx) (rK : Rd w w.heap.size K nk ck lk) (rV : Rd w w.heap.size V nv cv lv) (hw : wrongE mg kl el bl nx nk nv ≠ 0) :
    Calls Try.prog 53 #[frV mg op kl el ty st bl oq cas (.slice X nx cx) (.slice K nk ck) (.slice V nv cv)] w (PrqNo w) := by
  have k1 := (Blk.new w #[.int .u8 (mg : Nat), .int .u8 (op : Nat), .int .u16 (kl : Nat), .int .u8 (el : Nat), .int .u8 (ty : Nat), .int .u16 (st : Nat), .int .u32 (bl : Nat), .int .u32 (oq : Nat), .int .u64 (cas : Nat), .slice X nx cx, .slice K nk ck, .slice V nv cv] 61).alloc (.cells #[.int .i64 0, .bool false, .bool false, .int .i64 0, .int .u32 0, .slice none 0 0, .slice none 0 0, .int .u32 0, .int .u32 0, .int .u64 0, .int .u64 0, .int .u64 0] 26)
  have k2 := Blk.new (w.alloc (.cells #[.int .u8 (mg : Nat), .int .u8 (op : Nat), .int .u16 (kl : Nat), .int .u8 (el : Nat), .int .u8 (ty : Nat), .int .u16 (st : Nat), .int .u32 (bl : Nat), .int .u32 (oq : Nat), .int .u64 (cas : Nat), .slice X nx cx, .slice K nk ck, .slice V nv cv] 61)) #[.int .i64 0, .bool false, .bool false, .int .i64 0, .int .u32 0, .slice none 0 0, .slice none 0 0, .int .u32 0, .int .u32 0, .int .u64 0, .int .u64 0, .int .u64 0] 26
  rw [World.size_alloc] at k2
  have b : Below w.heap.size w ((w.alloc (.cells #[.int .u8 (mg : Nat), .int .u8 (op : Nat), .int .u16 (kl : Nat), .int .u8 (el : Nat), .int .u8 (ty : Nat), .int .u16 (st : Nat), .int .u32 (bl : Nat), .int .u32 (oq : Nat), .int .u64 (cas : Nat), .slice X nx cx, .slice K nk ck, .slice V nv cv] 61)).alloc (.cells #[.int .i64 0, .bool false, .bool false, .int .i64 0, .int .u32 0, .slice none 0 0, .slice none 0 0, .int .u32 0, .int .u32 0, .int .u64 0, .int .u64 0, .int .u64 0] 26)) := below_a1' (below_a1' (Below.refl _ _) _) _
  have HPW : ∀ W, Calls Try.prog 58 #[.agg #[.int .u8 (mg : Nat), .int .u8 (op : Nat), .int .u16 (kl : Nat), .int .u8 (el : Nat), .int .u8 (ty : Nat), .int .u16 (st : Nat), .int .u32 (bl : Nat), .int .u32 (oq : Nat), .int .u64 (cas : Nat), .slice X nx cx, .slice K nk ck, .slice V nv cv]] W (PutE (wrongE mg kl el bl nx nk nv) W) := fun W => put_no mg op kl el ty st bl oq cas hf X K V nx cx nk ck nv cv hn hw W
  generalize wrongE mg kl el bl nx nk nv = er at hw HPW
  have HE := Lib.hid hw
  have HPP := Lib.hid HPW
  clear HPW rX rK rV hf hn hw
  unfold frV frC
  go_enter Try.func53, Try.ntmps53
  go_upto_region 1 with fail
  generalize (w.alloc (.cells #[.int .u8 (mg : Nat), .int .u8 (op : Nat), .int .u16 (kl : Nat), .int .u8 (el : Nat), .int .u8 (ty : Nat), .int .u16 (st : Nat), .int .u32 (bl : Nat), .int .u32 (oq : Nat), .int .u64 (cas : Nat), .slice X nx cx, .slice K nk ck, .slice V nv cv] 61)).alloc (.cells #[.int .i64 0, .bool false, .bool false, .int .i64 0, .int .u32 0, .slice none 0 0, .slice none 0 0, .int .u32 0, .int .u32 0, .int .u64 0, .int .u64 0, .int .u64 0] 26) = W0 at k1 k2 b ⊢
  obtain ⟨a0, a1, a2, a3, a4, a5, a6, a7, a8, a9, a10, a11⟩ := box12 k1
  go_wp2_with fail
  refine (HPP.out _).mono ?_
  rintro e w1 ⟨rfl, b1⟩
  replace k1 := k1.step b1
  replace k2 := k2.step b1
  replace b := below_step b b1
  clear b1 a0 a1 a2 a3 a4 a5 a6 a7 a8 a9 a10 a11
  have HE2 : (er != 0) = true := bne_iff_ne.2 HE.out
  have HE3 : (er = 0) = False := eq_false HE.out
  obtain ⟨z0, z1, z2, z3, z4, z5, z6, z7, z8, z9, z10, z11⟩ := box12 k2
  have y0 := k2.frozen 0
  have y1 := k2.frozen 1
  have y2 := k2.frozen 2
  have y3 := k2.frozen 3
  have y4 := k2.frozen 4
  have y5 := k2.frozen 5
  have y6 := k2.frozen 6
  have y7 := k2.frozen 7
  have y8 := k2.frozen 8
  have y9 := k2.frozen 9
  have y10 := k2.frozen 10
  have y11 := k2.frozen 11
  have kf := blk_set12 k2 (.int .i64 0) (.bool false) (.bool false) (.int .i64 0) (.int .u32 0) (.slice none 0 0) (.slice none 0 0) (.int .u32 0) (.int .u32 0) (.int .u64 0) (.int .u64 0) (.int .u64 0)
  have hg := grown_set12 w1 (w.heap.size + 1) (.int .i64 0) (.bool false) (.bool false) (.int .i64 0) (.int .u32 0) (.slice none 0 0) (.slice none 0 0) (.int .u32 0) (.int .u32 0) (.int .u64 0) (.int .u64 0) (.int .u64 0)
  have bff := b.trans (below_grown hg (by omega) k2.lt)
  obtain ⟨t0, t1, t2, t3, t4, t5, t6, t7, t8, t9, t10, t11⟩ := box12 kf
  clear k1 k2 b
  go_wp2_with fail
  refine bodyPost_ret (v := .tuple #[.agg #[.int .i64 0, .bool false, .bool false, .int .i64 0, .int .u32 0, .slice none 0 0, .slice none 0 0, .int .u32 0, .int .u32 0, .int .u64 0, .int .u64 0, .int .u64 0], .int .i64 300]) (by simp [results, Try.results53, go_sem, t0, t1, t2, t3, t4, t5, t6, t7, t8, t9, t10, t11]) rfl ?_
  exact ⟨rfl, bff⟩
set_option maxRecDepth 100000 in
set_option maxHeartbeats 4000000 in
theorem prequest_right (mg op kl el ty st bl oq cas : Nat) (hf : HdF mg op kl el ty st bl oq cas) (X K V : Option Addr) (nx cx nk ck nv cv : Nat) (hn : nx + nk + nv ≤ 9223372036854775807) (lx lk lv : List UInt8) (w : World) (rX : Rd w w.heap.size X nx cx lx) (rK : Rd w w.heap.size K nk ck lk) (rV : Rd w w.heap.size V nv cv lv) (hw : wrongE mg kl el bl nx nk nv = 0) (hr : rightB mg ty = false) :
    Calls Try.prog 53 #[frV mg op kl el ty st bl oq cas (.slice X nx cx) (.slice K nk ck) (.slice V nv cv)] w (PrqNo w) := by
  have k1 := (Blk.new w #[.int .u8 (mg : Nat), .int .u8 (op : Nat), .int .u16 (kl : Nat), .int .u8 (el : Nat), .int .u8 (ty : Nat), .int .u16 (st : Nat), .int .u32 (bl : Nat), .int .u32 (oq : Nat), .int .u64 (cas : Nat), .slice X nx cx, .slice K nk ck, .slice V nv cv] 61).alloc (.cells #[.int .i64 0, .bool false, .bool false, .int .i64 0, .int .u32 0, .slice none 0 0, .slice none 0 0, .int .u32 0, .int .u32 0, .int .u64 0, .int .u64 0, .int .u64 0] 26)
  have k2 := Blk.new (w.alloc (.cells #[.int .u8 (mg : Nat), .int .u8 (op : Nat), .int .u16 (kl : Nat), .int .u8 (el : Nat), .int .u8 (ty : Nat), .int .u16 (st : Nat), .int .u32 (bl : Nat), .int .u32 (oq : Nat), .int .u64 (cas : Nat), .slice X nx cx, .slice K nk ck, .slice V nv cv] 61)) #[.int .i64 0, .bool false, .bool false, .int .i64 0, .int .u32 0, .slice none 0 0, .slice none 0 0, .int .u32 0, .int .u32 0, .int .u64 0, .int .u64 0, .int .u64 0] 26
  rw [World.size_alloc] at k2
  have b : Below w.heap.size w ((w.alloc (.cells #[.int .u8 (mg : Nat), .int .u8 (op : Nat), .int .u16 (kl : Nat), .int .u8 (el : Nat), .int .u8 (ty : Nat), .int .u16 (st : Nat), .int .u32 (bl : Nat), .int .u32 (oq : Nat), .int .u64 (cas : Nat), .slice X nx cx, .slice K nk ck, .slice V nv cv] 61)).alloc (.cells #[.int .i64 0, .bool false, .bool false, .int .i64 0, .int .u32 0, .slice none 0 0, .slice none 0 0, .int .u32 0, .int .u32 0, .int .u64 0, .int .u64 0, .int .u64 0] 26)) := below_a1' (below_a1' (Below.refl _ _) _) _
  obtain ⟨h0, h1, h2, h3, h4⟩ := wrongE_0 hw
  have HPP : Hid (∀ W, Below w.heap.size w W → Calls Try.prog 58 #[.agg #[.int .u8 (mg : Nat), .int .u8 (op : Nat), .int .u16 (kl : Nat), .int .u8 (el : Nat), .int .u8 (ty : Nat), .int .u16 (st : Nat), .int .u32 (bl : Nat), .int .u32 (oq : Nat), .int .u64 (cas : Nat), .slice X nx cx, .slice K nk ck, .slice V nv cv]] W (PutOk (24 + nx + nk + nv) (hdB mg op kl el ty st bl oq cas ++ lx ++ lk ++ lv) W)) := Lib.hid (fun W bW => put_O mg op kl el ty st bl oq cas hf X K V nx cx nk ck nv cv hn h0 h1 h2 h3 h4 lx lk lv W (rX.step bW) (rK.step bW) (rV.step bW))
  have HRT : Hid (∀ W, Calls Try.prog 98 #[.agg #[.int .u8 (mg : Nat), .int .u8 (op : Nat), .int .u16 (kl : Nat), .int .u8 (el : Nat), .int .u8 (ty : Nat), .int .u16 (st : Nat), .int .u32 (bl : Nat), .int .u32 (oq : Nat), .int .u64 (cas : Nat)]] W (BoxQ' (.bool false) W)) := Lib.hid (fun W => by have h := pright_any mg op kl el ty st bl oq cas W; rw [hr] at h; exact h)
  clear rX rK rV hf hn hw h0 h1 h2 h3 h4 hr
  unfold frV frC
  go_enter Try.func53, Try.ntmps53
  go_upto_region 1 with fail
  generalize (w.alloc (.cells #[.int .u8 (mg : Nat), .int .u8 (op : Nat), .int .u16 (kl : Nat), .int .u8 (el : Nat), .int .u8 (ty : Nat), .int .u16 (st : Nat), .int .u32 (bl : Nat), .int .u32 (oq : Nat), .int .u64 (cas : Nat), .slice X nx cx, .slice K nk ck, .slice V nv cv] 61)).alloc (.cells #[.int .i64 0, .bool false, .bool false, .int .i64 0, .int .u32 0, .slice none 0 0, .slice none 0 0, .int .u32 0, .int .u32 0, .int .u64 0, .int .u64 0, .int .u64 0] 26) = W0 at k1 k2 b ⊢
  obtain ⟨a0, a1, a2, a3, a4, a5, a6, a7, a8, a9, a10, a11⟩ := box12 k1
  go_wp2_with fail
  refine (HPP.out _ b).mono ?_
  rintro e w1 ⟨A1, c1, rfl, o1, b1⟩
  replace k1 := k1.step b1
  replace k2 := k2.step b1
  replace b := below_step b b1
  clear b1 a0 a1 a2 a3 a4 a5 a6 a7 a8 a9 a10 a11 o1
  obtain ⟨a0, a1, a2, a3, a4, a5, a6, a7, a8, a9, a10, a11⟩ := box12 k1
  go_wp2_with fail
  refine (HRT.out _).mono ?_
  rintro e w2 ⟨rfl, b1⟩
  replace k1 := k1.step b1
  replace k2 := k2.step b1
  replace b := below_step b b1
  clear b1 a0 a1 a2 a3 a4 a5 a6 a7 a8 a9 a10 a11
  obtain ⟨z0, z1, z2, z3, z4, z5, z6, z7, z8, z9, z10, z11⟩ := box12 k2
  have y0 := k2.frozen 0
  have y1 := k2.frozen 1
  have y2 := k2.frozen 2
  have y3 := k2.frozen 3
  have y4 := k2.frozen 4
  have y5 := k2.frozen 5
  have y6 := k2.frozen 6
  have y7 := k2.frozen 7
  have y8 := k2.frozen 8
  have y9 := k2.frozen 9
  have y10 := k2.frozen 10
  have y11 := k2.frozen 11
  have kf := blk_set12 k2 (.int .i64 0) (.bool false) (.bool false) (.int .i64 0) (.int .u32 0) (.slice none 0 0) (.slice none 0 0) (.int .u32 0) (.int .u32 0) (.int .u64 0) (.int .u64 0) (.int .u64 0)
  have hg := grown_set12 w2 (w.heap.size + 1) (.int .i64 0) (.bool false) (.bool false) (.int .i64 0) (.int .u32 0) (.slice none 0 0) (.slice none 0 0) (.int .u32 0) (.int .u32 0) (.int .u64 0) (.int .u64 0) (.int .u64 0)
  have bff := b.trans (below_grown hg (by omega) k2.lt)
  obtain ⟨t0, t1, t2, t3, t4, t5, t6, t7, t8, t9, t10, t11⟩ := box12 kf
  clear k1 k2 b
  go_wp2_with fail
  refine bodyPost_ret (v := .tuple #[.agg #[.int .i64 0, .bool false, .bool false, .int .i64 0, .int .u32 0, .slice none 0 0, .slice none 0 0, .int .u32 0, .int .u32 0, .int .u64 0, .int .u64 0, .int .u64 0], .int .i64 300]) (by simp [results, Try.results53, go_sem, t0, t1, t2, t3, t4, t5, t6, t7, t8, t9, t10, t11]) rfl ?_
  exact ⟨rfl, bff⟩
set_option maxRecDepth 100000 in
set_option maxHeartbeats 4000000 in
theorem prequest_yes (mg op kl el ty st bl oq cas : Nat) (hf : HdF mg op kl el ty st bl oq cas) (X K V : Option Addr) (nx cx nk ck nv cv : Nat) (hn : nx + nk + nv ≤ 9223372036854775807) (lx lk lv : List UInt8) (w : World) (rX : Rd w w.heap.size X nx cx lx) (rK : Rd w w.heap.size K nk ck lk) (rV : Rd w w.heap.size V nv cv lv) (hw : wrongE mg kl el bl nx nk nv = 0) (hr : rightB mg ty = true) (q : RQ) (hq : reqO op oq cas lx lk lv = q) :
    Calls Try.prog 53 #[frV mg op kl el ty st bl oq cas (.slice X nx cx) (.slice K nk ck) (.slice V nv cv)] w (PrqYes q w) := by
  have k1 := (Blk.new w #[.int .u8 (mg : Nat), .int .u8 (op : Nat), .int .u16 (kl : Nat), .int .u8 (el : Nat), .int .u8 (ty : Nat), .int .u16 (st : Nat), .int .u32 (bl : Nat), .int .u32 (oq : Nat), .int .u64 (cas : Nat), .slice X nx cx, .slice K nk ck, .slice V nv cv] 61).alloc (.cells #[.int .i64 0, .bool false, .bool false, .int .i64 0, .int .u32 0, .slice none 0 0, .slice none 0 0, .int .u32 0, .int .u32 0, .int .u64 0, .int .u64 0, .int .u64 0] 26)
  have k2 := Blk.new (w.alloc (.cells #[.int .u8 (mg : Nat), .int .u8 (op : Nat), .int .u16 (kl : Nat), .int .u8 (el : Nat), .int .u8 (ty : Nat), .int .u16 (st : Nat), .int .u32 (bl : Nat), .int .u32 (oq : Nat), .int .u64 (cas : Nat), .slice X nx cx, .slice K nk ck, .slice V nv cv] 61)) #[.int .i64 0, .bool false, .bool false, .int .i64 0, .int .u32 0, .slice none 0 0, .slice none 0 0, .int .u32 0, .int .u32 0, .int .u64 0, .int .u64 0, .int .u64 0] 26
  rw [World.size_alloc] at k2
  have b : Below w.heap.size w ((w.alloc (.cells #[.int .u8 (mg : Nat), .int .u8 (op : Nat), .int .u16 (kl : Nat), .int .u8 (el : Nat), .int .u8 (ty : Nat), .int .u16 (st : Nat), .int .u32 (bl : Nat), .int .u32 (oq : Nat), .int .u64 (cas : Nat), .slice X nx cx, .slice K nk ck, .slice V nv cv] 61)).alloc (.cells #[.int .i64 0, .bool false, .bool false, .int .i64 0, .int .u32 0, .slice none 0 0, .slice none 0 0, .int .u32 0, .int .u32 0, .int .u64 0, .int .u64 0, .int .u64 0] 26)) := below_a1' (below_a1' (Below.refl _ _) _) _
  obtain ⟨h0, h1, h2, h3, h4⟩ := wrongE_0 hw
  have HPP : Hid (∀ W, Below w.heap.size w W → Calls Try.prog 58 #[.agg #[.int .u8 (mg : Nat), .int .u8 (op : Nat), .int .u16 (kl : Nat), .int .u8 (el : Nat), .int .u8 (ty : Nat), .int .u16 (st : Nat), .int .u32 (bl : Nat), .int .u32 (oq : Nat), .int .u64 (cas : Nat), .slice X nx cx, .slice K nk ck, .slice V nv cv]] W (PutOk (24 + nx + nk + nv) (hdB mg op kl el ty st bl oq cas ++ lx ++ lk ++ lv) W)) := Lib.hid (fun W bW => put_O mg op kl el ty st bl oq cas hf X K V nx cx nk ck nv cv hn h0 h1 h2 h3 h4 lx lk lv W (rX.step bW) (rK.step bW) (rV.step bW))
  have HRT : Hid (∀ W, Calls Try.prog 98 #[.agg #[.int .u8 (mg : Nat), .int .u8 (op : Nat), .int .u16 (kl : Nat), .int .u8 (el : Nat), .int .u8 (ty : Nat), .int .u16 (st : Nat), .int .u32 (bl : Nat), .int .u32 (oq : Nat), .int .u64 (cas : Nat)]] W (BoxQ' (.bool true) W)) := Lib.hid (fun W => by have h := pright_any mg op kl el ty st bl oq cas W; rw [hr] at h; exact h)
  have HQ : Hid (∀ W, Below w.heap.size w W → Calls Try.prog 90 #[.agg #[.int .u8 (mg : Nat), .int .u8 (op : Nat), .int .u16 (kl : Nat), .int .u8 (el : Nat), .int .u8 (ty : Nat), .int .u16 (st : Nat), .int .u32 (bl : Nat), .int .u32 (oq : Nat), .int .u64 (cas : Nat), .slice X nx cx, .slice K nk ck, .slice V nv cv]] W (ReqA q W)) := Lib.hid (fun W bW => by have h := preq_any mg op kl el ty st bl oq cas X K V nx cx nk ck nv cv lx lk lv W (rX.step bW) (rK.step bW) (rV.step bW) hf.2.1; rw [hq] at h; exact h)
  clear rX rK rV hf hn hw h0 h1 h2 h3 h4 hr hq
  unfold frV frC
  go_enter Try.func53, Try.ntmps53
  go_upto_region 1 with fail
  generalize (w.alloc (.cells #[.int .u8 (mg : Nat), .int .u8 (op : Nat), .int .u16 (kl : Nat), .int .u8 (el : Nat), .int .u8 (ty : Nat), .int .u16 (st : Nat), .int .u32 (bl : Nat), .int .u32 (oq : Nat), .int .u64 (cas : Nat), .slice X nx cx, .slice K nk ck, .slice V nv cv] 61)).alloc (.cells #[.int .i64 0, .bool false, .bool false, .int .i64 0, .int .u32 0, .slice none 0 0, .slice none 0 0, .int .u32 0, .int .u32 0, .int .u64 0, .int .u64 0, .int .u64 0] 26) = W0 at k1 k2 b ⊢
  obtain ⟨a0, a1, a2, a3, a4, a5, a6, a7, a8, a9, a10, a11⟩ := box12 k1
  go_wp2_with fail
  refine (HPP.out _ b).mono ?_
  rintro e w1 ⟨A1, c1, rfl, o1, b1⟩
  replace k1 := k1.step b1
  replace k2 := k2.step b1
  replace b := below_step b b1
  clear b1 a0 a1 a2 a3 a4 a5 a6 a7 a8 a9 a10 a11 o1
  obtain ⟨a0, a1, a2, a3, a4, a5, a6, a7, a8, a9, a10, a11⟩ := box12 k1
  go_wp2_with fail
  refine (HRT.out _).mono ?_
  rintro e w2 ⟨rfl, b1⟩
  replace k1 := k1.step b1
  replace k2 := k2.step b1
  replace b := below_step b b1
  clear b1 a0 a1 a2 a3 a4 a5 a6 a7 a8 a9 a10 a11
  obtain ⟨a0, a1, a2, a3, a4, a5, a6, a7, a8, a9, a10, a11⟩ := box12 k1
  go_wp2_with fail
  have hsz2 : Hid (w.heap.size + 2 ≤ w2.heap.size) := Lib.hid (by have := k2.lt; omega)
  refine (HQ.out _ b).mono ?_
  clear HQ
  rintro e w3 ⟨K2, V2, nk2, ck2, nv2, cv2, rfl, oK, oV, b1⟩
  replace k1 := k1.step b1
  replace k2 := k2.step b1
  replace b := below_step b b1
  clear b1 a0 a1 a2 a3 a4 a5 a6 a7 a8 a9 a10 a11
  have oK' : Hid (Own w3 (w.heap.size + 2) K2 nk2 ck2 q.lk) := Lib.hid (oK.more (by have := hsz2.out; omega))
  have oV' : Hid (Own w3 (w.heap.size + 2) V2 nv2 cv2 q.lv) := Lib.hid (oV.more (by have := hsz2.out; omega))
  clear oK oV hsz2
  unfold reqV
  obtain ⟨z0, z1, z2, z3, z4, z5, z6, z7, z8, z9, z10, z11⟩ := box12 k2
  have y0 := k2.frozen 0
  have y1 := k2.frozen 1
  have y2 := k2.frozen 2
  have y3 := k2.frozen 3
  have y4 := k2.frozen 4
  have y5 := k2.frozen 5
  have y6 := k2.frozen 6
  have y7 := k2.frozen 7
  have y8 := k2.frozen 8
  have y9 := k2.frozen 9
  have y10 := k2.frozen 10
  have y11 := k2.frozen 11
  have kf := blk_set12 k2 (.int .i64 q.op) (.bool q.qt) (.bool q.fu) (.int .i64 q.bd) (.int .u32 (q.oq : Nat)) (.slice K2 nk2 ck2) (.slice V2 nv2 cv2) (.int .u32 (q.fl : Nat)) (.int .u32 (q.ex : Nat)) (.int .u64 (q.cs : Nat)) (.int .u64 (q.dl : Nat)) (.int .u64 (q.ni : Nat))
  have hg := grown_set12 w3 (w.heap.size + 1) (.int .i64 q.op) (.bool q.qt) (.bool q.fu) (.int .i64 q.bd) (.int .u32 (q.oq : Nat)) (.slice K2 nk2 ck2) (.slice V2 nv2 cv2) (.int .u32 (q.fl : Nat)) (.int .u32 (q.ex : Nat)) (.int .u64 (q.cs : Nat)) (.int .u64 (q.dl : Nat)) (.int .u64 (q.ni : Nat))
  have bff := b.trans (below_grown hg (by omega) k2.lt)
  obtain ⟨t0, t1, t2, t3, t4, t5, t6, t7, t8, t9, t10, t11⟩ := box12 kf
  have hg' := hg
  clear k1 k2 b
  go_wp2_with fail
  refine bodyPost_ret (v := .tuple #[.agg #[.int .i64 q.op, .bool q.qt, .bool q.fu, .int .i64 q.bd, .int .u32 (q.oq : Nat), .slice K2 nk2 ck2, .slice V2 nv2 cv2, .int .u32 (q.fl : Nat), .int .u32 (q.ex : Nat), .int .u64 (q.cs : Nat), .int .u64 (q.dl : Nat), .int .u64 (q.ni : Nat)], .int .i64 0]) (by simp [results, Try.results53, go_sem, t0, t1, t2, t3, t4, t5, t6, t7, t8, t9, t10, t11]) rfl ?_
  exact ⟨K2, V2, nk2, ck2, nv2, cv2, rfl, (oK'.out.kept hg' (Nat.lt_succ_self _)).more (Nat.le_add_right _ _), (oV'.out.kept hg' (Nat.lt_succ_self _)).more (Nat.le_add_right _ _), bff⟩
end Go.Proofs.Ytnghmgbmflcngaa

/- parse.request of a frame that is refused. Conditions: typed in each theorem. -/
import Derived.Test.YtnghmgbmflcngaaPrc
namespace Go.Proofs.Ytnghmgbmflcngaa
set_option linter.unusedVariables false
open Go.RowKit

set_option maxRecDepth 100000 in
set_option maxHeartbeats 4000000 in
theorem preq_x (mg op kl el ty st bl oq cas : Nat) (X K V : Option Addr) (nx cx nk ck nv cv : Nat) (lx lk lv : List UInt8) (w : World) (rX : Rd w w.heap.size X nx cx lx) (rK : Rd w w.heap.size K nk ck lk) (rV : Rd w w.heap.size V nv cv lv) (hop : op < 256) (o : Nat) (q f : Bool) (hr : rowOf op = some (o, q, f)) (sx : Nat) (sk sv : Bool) (hs : shapeOf (o : Int) = (sx, sk, sv)) (later : Bool) (hl : later = (decide (o = 8) && decide (nx = 4))) (hx : nx ≠ sx) (hx2 : later = false) :
    Calls Try.prog 90 #[frV mg op kl el ty st bl oq cas (.slice X nx cx) (.slice K nk ck) (.slice V nv cv)] w (ReqQ (o : Int) q f 4 oq [] [] 0 0 0 0 0 w) := by
  have HR := Lib.hid hr
  have HL := Lib.hid hl
  have HX := Lib.hid hx
  clear hr hl hx
  have HX2 := Lib.hid hx2
  clear hx2
  have k1 := (Blk.new w #[.int .u8 (mg : Nat), .int .u8 (op : Nat), .int .u16 (kl : Nat), .int .u8 (el : Nat), .int .u8 (ty : Nat), .int .u16 (st : Nat), .int .u32 (bl : Nat), .int .u32 (oq : Nat), .int .u64 (cas : Nat), .slice X nx cx, .slice K nk ck, .slice V nv cv] 61).alloc (.cells #[.int .i64 0, .bool false, .bool false, .int .i64 0, .int .u32 0, .slice none 0 0, .slice none 0 0, .int .u32 0, .int .u32 0, .int .u64 0, .int .u64 0, .int .u64 0] 26)
  have k2 := Blk.new (w.alloc (.cells #[.int .u8 (mg : Nat), .int .u8 (op : Nat), .int .u16 (kl : Nat), .int .u8 (el : Nat), .int .u8 (ty : Nat), .int .u16 (st : Nat), .int .u32 (bl : Nat), .int .u32 (oq : Nat), .int .u64 (cas : Nat), .slice X nx cx, .slice K nk ck, .slice V nv cv] 61)) #[.int .i64 0, .bool false, .bool false, .int .i64 0, .int .u32 0, .slice none 0 0, .slice none 0 0, .int .u32 0, .int .u32 0, .int .u64 0, .int .u64 0, .int .u64 0] 26
  have b := below_a1' (below_a1' (Below.refl w.heap.size w) (.cells #[.int .u8 (mg : Nat), .int .u8 (op : Nat), .int .u16 (kl : Nat), .int .u8 (el : Nat), .int .u8 (ty : Nat), .int .u16 (st : Nat), .int .u32 (bl : Nat), .int .u32 (oq : Nat), .int .u64 (cas : Nat), .slice X nx cx, .slice K nk ck, .slice V nv cv] 61)) (.cells #[.int .i64 0, .bool false, .bool false, .int .i64 0, .int .u32 0, .slice none 0 0, .slice none 0 0, .int .u32 0, .int .u32 0, .int .u64 0, .int .u64 0, .int .u64 0] 26)
  rw [World.size_alloc] at k2
  unfold frV frC
  go_enter Try.func90, Try.ntmps90
  go_upto_region 1 with fail
  generalize (w.alloc (.cells #[.int .u8 (mg : Nat), .int .u8 (op : Nat), .int .u16 (kl : Nat), .int .u8 (el : Nat), .int .u8 (ty : Nat), .int .u16 (st : Nat), .int .u32 (bl : Nat), .int .u32 (oq : Nat), .int .u64 (cas : Nat), .slice X nx cx, .slice K nk ck, .slice V nv cv] 61)).alloc (.cells #[.int .i64 0, .bool false, .bool false, .int .i64 0, .int .u32 0, .slice none 0 0, .slice none 0 0, .int .u32 0, .int .u32 0, .int .u64 0, .int .u64 0, .int .u64 0] 26) = W0 at k1 k2 b ⊢
  have ho : IntKind.i64.wrap ((op : Nat) : Int) = ((op : Nat) : Int) := wrap_small (by omega) (by omega)
  obtain ⟨p0, p1, p2, p3, p4, p5, p6, p7, p8, p9, p10, p11⟩ := box12 k1
  go_wp2_with fail
  refine (rows_any W0).mono ?_
  rintro e w1 ⟨m, rfl, hm, hge, b1⟩
  replace k1 := k1.step b1
  replace k2 := k2.step b1
  replace b := below_step b b1
  clear b1 ho p0 p1 p2 p3 p4 p5 p6 p7 p8 p9 p10 p11
  go_upto_region 3 with (refine wpl_lookYes _ rfl _ _ _ rfl Try.underlying137 m op rfl hm rfl o q f HR.out ?_)
  have hl2 := k2.lt
  have k4 := Blk.new w1 #[.int .i64 (o : Nat), .bool q, .bool f] 140
  have b4 := below_a1' (Below.refl w1.heap.size w1) (.cells #[.int .i64 (o : Nat), .bool q, .bool f] 140)
  replace k1 := k1.step b4
  replace k2 := k2.step b4
  replace b := below_step b b4
  clear hm hge b4
  have hg4 := k2.lt
  generalize hW : w1.alloc (.cells #[.int .i64 (o : Nat), .bool q, .bool f] 140) = W3 at k1 k2 k4 b hg4 ⊢
  have hs4 : w.heap.size + 2 ≤ w1.heap.size := hl2
  clear hW
  generalize w1.heap.size = g4 at k4 hs4 ⊢
  obtain ⟨p0, p1, p2, p3, p4, p5, p6, p7, p8, p9, p10, p11⟩ := box12 k1
  obtain ⟨x0, x1, x2⟩ := box3 k4
  go_upto_region 4 with fail
  have k6 := Blk.new W3 #[.int .i64 (o : Nat), .bool q, .bool f, .int .i64 0, .int .u32 (oq : Nat), .slice none 0 0, .slice none 0 0, .int .u32 0, .int .u32 0, .int .u64 0, .int .u64 0, .int .u64 0] 26
  have b4 := below_a1' (Below.refl W3.heap.size W3) (.cells #[.int .i64 (o : Nat), .bool q, .bool f, .int .i64 0, .int .u32 (oq : Nat), .slice none 0 0, .slice none 0 0, .int .u32 0, .int .u32 0, .int .u64 0, .int .u64 0, .int .u64 0] 26)
  replace k1 := k1.step b4
  replace k2 := k2.step b4
  have hg6 := k4.lt
  replace k4 := k4.step b4
  replace b := below_step b b4
  clear b4 p0 p1 p2 p3 p4 p5 p6 p7 p8 p9 p10 p11 x0 x1 x2
  generalize W3.alloc (.cells #[.int .i64 (o : Nat), .bool q, .bool f, .int .i64 0, .int .u32 (oq : Nat), .slice none 0 0, .slice none 0 0, .int .u32 0, .int .u32 0, .int .u64 0, .int .u64 0, .int .u64 0] 26) = W6 at k1 k2 k4 k6 b ⊢
  generalize W3.heap.size = g6 at k6 hg6 ⊢
  obtain ⟨p0, p1, p2, p3, p4, p5, p6, p7, p8, p9, p10, p11⟩ := box12 k1
  obtain ⟨x0, x1, x2⟩ := box3 k4
  have HS := Lib.hid (fun W => shaped_at hs W)
  go_wp2_with fail
  refine (HS.out _).mono ?_
  rintro e w7 ⟨rfl, b7⟩
  replace k1 := k1.step b7
  replace k2 := k2.step b7
  have hg4' := k4.lt
  replace k4 := k4.step b7
  replace k6 := k6.step b7
  replace b := below_step b b7
  clear b7 p0 p1 p2 p3 p4 p5 p6 p7 p8 p9 p10 p11 x0 x1 x2
  go_upto_region 8 with fail
  have k7 := Blk.new w7 #[.int .i64 (sx : Nat), .bool sk, .bool sv] 131
  have b4 := below_a1' (Below.refl w7.heap.size w7) (.cells #[.int .i64 (sx : Nat), .bool sk, .bool sv] 131)
  have hg7 := k6.lt
  replace k1 := k1.step b4
  replace k2 := k2.step b4
  replace k4 := k4.step b4
  replace k6 := k6.step b4
  replace b := below_step b b4
  clear b4
  generalize w7.alloc (.cells #[.int .i64 (sx : Nat), .bool sk, .bool sv] 131) = W8 at k1 k2 k4 k6 k7 b ⊢
  generalize w7.heap.size = g7 at k7 hg7 ⊢
  obtain ⟨p0, p1, p2, p3, p4, p5, p6, p7, p8, p9, p10, p11⟩ := box12 k1
  obtain ⟨x0, x1, x2⟩ := box3 k4
  obtain ⟨s0, s1, s2⟩ := box3 k7
  go_cut [8] (fun s8 wx => s8 = .bool later ∧ W8 = wx)
  case first =>
    by_cases h8 : o = 8
    · subst h8
      by_cases h4 : nx = 4
      · have HL2 : Hid (later = true) := Lib.hid (by rw [HL.out, h4]; rfl)
        have e4 : ((nx : Int) == 4) = true := beq_iff_eq.2 (by omega)
        clear h4
        go_wp2_with fail
        go_meet
        exact ⟨by rw [HL2.out], rfl⟩
      · have HL2 : Hid (later = false) := Lib.hid (by rw [HL.out, decide_eq_false h4]; rfl)
        have e4 : ((nx : Int) == 4) = false := beq_eq_false_iff_ne.2 (by omega)
        clear h4
        go_wp2_with fail
        go_meet
        exact ⟨by rw [HL2.out], rfl⟩
    · have HL2 : Hid (later = false) := Lib.hid (by rw [HL.out, decide_eq_false h8]; rfl)
      have e8 : ((o : Int) == 8) = false := beq_eq_false_iff_ne.2 (by omega)
      clear h8
      go_wp2_with fail
      go_meet
      exact ⟨by rw [HL2.out], rfl⟩
  case rest =>
    obtain ⟨rfl, rfl⟩ := hcut
    go_upto_region 9 with fail
    have e9 : ((nx : Int) != (sx : Int)) = true := bne_iff_ne.2 (by have := HX.out; omega)
    obtain rfl : false = later := HX2.out.symm
    have y3 := k6.frozen 3
    obtain ⟨z0, z1, z2, z3, z4, z5, z6, z7, z8, z9, z10, z11⟩ := box12 k6
    go_upto_region 14 with fail
    have gq := rdr_grown_set W8 g6 3 (.int .i64 4)
    replace k2 := k2.leftC gq (by omega)
    replace b := b.trans (below_grown gq (by omega) k6.lt)
    have kq : Blk (W8.setCell ⟨g6, 3, none⟩ (.int .i64 4)) g6 #[.int .i64 (o : Nat), .bool q, .bool f, .int .i64 4, .int .u32 (oq : Nat), .slice none 0 0, .slice none 0 0, .int .u32 0, .int .u32 0, .int .u64 0, .int .u64 0, .int .u64 0] 26 := k6.set_ 3 _
    clear k1 k4 k6 k7 gq y3 z0 z1 z2 z3 z4 z5 z6 z7 z8 z9 z10 z11 p0 p1 p2 p3 p4 p5 p6 p7 p8 p9 p10 p11 x0 x1 x2 s0 s1 s2
    generalize W8.setCell ⟨g6, 3, none⟩ (.int .i64 4) = W9 at kq k2 b ⊢
    obtain ⟨z0, z1, z2, z3, z4, z5, z6, z7, z8, z9, z10, z11⟩ := box12 kq
    obtain ⟨u0, u1, u2, u3, u4, u5, u6, u7, u8, u9, u10, u11⟩ := box12 k2
    have y0 := k2.frozen 0
    have y1 := k2.frozen 1
    have y2 := k2.frozen 2
    have y3 := k2.frozen 3
    have y4 := k2.frozen 4
    have y5 := k2.frozen 5
    have y6 := k2.frozen 6
    have y7 := k2.frozen 7
    have y8 := k2.frozen 8
    have y9 := k2.frozen 9
    have y10 := k2.frozen 10
    have y11 := k2.frozen 11
    have kf := blk_set12 k2 (.int .i64 (o : Nat)) (.bool q) (.bool f) (.int .i64 4) (.int .u32 (oq : Nat)) (.slice none 0 0) (.slice none 0 0) (.int .u32 0) (.int .u32 0) (.int .u64 0) (.int .u64 0) (.int .u64 0)
    have gs := grown_set12 W9 (w.heap.size + 1) (.int .i64 (o : Nat)) (.bool q) (.bool f) (.int .i64 4) (.int .u32 (oq : Nat)) (.slice none 0 0) (.slice none 0 0) (.int .u32 0) (.int .u32 0) (.int .u64 0) (.int .u64 0) (.int .u64 0)
    have bf := b.trans (below_grown gs (by omega) k2.lt)
    obtain ⟨t0, t1, t2, t3, t4, t5, t6, t7, t8, t9, t10, t11⟩ := box12 kf
    clear kf gs b k2 kq
    go_wp2_with fail
    refine bodyPost_ret (v := .agg #[.int .i64 (o : Nat), .bool q, .bool f, .int .i64 4, .int .u32 (oq : Nat), .slice none 0 0, .slice none 0 0, .int .u32 0, .int .u32 0, .int .u64 0, .int .u64 0, .int .u64 0]) (by simp [results, Try.results90, go_sem, t0, t1, t2, t3, t4, t5, t6, t7, t8, t9, t10, t11]) rfl ?_
    exact ⟨_, _, _, _, _, _, rfl, Own.nil _ _, Own.nil _ _, bf⟩
set_option maxRecDepth 100000 in
set_option maxHeartbeats 4000000 in
theorem preq_k (mg op kl el ty st bl oq cas : Nat) (X K V : Option Addr) (nx cx nk ck nv cv : Nat) (lx lk lv : List UInt8) (w : World) (rX : Rd w w.heap.size X nx cx lx) (rK : Rd w w.heap.size K nk ck lk) (rV : Rd w w.heap.size V nv cv lv) (hop : op < 256) (o : Nat) (q f : Bool) (hr : rowOf op = some (o, q, f)) (sx : Nat) (sk sv : Bool) (hs : shapeOf (o : Int) = (sx, sk, sv)) (later : Bool) (hl : later = (decide (o = 8) && decide (nx = 4))) (hx : nx = sx ∨ later = true) (hk : decide ((0 : Int) < (nk : Int)) ≠ sk) :
    Calls Try.prog 90 #[frV mg op kl el ty st bl oq cas (.slice X nx cx) (.slice K nk ck) (.slice V nv cv)] w (ReqQ (o : Int) q f 4 oq [] [] 0 0 0 0 0 w) := by
  have HR := Lib.hid hr
  have HL := Lib.hid hl
  have HX := Lib.hid hx
  have HK := Lib.hid hk
  clear hr hl hx hk
  have k1 := (Blk.new w #[.int .u8 (mg : Nat), .int .u8 (op : Nat), .int .u16 (kl : Nat), .int .u8 (el : Nat), .int .u8 (ty : Nat), .int .u16 (st : Nat), .int .u32 (bl : Nat), .int .u32 (oq : Nat), .int .u64 (cas : Nat), .slice X nx cx, .slice K nk ck, .slice V nv cv] 61).alloc (.cells #[.int .i64 0, .bool false, .bool false, .int .i64 0, .int .u32 0, .slice none 0 0, .slice none 0 0, .int .u32 0, .int .u32 0, .int .u64 0, .int .u64 0, .int .u64 0] 26)
  have k2 := Blk.new (w.alloc (.cells #[.int .u8 (mg : Nat), .int .u8 (op : Nat), .int .u16 (kl : Nat), .int .u8 (el : Nat), .int .u8 (ty : Nat), .int .u16 (st : Nat), .int .u32 (bl : Nat), .int .u32 (oq : Nat), .int .u64 (cas : Nat), .slice X nx cx, .slice K nk ck, .slice V nv cv] 61)) #[.int .i64 0, .bool false, .bool false, .int .i64 0, .int .u32 0, .slice none 0 0, .slice none 0 0, .int .u32 0, .int .u32 0, .int .u64 0, .int .u64 0, .int .u64 0] 26
  have b := below_a1' (below_a1' (Below.refl w.heap.size w) (.cells #[.int .u8 (mg : Nat), .int .u8 (op : Nat), .int .u16 (kl : Nat), .int .u8 (el : Nat), .int .u8 (ty : Nat), .int .u16 (st : Nat), .int .u32 (bl : Nat), .int .u32 (oq : Nat), .int .u64 (cas : Nat), .slice X nx cx, .slice K nk ck, .slice V nv cv] 61)) (.cells #[.int .i64 0, .bool false, .bool false, .int .i64 0, .int .u32 0, .slice none 0 0, .slice none 0 0, .int .u32 0, .int .u32 0, .int .u64 0, .int .u64 0, .int .u64 0] 26)
  rw [World.size_alloc] at k2
  unfold frV frC
  go_enter Try.func90, Try.ntmps90
  go_upto_region 1 with fail
  generalize (w.alloc (.cells #[.int .u8 (mg : Nat), .int .u8 (op : Nat), .int .u16 (kl : Nat), .int .u8 (el : Nat), .int .u8 (ty : Nat), .int .u16 (st : Nat), .int .u32 (bl : Nat), .int .u32 (oq : Nat), .int .u64 (cas : Nat), .slice X nx cx, .slice K nk ck, .slice V nv cv] 61)).alloc (.cells #[.int .i64 0, .bool false, .bool false, .int .i64 0, .int .u32 0, .slice none 0 0, .slice none 0 0, .int .u32 0, .int .u32 0, .int .u64 0, .int .u64 0, .int .u64 0] 26) = W0 at k1 k2 b ⊢
  have ho : IntKind.i64.wrap ((op : Nat) : Int) = ((op : Nat) : Int) := wrap_small (by omega) (by omega)
  obtain ⟨p0, p1, p2, p3, p4, p5, p6, p7, p8, p9, p10, p11⟩ := box12 k1
  go_wp2_with fail
  refine (rows_any W0).mono ?_
  rintro e w1 ⟨m, rfl, hm, hge, b1⟩
  replace k1 := k1.step b1
  replace k2 := k2.step b1
  replace b := below_step b b1
  clear b1 ho p0 p1 p2 p3 p4 p5 p6 p7 p8 p9 p10 p11
  go_upto_region 3 with (refine wpl_lookYes _ rfl _ _ _ rfl Try.underlying137 m op rfl hm rfl o q f HR.out ?_)
  have hl2 := k2.lt
  have k4 := Blk.new w1 #[.int .i64 (o : Nat), .bool q, .bool f] 140
  have b4 := below_a1' (Below.refl w1.heap.size w1) (.cells #[.int .i64 (o : Nat), .bool q, .bool f] 140)
  replace k1 := k1.step b4
  replace k2 := k2.step b4
  replace b := below_step b b4
  clear hm hge b4
  have hg4 := k2.lt
  generalize hW : w1.alloc (.cells #[.int .i64 (o : Nat), .bool q, .bool f] 140) = W3 at k1 k2 k4 b hg4 ⊢
  have hs4 : w.heap.size + 2 ≤ w1.heap.size := hl2
  clear hW
  generalize w1.heap.size = g4 at k4 hs4 ⊢
  obtain ⟨p0, p1, p2, p3, p4, p5, p6, p7, p8, p9, p10, p11⟩ := box12 k1
  obtain ⟨x0, x1, x2⟩ := box3 k4
  go_upto_region 4 with fail
  have k6 := Blk.new W3 #[.int .i64 (o : Nat), .bool q, .bool f, .int .i64 0, .int .u32 (oq : Nat), .slice none 0 0, .slice none 0 0, .int .u32 0, .int .u32 0, .int .u64 0, .int .u64 0, .int .u64 0] 26
  have b4 := below_a1' (Below.refl W3.heap.size W3) (.cells #[.int .i64 (o : Nat), .bool q, .bool f, .int .i64 0, .int .u32 (oq : Nat), .slice none 0 0, .slice none 0 0, .int .u32 0, .int .u32 0, .int .u64 0, .int .u64 0, .int .u64 0] 26)
  replace k1 := k1.step b4
  replace k2 := k2.step b4
  have hg6 := k4.lt
  replace k4 := k4.step b4
  replace b := below_step b b4
  clear b4 p0 p1 p2 p3 p4 p5 p6 p7 p8 p9 p10 p11 x0 x1 x2
  generalize W3.alloc (.cells #[.int .i64 (o : Nat), .bool q, .bool f, .int .i64 0, .int .u32 (oq : Nat), .slice none 0 0, .slice none 0 0, .int .u32 0, .int .u32 0, .int .u64 0, .int .u64 0, .int .u64 0] 26) = W6 at k1 k2 k4 k6 b ⊢
  generalize W3.heap.size = g6 at k6 hg6 ⊢
  obtain ⟨p0, p1, p2, p3, p4, p5, p6, p7, p8, p9, p10, p11⟩ := box12 k1
  obtain ⟨x0, x1, x2⟩ := box3 k4
  have HS := Lib.hid (fun W => shaped_at hs W)
  go_wp2_with fail
  refine (HS.out _).mono ?_
  rintro e w7 ⟨rfl, b7⟩
  replace k1 := k1.step b7
  replace k2 := k2.step b7
  have hg4' := k4.lt
  replace k4 := k4.step b7
  replace k6 := k6.step b7
  replace b := below_step b b7
  clear b7 p0 p1 p2 p3 p4 p5 p6 p7 p8 p9 p10 p11 x0 x1 x2
  go_upto_region 8 with fail
  have k7 := Blk.new w7 #[.int .i64 (sx : Nat), .bool sk, .bool sv] 131
  have b4 := below_a1' (Below.refl w7.heap.size w7) (.cells #[.int .i64 (sx : Nat), .bool sk, .bool sv] 131)
  have hg7 := k6.lt
  replace k1 := k1.step b4
  replace k2 := k2.step b4
  replace k4 := k4.step b4
  replace k6 := k6.step b4
  replace b := below_step b b4
  clear b4
  generalize w7.alloc (.cells #[.int .i64 (sx : Nat), .bool sk, .bool sv] 131) = W8 at k1 k2 k4 k6 k7 b ⊢
  generalize w7.heap.size = g7 at k7 hg7 ⊢
  obtain ⟨p0, p1, p2, p3, p4, p5, p6, p7, p8, p9, p10, p11⟩ := box12 k1
  obtain ⟨x0, x1, x2⟩ := box3 k4
  obtain ⟨s0, s1, s2⟩ := box3 k7
  go_cut [8] (fun s8 wx => s8 = .bool later ∧ W8 = wx)
  case first =>
    by_cases h8 : o = 8
    · subst h8
      by_cases h4 : nx = 4
      · have HL2 : Hid (later = true) := Lib.hid (by rw [HL.out, h4]; rfl)
        have e4 : ((nx : Int) == 4) = true := beq_iff_eq.2 (by omega)
        clear h4
        go_wp2_with fail
        go_meet
        exact ⟨by rw [HL2.out], rfl⟩
      · have HL2 : Hid (later = false) := Lib.hid (by rw [HL.out, decide_eq_false h4]; rfl)
        have e4 : ((nx : Int) == 4) = false := beq_eq_false_iff_ne.2 (by omega)
        clear h4
        go_wp2_with fail
        go_meet
        exact ⟨by rw [HL2.out], rfl⟩
    · have HL2 : Hid (later = false) := Lib.hid (by rw [HL.out, decide_eq_false h8]; rfl)
      have e8 : ((o : Int) == 8) = false := beq_eq_false_iff_ne.2 (by omega)
      clear h8
      go_wp2_with fail
      go_meet
      exact ⟨by rw [HL2.out], rfl⟩
  case rest =>
    obtain ⟨rfl, rfl⟩ := hcut
    go_upto_region 9 with fail
    go_cut [48] (fun s48 wx => s48 = .bool false ∧ W8 = wx)
    case first =>
      cases hlt : later with
      | true =>
        subst hlt
        by_cases hn : nx = sx
        · have e9 : ((nx : Int) != (sx : Int)) = false := bne_eq_false_iff_eq.2 (by omega)
          clear hn
          go_wp2_with fail
          go_meet
          exact ⟨rfl, rfl⟩
        · have e9 : ((nx : Int) != (sx : Int)) = true := bne_iff_ne.2 (by omega)
          clear hn
          go_wp2_with fail
          go_meet
          exact ⟨rfl, rfl⟩
      | false =>
        subst hlt
        have e9 : ((nx : Int) != (sx : Int)) = false := bne_eq_false_iff_eq.2 (by rcases HX.out with h | h; omega; cases h)
        go_wp2_with fail
        go_meet
        exact ⟨rfl, rfl⟩
    case rest =>
      obtain ⟨rfl, rfl⟩ := hcut
      go_upto_region 10 with fail
      go_cut [48] (fun s48 wx => s48 = .bool true ∧ W8 = wx)
      case first =>
        by_cases h0 : (0 : Int) < (nk : Int)
        · have ev : ((0 : Int) < (nk : Int)) = True := eq_true h0
          have ev' : (0 < nk) = True := eq_true (by omega)
          obtain rfl : sk = false := by cases sk with | false => rfl | true => exact absurd (decide_eq_true h0) HK.out
          clear h0
          go_wp2_with fail
          go_meet
          exact ⟨rfl, rfl⟩
        · have ev : ((0 : Int) < (nk : Int)) = False := eq_false h0
          have ev' : (0 < nk) = False := eq_false (by omega)
          obtain rfl : sk = true := by cases sk with | true => rfl | false => exact absurd (decide_eq_false h0) HK.out
          clear h0
          go_wp2_with fail
          go_meet
          exact ⟨rfl, rfl⟩
      case rest =>
        obtain ⟨rfl, rfl⟩ := hcut
        have y3 := k6.frozen 3
        obtain ⟨z0, z1, z2, z3, z4, z5, z6, z7, z8, z9, z10, z11⟩ := box12 k6
        go_upto_region 14 with fail
        have gq := rdr_grown_set W8 g6 3 (.int .i64 4)
        replace k2 := k2.leftC gq (by omega)
        replace b := b.trans (below_grown gq (by omega) k6.lt)
        have kq : Blk (W8.setCell ⟨g6, 3, none⟩ (.int .i64 4)) g6 #[.int .i64 (o : Nat), .bool q, .bool f, .int .i64 4, .int .u32 (oq : Nat), .slice none 0 0, .slice none 0 0, .int .u32 0, .int .u32 0, .int .u64 0, .int .u64 0, .int .u64 0] 26 := k6.set_ 3 _
        clear k1 k4 k6 k7 gq y3 z0 z1 z2 z3 z4 z5 z6 z7 z8 z9 z10 z11 p0 p1 p2 p3 p4 p5 p6 p7 p8 p9 p10 p11 x0 x1 x2 s0 s1 s2
        generalize W8.setCell ⟨g6, 3, none⟩ (.int .i64 4) = W9 at kq k2 b ⊢
        obtain ⟨z0, z1, z2, z3, z4, z5, z6, z7, z8, z9, z10, z11⟩ := box12 kq
        obtain ⟨u0, u1, u2, u3, u4, u5, u6, u7, u8, u9, u10, u11⟩ := box12 k2
        have y0 := k2.frozen 0
        have y1 := k2.frozen 1
        have y2 := k2.frozen 2
        have y3 := k2.frozen 3
        have y4 := k2.frozen 4
        have y5 := k2.frozen 5
        have y6 := k2.frozen 6
        have y7 := k2.frozen 7
        have y8 := k2.frozen 8
        have y9 := k2.frozen 9
        have y10 := k2.frozen 10
        have y11 := k2.frozen 11
        have kf := blk_set12 k2 (.int .i64 (o : Nat)) (.bool q) (.bool f) (.int .i64 4) (.int .u32 (oq : Nat)) (.slice none 0 0) (.slice none 0 0) (.int .u32 0) (.int .u32 0) (.int .u64 0) (.int .u64 0) (.int .u64 0)
        have gs := grown_set12 W9 (w.heap.size + 1) (.int .i64 (o : Nat)) (.bool q) (.bool f) (.int .i64 4) (.int .u32 (oq : Nat)) (.slice none 0 0) (.slice none 0 0) (.int .u32 0) (.int .u32 0) (.int .u64 0) (.int .u64 0) (.int .u64 0)
        have bf := b.trans (below_grown gs (by omega) k2.lt)
        obtain ⟨t0, t1, t2, t3, t4, t5, t6, t7, t8, t9, t10, t11⟩ := box12 kf
        clear kf gs b k2 kq
        go_wp2_with fail
        refine bodyPost_ret (v := .agg #[.int .i64 (o : Nat), .bool q, .bool f, .int .i64 4, .int .u32 (oq : Nat), .slice none 0 0, .slice none 0 0, .int .u32 0, .int .u32 0, .int .u64 0, .int .u64 0, .int .u64 0]) (by simp [results, Try.results90, go_sem, t0, t1, t2, t3, t4, t5, t6, t7, t8, t9, t10, t11]) rfl ?_
        exact ⟨_, _, _, _, _, _, rfl, Own.nil _ _, Own.nil _ _, bf⟩
set_option maxRecDepth 100000 in
set_option maxHeartbeats 4000000 in
theorem preq_l (mg op kl el ty st bl oq cas : Nat) (X K V : Option Addr) (nx cx nk ck nv cv : Nat) (lx lk lv : List UInt8) (w : World) (rX : Rd w w.heap.size X nx cx lx) (rK : Rd w w.heap.size K nk ck lk) (rV : Rd w w.heap.size V nv cv lv) (hop : op < 256) (o : Nat) (q f : Bool) (hr : rowOf op = some (o, q, f)) (sx : Nat) (sk sv : Bool) (hs : shapeOf (o : Int) = (sx, sk, sv)) (later : Bool) (hl : later = (decide (o = 8) && decide (nx = 4))) (hx : nx = sx ∨ later = true) (hk : decide ((0 : Int) < (nk : Int)) = sk) (hk2 : 250 < nk) :
    Calls Try.prog 90 #[frV mg op kl el ty st bl oq cas (.slice X nx cx) (.slice K nk ck) (.slice V nv cv)] w (ReqQ (o : Int) q f 4 oq [] [] 0 0 0 0 0 w) := by
  have HR := Lib.hid hr
  have HL := Lib.hid hl
  have HX := Lib.hid hx
  have HK := Lib.hid hk
  clear hr hl hx hk
  have ek2 : ((250 : Int) < (nk : Int)) = True := eq_true (by omega)
  have ek2' : (250 < nk) = True := eq_true hk2
  clear hk2
  have k1 := (Blk.new w #[.int .u8 (mg : Nat), .int .u8 (op : Nat), .int .u16 (kl : Nat), .int .u8 (el : Nat), .int .u8 (ty : Nat), .int .u16 (st : Nat), .int .u32 (bl : Nat), .int .u32 (oq : Nat), .int .u64 (cas : Nat), .slice X nx cx, .slice K nk ck, .slice V nv cv] 61).alloc (.cells #[.int .i64 0, .bool false, .bool false, .int .i64 0, .int .u32 0, .slice none 0 0, .slice none 0 0, .int .u32 0, .int .u32 0, .int .u64 0, .int .u64 0, .int .u64 0] 26)
  have k2 := Blk.new (w.alloc (.cells #[.int .u8 (mg : Nat), .int .u8 (op : Nat), .int .u16 (kl : Nat), .int .u8 (el : Nat), .int .u8 (ty : Nat), .int .u16 (st : Nat), .int .u32 (bl : Nat), .int .u32 (oq : Nat), .int .u64 (cas : Nat), .slice X nx cx, .slice K nk ck, .slice V nv cv] 61)) #[.int .i64 0, .bool false, .bool false, .int .i64 0, .int .u32 0, .slice none 0 0, .slice none 0 0, .int .u32 0, .int .u32 0, .int .u64 0, .int .u64 0, .int .u64 0] 26
  have b := below_a1' (below_a1' (Below.refl w.heap.size w) (.cells #[.int .u8 (mg : Nat), .int .u8 (op : Nat), .int .u16 (kl : Nat), .int .u8 (el : Nat), .int .u8 (ty : Nat), .int .u16 (st : Nat), .int .u32 (bl : Nat), .int .u32 (oq : Nat), .int .u64 (cas : Nat), .slice X nx cx, .slice K nk ck, .slice V nv cv] 61)) (.cells #[.int .i64 0, .bool false, .bool false, .int .i64 0, .int .u32 0, .slice none 0 0, .slice none 0 0, .int .u32 0, .int .u32 0, .int .u64 0, .int .u64 0, .int .u64 0] 26)
  rw [World.size_alloc] at k2
  unfold frV frC
  go_enter Try.func90, Try.ntmps90
  go_upto_region 1 with fail
  generalize (w.alloc (.cells #[.int .u8 (mg : Nat), .int .u8 (op : Nat), .int .u16 (kl : Nat), .int .u8 (el : Nat), .int .u8 (ty : Nat), .int .u16 (st : Nat), .int .u32 (bl : Nat), .int .u32 (oq : Nat), .int .u64 (cas : Nat), .slice X nx cx, .slice K nk ck, .slice V nv cv] 61)).alloc (.cells #[.int .i64 0, .bool false, .bool false, .int .i64 0, .int .u32 0, .slice none 0 0, .slice none 0 0, .int .u32 0, .int .u32 0, .int .u64 0, .int .u64 0, .int .u64 0] 26) = W0 at k1 k2 b ⊢
  have ho : IntKind.i64.wrap ((op : Nat) : Int) = ((op : Nat) : Int) := wrap_small (by omega) (by omega)
  obtain ⟨p0, p1, p2, p3, p4, p5, p6, p7, p8, p9, p10, p11⟩ := box12 k1
  go_wp2_with fail
  refine (rows_any W0).mono ?_
  rintro e w1 ⟨m, rfl, hm, hge, b1⟩
  replace k1 := k1.step b1
  replace k2 := k2.step b1
  replace b := below_step b b1
  clear b1 ho p0 p1 p2 p3 p4 p5 p6 p7 p8 p9 p10 p11
  go_upto_region 3 with (refine wpl_lookYes _ rfl _ _ _ rfl Try.underlying137 m op rfl hm rfl o q f HR.out ?_)
  have hl2 := k2.lt
  have k4 := Blk.new w1 #[.int .i64 (o : Nat), .bool q, .bool f] 140
  have b4 := below_a1' (Below.refl w1.heap.size w1) (.cells #[.int .i64 (o : Nat), .bool q, .bool f] 140)
  replace k1 := k1.step b4
  replace k2 := k2.step b4
  replace b := below_step b b4
  clear hm hge b4
  have hg4 := k2.lt
  generalize hW : w1.alloc (.cells #[.int .i64 (o : Nat), .bool q, .bool f] 140) = W3 at k1 k2 k4 b hg4 ⊢
  have hs4 : w.heap.size + 2 ≤ w1.heap.size := hl2
  clear hW
  generalize w1.heap.size = g4 at k4 hs4 ⊢
  obtain ⟨p0, p1, p2, p3, p4, p5, p6, p7, p8, p9, p10, p11⟩ := box12 k1
  obtain ⟨x0, x1, x2⟩ := box3 k4
  go_upto_region 4 with fail
  have k6 := Blk.new W3 #[.int .i64 (o : Nat), .bool q, .bool f, .int .i64 0, .int .u32 (oq : Nat), .slice none 0 0, .slice none 0 0, .int .u32 0, .int .u32 0, .int .u64 0, .int .u64 0, .int .u64 0] 26
  have b4 := below_a1' (Below.refl W3.heap.size W3) (.cells #[.int .i64 (o : Nat), .bool q, .bool f, .int .i64 0, .int .u32 (oq : Nat), .slice none 0 0, .slice none 0 0, .int .u32 0, .int .u32 0, .int .u64 0, .int .u64 0, .int .u64 0] 26)
  replace k1 := k1.step b4
  replace k2 := k2.step b4
  have hg6 := k4.lt
  replace k4 := k4.step b4
  replace b := below_step b b4
  clear b4 p0 p1 p2 p3 p4 p5 p6 p7 p8 p9 p10 p11 x0 x1 x2
  generalize W3.alloc (.cells #[.int .i64 (o : Nat), .bool q, .bool f, .int .i64 0, .int .u32 (oq : Nat), .slice none 0 0, .slice none 0 0, .int .u32 0, .int .u32 0, .int .u64 0, .int .u64 0, .int .u64 0] 26) = W6 at k1 k2 k4 k6 b ⊢
  generalize W3.heap.size = g6 at k6 hg6 ⊢
  obtain ⟨p0, p1, p2, p3, p4, p5, p6, p7, p8, p9, p10, p11⟩ := box12 k1
  obtain ⟨x0, x1, x2⟩ := box3 k4
  have HS := Lib.hid (fun W => shaped_at hs W)
  go_wp2_with fail
  refine (HS.out _).mono ?_
  rintro e w7 ⟨rfl, b7⟩
  replace k1 := k1.step b7
  replace k2 := k2.step b7
  have hg4' := k4.lt
  replace k4 := k4.step b7
  replace k6 := k6.step b7
  replace b := below_step b b7
  clear b7 p0 p1 p2 p3 p4 p5 p6 p7 p8 p9 p10 p11 x0 x1 x2
  go_upto_region 8 with fail
  have k7 := Blk.new w7 #[.int .i64 (sx : Nat), .bool sk, .bool sv] 131
  have b4 := below_a1' (Below.refl w7.heap.size w7) (.cells #[.int .i64 (sx : Nat), .bool sk, .bool sv] 131)
  have hg7 := k6.lt
  replace k1 := k1.step b4
  replace k2 := k2.step b4
  replace k4 := k4.step b4
  replace k6 := k6.step b4
  replace b := below_step b b4
  clear b4
  generalize w7.alloc (.cells #[.int .i64 (sx : Nat), .bool sk, .bool sv] 131) = W8 at k1 k2 k4 k6 k7 b ⊢
  generalize w7.heap.size = g7 at k7 hg7 ⊢
  obtain ⟨p0, p1, p2, p3, p4, p5, p6, p7, p8, p9, p10, p11⟩ := box12 k1
  obtain ⟨x0, x1, x2⟩ := box3 k4
  obtain ⟨s0, s1, s2⟩ := box3 k7
  go_cut [8] (fun s8 wx => s8 = .bool later ∧ W8 = wx)
  case first =>
    by_cases h8 : o = 8
    · subst h8
      by_cases h4 : nx = 4
      · have HL2 : Hid (later = true) := Lib.hid (by rw [HL.out, h4]; rfl)
        have e4 : ((nx : Int) == 4) = true := beq_iff_eq.2 (by omega)
        clear h4
        go_wp2_with fail
        go_meet
        exact ⟨by rw [HL2.out], rfl⟩
      · have HL2 : Hid (later = false) := Lib.hid (by rw [HL.out, decide_eq_false h4]; rfl)
        have e4 : ((nx : Int) == 4) = false := beq_eq_false_iff_ne.2 (by omega)
        clear h4
        go_wp2_with fail
        go_meet
        exact ⟨by rw [HL2.out], rfl⟩
    · have HL2 : Hid (later = false) := Lib.hid (by rw [HL.out, decide_eq_false h8]; rfl)
      have e8 : ((o : Int) == 8) = false := beq_eq_false_iff_ne.2 (by omega)
      clear h8
      go_wp2_with fail
      go_meet
      exact ⟨by rw [HL2.out], rfl⟩
  case rest =>
    obtain ⟨rfl, rfl⟩ := hcut
    go_upto_region 9 with fail
    go_cut [48] (fun s48 wx => s48 = .bool false ∧ W8 = wx)
    case first =>
      cases hlt : later with
      | true =>
        subst hlt
        by_cases hn : nx = sx
        · have e9 : ((nx : Int) != (sx : Int)) = false := bne_eq_false_iff_eq.2 (by omega)
          clear hn
          go_wp2_with fail
          go_meet
          exact ⟨rfl, rfl⟩
        · have e9 : ((nx : Int) != (sx : Int)) = true := bne_iff_ne.2 (by omega)
          clear hn
          go_wp2_with fail
          go_meet
          exact ⟨rfl, rfl⟩
      | false =>
        subst hlt
        have e9 : ((nx : Int) != (sx : Int)) = false := bne_eq_false_iff_eq.2 (by rcases HX.out with h | h; omega; cases h)
        go_wp2_with fail
        go_meet
        exact ⟨rfl, rfl⟩
    case rest =>
      obtain ⟨rfl, rfl⟩ := hcut
      go_upto_region 10 with fail
      go_cut [48] (fun s48 wx => s48 = .bool false ∧ W8 = wx)
      case first =>
        by_cases h0 : (0 : Int) < (nk : Int)
        · have ev : ((0 : Int) < (nk : Int)) = True := eq_true h0
          have ev' : (0 < nk) = True := eq_true (by omega)
          obtain rfl : true = sk := by rw [← HK.out, decide_eq_true h0]
          clear h0
          go_wp2_with fail
          go_meet
          exact ⟨rfl, rfl⟩
        · have ev : ((0 : Int) < (nk : Int)) = False := eq_false h0
          have ev' : (0 < nk) = False := eq_false (by omega)
          obtain rfl : false = sk := by rw [← HK.out, decide_eq_false h0]
          clear h0
          go_wp2_with fail
          go_meet
          exact ⟨rfl, rfl⟩
      case rest =>
        obtain ⟨rfl, rfl⟩ := hcut
        have y3 := k6.frozen 3
        obtain ⟨z0, z1, z2, z3, z4, z5, z6, z7, z8, z9, z10, z11⟩ := box12 k6
        go_upto_region 14 with fail
        have gq := rdr_grown_set W8 g6 3 (.int .i64 4)
        replace k2 := k2.leftC gq (by omega)
        replace b := b.trans (below_grown gq (by omega) k6.lt)
        have kq : Blk (W8.setCell ⟨g6, 3, none⟩ (.int .i64 4)) g6 #[.int .i64 (o : Nat), .bool q, .bool f, .int .i64 4, .int .u32 (oq : Nat), .slice none 0 0, .slice none 0 0, .int .u32 0, .int .u32 0, .int .u64 0, .int .u64 0, .int .u64 0] 26 := k6.set_ 3 _
        clear k1 k4 k6 k7 gq y3 z0 z1 z2 z3 z4 z5 z6 z7 z8 z9 z10 z11 p0 p1 p2 p3 p4 p5 p6 p7 p8 p9 p10 p11 x0 x1 x2 s0 s1 s2
        generalize W8.setCell ⟨g6, 3, none⟩ (.int .i64 4) = W9 at kq k2 b ⊢
        obtain ⟨z0, z1, z2, z3, z4, z5, z6, z7, z8, z9, z10, z11⟩ := box12 kq
        obtain ⟨u0, u1, u2, u3, u4, u5, u6, u7, u8, u9, u10, u11⟩ := box12 k2
        have y0 := k2.frozen 0
        have y1 := k2.frozen 1
        have y2 := k2.frozen 2
        have y3 := k2.frozen 3
        have y4 := k2.frozen 4
        have y5 := k2.frozen 5
        have y6 := k2.frozen 6
        have y7 := k2.frozen 7
        have y8 := k2.frozen 8
        have y9 := k2.frozen 9
        have y10 := k2.frozen 10
        have y11 := k2.frozen 11
        have kf := blk_set12 k2 (.int .i64 (o : Nat)) (.bool q) (.bool f) (.int .i64 4) (.int .u32 (oq : Nat)) (.slice none 0 0) (.slice none 0 0) (.int .u32 0) (.int .u32 0) (.int .u64 0) (.int .u64 0) (.int .u64 0)
        have gs := grown_set12 W9 (w.heap.size + 1) (.int .i64 (o : Nat)) (.bool q) (.bool f) (.int .i64 4) (.int .u32 (oq : Nat)) (.slice none 0 0) (.slice none 0 0) (.int .u32 0) (.int .u32 0) (.int .u64 0) (.int .u64 0) (.int .u64 0)
        have bf := b.trans (below_grown gs (by omega) k2.lt)
        obtain ⟨t0, t1, t2, t3, t4, t5, t6, t7, t8, t9, t10, t11⟩ := box12 kf
        clear kf gs b k2 kq
        go_wp2_with fail
        refine bodyPost_ret (v := .agg #[.int .i64 (o : Nat), .bool q, .bool f, .int .i64 4, .int .u32 (oq : Nat), .slice none 0 0, .slice none 0 0, .int .u32 0, .int .u32 0, .int .u64 0, .int .u64 0, .int .u64 0]) (by simp [results, Try.results90, go_sem, t0, t1, t2, t3, t4, t5, t6, t7, t8, t9, t10, t11]) rfl ?_
        exact ⟨_, _, _, _, _, _, rfl, Own.nil _ _, Own.nil _ _, bf⟩
set_option maxRecDepth 100000 in
set_option maxHeartbeats 4000000 in
theorem preq_v (mg op kl el ty st bl oq cas : Nat) (X K V : Option Addr) (nx cx nk ck nv cv : Nat) (lx lk lv : List UInt8) (w : World) (rX : Rd w w.heap.size X nx cx lx) (rK : Rd w w.heap.size K nk ck lk) (rV : Rd w w.heap.size V nv cv lv) (hop : op < 256) (o : Nat) (q f : Bool) (hr : rowOf op = some (o, q, f)) (sx : Nat) (sk sv : Bool) (hs : shapeOf (o : Int) = (sx, sk, sv)) (later : Bool) (hl : later = (decide (o = 8) && decide (nx = 4))) (hx : nx = sx ∨ later = true) (hk : decide ((0 : Int) < (nk : Int)) = sk) (hk2 : nk ≤ 250) (hv : 0 < nv) (hv1 : sv = false) :
    Calls Try.prog 90 #[frV mg op kl el ty st bl oq cas (.slice X nx cx) (.slice K nk ck) (.slice V nv cv)] w (ReqQ (o : Int) q f 4 oq [] [] 0 0 0 0 0 w) := by
  have HR := Lib.hid hr
  have HL := Lib.hid hl
  have HX := Lib.hid hx
  have HK := Lib.hid hk
  clear hr hl hx hk
  have ek2 : ((250 : Int) < (nk : Int)) = False := eq_false (by omega)
  have ek2' : (250 < nk) = False := eq_false (by omega)
  clear hk2
  have ev0 : ((0 : Int) < (nv : Int)) = True := eq_true (by omega)
  have ev0' : (0 < nv) = True := eq_true hv
  have HV1 := Lib.hid hv1
  clear hv hv1
  have k1 := (Blk.new w #[.int .u8 (mg : Nat), .int .u8 (op : Nat), .int .u16 (kl : Nat), .int .u8 (el : Nat), .int .u8 (ty : Nat), .int .u16 (st : Nat), .int .u32 (bl : Nat), .int .u32 (oq : Nat), .int .u64 (cas : Nat), .slice X nx cx, .slice K nk ck, .slice V nv cv] 61).alloc (.cells #[.int .i64 0, .bool false, .bool false, .int .i64 0, .int .u32 0, .slice none 0 0, .slice none 0 0, .int .u32 0, .int .u32 0, .int .u64 0, .int .u64 0, .int .u64 0] 26)
  have k2 := Blk.new (w.alloc (.cells #[.int .u8 (mg : Nat), .int .u8 (op : Nat), .int .u16 (kl : Nat), .int .u8 (el : Nat), .int .u8 (ty : Nat), .int .u16 (st : Nat), .int .u32 (bl : Nat), .int .u32 (oq : Nat), .int .u64 (cas : Nat), .slice X nx cx, .slice K nk ck, .slice V nv cv] 61)) #[.int .i64 0, .bool false, .bool false, .int .i64 0, .int .u32 0, .slice none 0 0, .slice none 0 0, .int .u32 0, .int .u32 0, .int .u64 0, .int .u64 0, .int .u64 0] 26
  have b := below_a1' (below_a1' (Below.refl w.heap.size w) (.cells #[.int .u8 (mg : Nat), .int .u8 (op : Nat), .int .u16 (kl : Nat), .int .u8 (el : Nat), .int .u8 (ty : Nat), .int .u16 (st : Nat), .int .u32 (bl : Nat), .int .u32 (oq : Nat), .int .u64 (cas : Nat), .slice X nx cx, .slice K nk ck, .slice V nv cv] 61)) (.cells #[.int .i64 0, .bool false, .bool false, .int .i64 0, .int .u32 0, .slice none 0 0, .slice none 0 0, .int .u32 0, .int .u32 0, .int .u64 0, .int .u64 0, .int .u64 0] 26)
  rw [World.size_alloc] at k2
  unfold frV frC
  go_enter Try.func90, Try.ntmps90
  go_upto_region 1 with fail
  generalize (w.alloc (.cells #[.int .u8 (mg : Nat), .int .u8 (op : Nat), .int .u16 (kl : Nat), .int .u8 (el : Nat), .int .u8 (ty : Nat), .int .u16 (st : Nat), .int .u32 (bl : Nat), .int .u32 (oq : Nat), .int .u64 (cas : Nat), .slice X nx cx, .slice K nk ck, .slice V nv cv] 61)).alloc (.cells #[.int .i64 0, .bool false, .bool false, .int .i64 0, .int .u32 0, .slice none 0 0, .slice none 0 0, .int .u32 0, .int .u32 0, .int .u64 0, .int .u64 0, .int .u64 0] 26) = W0 at k1 k2 b ⊢
  have ho : IntKind.i64.wrap ((op : Nat) : Int) = ((op : Nat) : Int) := wrap_small (by omega) (by omega)
  obtain ⟨p0, p1, p2, p3, p4, p5, p6, p7, p8, p9, p10, p11⟩ := box12 k1
  go_wp2_with fail
  refine (rows_any W0).mono ?_
  rintro e w1 ⟨m, rfl, hm, hge, b1⟩
  replace k1 := k1.step b1
  replace k2 := k2.step b1
  replace b := below_step b b1
  clear b1 ho p0 p1 p2 p3 p4 p5 p6 p7 p8 p9 p10 p11
  go_upto_region 3 with (refine wpl_lookYes _ rfl _ _ _ rfl Try.underlying137 m op rfl hm rfl o q f HR.out ?_)
  have hl2 := k2.lt
  have k4 := Blk.new w1 #[.int .i64 (o : Nat), .bool q, .bool f] 140
  have b4 := below_a1' (Below.refl w1.heap.size w1) (.cells #[.int .i64 (o : Nat), .bool q, .bool f] 140)
  replace k1 := k1.step b4
  replace k2 := k2.step b4
  replace b := below_step b b4
  clear hm hge b4
  have hg4 := k2.lt
  generalize hW : w1.alloc (.cells #[.int .i64 (o : Nat), .bool q, .bool f] 140) = W3 at k1 k2 k4 b hg4 ⊢
  have hs4 : w.heap.size + 2 ≤ w1.heap.size := hl2
  clear hW
  generalize w1.heap.size = g4 at k4 hs4 ⊢
  obtain ⟨p0, p1, p2, p3, p4, p5, p6, p7, p8, p9, p10, p11⟩ := box12 k1
  obtain ⟨x0, x1, x2⟩ := box3 k4
  go_upto_region 4 with fail
  have k6 := Blk.new W3 #[.int .i64 (o : Nat), .bool q, .bool f, .int .i64 0, .int .u32 (oq : Nat), .slice none 0 0, .slice none 0 0, .int .u32 0, .int .u32 0, .int .u64 0, .int .u64 0, .int .u64 0] 26
  have b4 := below_a1' (Below.refl W3.heap.size W3) (.cells #[.int .i64 (o : Nat), .bool q, .bool f, .int .i64 0, .int .u32 (oq : Nat), .slice none 0 0, .slice none 0 0, .int .u32 0, .int .u32 0, .int .u64 0, .int .u64 0, .int .u64 0] 26)
  replace k1 := k1.step b4
  replace k2 := k2.step b4
  have hg6 := k4.lt
  replace k4 := k4.step b4
  replace b := below_step b b4
  clear b4 p0 p1 p2 p3 p4 p5 p6 p7 p8 p9 p10 p11 x0 x1 x2
  generalize W3.alloc (.cells #[.int .i64 (o : Nat), .bool q, .bool f, .int .i64 0, .int .u32 (oq : Nat), .slice none 0 0, .slice none 0 0, .int .u32 0, .int .u32 0, .int .u64 0, .int .u64 0, .int .u64 0] 26) = W6 at k1 k2 k4 k6 b ⊢
  generalize W3.heap.size = g6 at k6 hg6 ⊢
  obtain ⟨p0, p1, p2, p3, p4, p5, p6, p7, p8, p9, p10, p11⟩ := box12 k1
  obtain ⟨x0, x1, x2⟩ := box3 k4
  have HS := Lib.hid (fun W => shaped_at hs W)
  go_wp2_with fail
  refine (HS.out _).mono ?_
  rintro e w7 ⟨rfl, b7⟩
  replace k1 := k1.step b7
  replace k2 := k2.step b7
  have hg4' := k4.lt
  replace k4 := k4.step b7
  replace k6 := k6.step b7
  replace b := below_step b b7
  clear b7 p0 p1 p2 p3 p4 p5 p6 p7 p8 p9 p10 p11 x0 x1 x2
  go_upto_region 8 with fail
  have k7 := Blk.new w7 #[.int .i64 (sx : Nat), .bool sk, .bool sv] 131
  have b4 := below_a1' (Below.refl w7.heap.size w7) (.cells #[.int .i64 (sx : Nat), .bool sk, .bool sv] 131)
  have hg7 := k6.lt
  replace k1 := k1.step b4
  replace k2 := k2.step b4
  replace k4 := k4.step b4
  replace k6 := k6.step b4
  replace b := below_step b b4
  clear b4
  generalize w7.alloc (.cells #[.int .i64 (sx : Nat), .bool sk, .bool sv] 131) = W8 at k1 k2 k4 k6 k7 b ⊢
  generalize w7.heap.size = g7 at k7 hg7 ⊢
  obtain ⟨p0, p1, p2, p3, p4, p5, p6, p7, p8, p9, p10, p11⟩ := box12 k1
  obtain ⟨x0, x1, x2⟩ := box3 k4
  obtain ⟨s0, s1, s2⟩ := box3 k7
  go_cut [8] (fun s8 wx => s8 = .bool later ∧ W8 = wx)
  case first =>
    by_cases h8 : o = 8
    · subst h8
      by_cases h4 : nx = 4
      · have HL2 : Hid (later = true) := Lib.hid (by rw [HL.out, h4]; rfl)
        have e4 : ((nx : Int) == 4) = true := beq_iff_eq.2 (by omega)
        clear h4
        go_wp2_with fail
        go_meet
        exact ⟨by rw [HL2.out], rfl⟩
      · have HL2 : Hid (later = false) := Lib.hid (by rw [HL.out, decide_eq_false h4]; rfl)
        have e4 : ((nx : Int) == 4) = false := beq_eq_false_iff_ne.2 (by omega)
        clear h4
        go_wp2_with fail
        go_meet
        exact ⟨by rw [HL2.out], rfl⟩
    · have HL2 : Hid (later = false) := Lib.hid (by rw [HL.out, decide_eq_false h8]; rfl)
      have e8 : ((o : Int) == 8) = false := beq_eq_false_iff_ne.2 (by omega)
      clear h8
      go_wp2_with fail
      go_meet
      exact ⟨by rw [HL2.out], rfl⟩
  case rest =>
    obtain ⟨rfl, rfl⟩ := hcut
    go_upto_region 9 with fail
    go_cut [48] (fun s48 wx => s48 = .bool false ∧ W8 = wx)
    case first =>
      cases hlt : later with
      | true =>
        subst hlt
        by_cases hn : nx = sx
        · have e9 : ((nx : Int) != (sx : Int)) = false := bne_eq_false_iff_eq.2 (by omega)
          clear hn
          go_wp2_with fail
          go_meet
          exact ⟨rfl, rfl⟩
        · have e9 : ((nx : Int) != (sx : Int)) = true := bne_iff_ne.2 (by omega)
          clear hn
          go_wp2_with fail
          go_meet
          exact ⟨rfl, rfl⟩
      | false =>
        subst hlt
        have e9 : ((nx : Int) != (sx : Int)) = false := bne_eq_false_iff_eq.2 (by rcases HX.out with h | h; omega; cases h)
        go_wp2_with fail
        go_meet
        exact ⟨rfl, rfl⟩
    case rest =>
      obtain ⟨rfl, rfl⟩ := hcut
      go_upto_region 10 with fail
      go_cut [48] (fun s48 wx => s48 = .bool false ∧ W8 = wx)
      case first =>
        by_cases h0 : (0 : Int) < (nk : Int)
        · have ev : ((0 : Int) < (nk : Int)) = True := eq_true h0
          have ev' : (0 < nk) = True := eq_true (by omega)
          obtain rfl : true = sk := by rw [← HK.out, decide_eq_true h0]
          clear h0
          go_wp2_with fail
          go_meet
          exact ⟨rfl, rfl⟩
        · have ev : ((0 : Int) < (nk : Int)) = False := eq_false h0
          have ev' : (0 < nk) = False := eq_false (by omega)
          obtain rfl : false = sk := by rw [← HK.out, decide_eq_false h0]
          clear h0
          go_wp2_with fail
          go_meet
          exact ⟨rfl, rfl⟩
      case rest =>
        obtain ⟨rfl, rfl⟩ := hcut
        obtain rfl : sv = false := HV1.out
        have y3 := k6.frozen 3
        obtain ⟨z0, z1, z2, z3, z4, z5, z6, z7, z8, z9, z10, z11⟩ := box12 k6
        go_upto_region 14 with fail
        have gq := rdr_grown_set W8 g6 3 (.int .i64 4)
        replace k2 := k2.leftC gq (by omega)
        replace b := b.trans (below_grown gq (by omega) k6.lt)
        have kq : Blk (W8.setCell ⟨g6, 3, none⟩ (.int .i64 4)) g6 #[.int .i64 (o : Nat), .bool q, .bool f, .int .i64 4, .int .u32 (oq : Nat), .slice none 0 0, .slice none 0 0, .int .u32 0, .int .u32 0, .int .u64 0, .int .u64 0, .int .u64 0] 26 := k6.set_ 3 _
        clear k1 k4 k6 k7 gq y3 z0 z1 z2 z3 z4 z5 z6 z7 z8 z9 z10 z11 p0 p1 p2 p3 p4 p5 p6 p7 p8 p9 p10 p11 x0 x1 x2 s0 s1 s2
        generalize W8.setCell ⟨g6, 3, none⟩ (.int .i64 4) = W9 at kq k2 b ⊢
        obtain ⟨z0, z1, z2, z3, z4, z5, z6, z7, z8, z9, z10, z11⟩ := box12 kq
        obtain ⟨u0, u1, u2, u3, u4, u5, u6, u7, u8, u9, u10, u11⟩ := box12 k2
        have y0 := k2.frozen 0
        have y1 := k2.frozen 1
        have y2 := k2.frozen 2
        have y3 := k2.frozen 3
        have y4 := k2.frozen 4
        have y5 := k2.frozen 5
        have y6 := k2.frozen 6
        have y7 := k2.frozen 7
        have y8 := k2.frozen 8
        have y9 := k2.frozen 9
        have y10 := k2.frozen 10
        have y11 := k2.frozen 11
        have kf := blk_set12 k2 (.int .i64 (o : Nat)) (.bool q) (.bool f) (.int .i64 4) (.int .u32 (oq : Nat)) (.slice none 0 0) (.slice none 0 0) (.int .u32 0) (.int .u32 0) (.int .u64 0) (.int .u64 0) (.int .u64 0)
        have gs := grown_set12 W9 (w.heap.size + 1) (.int .i64 (o : Nat)) (.bool q) (.bool f) (.int .i64 4) (.int .u32 (oq : Nat)) (.slice none 0 0) (.slice none 0 0) (.int .u32 0) (.int .u32 0) (.int .u64 0) (.int .u64 0) (.int .u64 0)
        have bf := b.trans (below_grown gs (by omega) k2.lt)
        obtain ⟨t0, t1, t2, t3, t4, t5, t6, t7, t8, t9, t10, t11⟩ := box12 kf
        clear kf gs b k2 kq
        go_wp2_with fail
        refine bodyPost_ret (v := .agg #[.int .i64 (o : Nat), .bool q, .bool f, .int .i64 4, .int .u32 (oq : Nat), .slice none 0 0, .slice none 0 0, .int .u32 0, .int .u32 0, .int .u64 0, .int .u64 0, .int .u64 0]) (by simp [results, Try.results90, go_sem, t0, t1, t2, t3, t4, t5, t6, t7, t8, t9, t10, t11]) rfl ?_
        exact ⟨_, _, _, _, _, _, rfl, Own.nil _ _, Own.nil _ _, bf⟩
set_option maxRecDepth 100000 in
set_option maxHeartbeats 4000000 in
theorem preq_b (mg op kl el ty st bl oq cas : Nat) (X K V : Option Addr) (nx cx nk ck nv cv : Nat) (lx lk lv : List UInt8) (w : World) (rX : Rd w w.heap.size X nx cx lx) (rK : Rd w w.heap.size K nk ck lk) (rV : Rd w w.heap.size V nv cv lv) (hop : op < 256) (o : Nat) (q f : Bool) (hr : rowOf op = some (o, q, f)) (sx : Nat) (sk sv : Bool) (hs : shapeOf (o : Int) = (sx, sk, sv)) (later : Bool) (hl : later = (decide (o = 8) && decide (nx = 4))) (hx : nx = sx ∨ later = true) (hk : decide ((0 : Int) < (nk : Int)) = sk) (hk2 : nk ≤ 250) (hv : 0 < nv → sv = true) (hv2 : 512 < nv) :
    Calls Try.prog 90 #[frV mg op kl el ty st bl oq cas (.slice X nx cx) (.slice K nk ck) (.slice V nv cv)] w (ReqQ (o : Int) q f 3 oq [] [] 0 0 0 0 0 w) := by
  have HR := Lib.hid hr
  have HL := Lib.hid hl
  have HX := Lib.hid hx
  have HK := Lib.hid hk
  have HV := Lib.hid hv
  clear hr hl hx hk hv
  have ek2 : ((250 : Int) < (nk : Int)) = False := eq_false (by omega)
  have ek2' : (250 < nk) = False := eq_false (by omega)
  clear hk2
  have ev2 : ((512 : Int) < (nv : Int)) = True := eq_true (by omega)
  have ev2' : (512 < nv) = True := eq_true hv2
  clear hv2
  have k1 := (Blk.new w #[.int .u8 (mg : Nat), .int .u8 (op : Nat), .int .u16 (kl : Nat), .int .u8 (el : Nat), .int .u8 (ty : Nat), .int .u16 (st : Nat), .int .u32 (bl : Nat), .int .u32 (oq : Nat), .int .u64 (cas : Nat), .slice X nx cx, .slice K nk ck, .slice V nv cv] 61).alloc (.cells #[.int .i64 0, .bool false, .bool false, .int .i64 0, .int .u32 0, .slice none 0 0, .slice none 0 0, .int .u32 0, .int .u32 0, .int .u64 0, .int .u64 0, .int .u64 0] 26)
  have k2 := Blk.new (w.alloc (.cells #[.int .u8 (mg : Nat), .int .u8 (op : Nat), .int .u16 (kl : Nat), .int .u8 (el : Nat), .int .u8 (ty : Nat), .int .u16 (st : Nat), .int .u32 (bl : Nat), .int .u32 (oq : Nat), .int .u64 (cas : Nat), .slice X nx cx, .slice K nk ck, .slice V nv cv] 61)) #[.int .i64 0, .bool false, .bool false, .int .i64 0, .int .u32 0, .slice none 0 0, .slice none 0 0, .int .u32 0, .int .u32 0, .int .u64 0, .int .u64 0, .int .u64 0] 26
  have b := below_a1' (below_a1' (Below.refl w.heap.size w) (.cells #[.int .u8 (mg : Nat), .int .u8 (op : Nat), .int .u16 (kl : Nat), .int .u8 (el : Nat), .int .u8 (ty : Nat), .int .u16 (st : Nat), .int .u32 (bl : Nat), .int .u32 (oq : Nat), .int .u64 (cas : Nat), .slice X nx cx, .slice K nk ck, .slice V nv cv] 61)) (.cells #[.int .i64 0, .bool false, .bool false, .int .i64 0, .int .u32 0, .slice none 0 0, .slice none 0 0, .int .u32 0, .int .u32 0, .int .u64 0, .int .u64 0, .int .u64 0] 26)
  rw [World.size_alloc] at k2
  unfold frV frC
  go_enter Try.func90, Try.ntmps90
  go_upto_region 1 with fail
  generalize (w.alloc (.cells #[.int .u8 (mg : Nat), .int .u8 (op : Nat), .int .u16 (kl : Nat), .int .u8 (el : Nat), .int .u8 (ty : Nat), .int .u16 (st : Nat), .int .u32 (bl : Nat), .int .u32 (oq : Nat), .int .u64 (cas : Nat), .slice X nx cx, .slice K nk ck, .slice V nv cv] 61)).alloc (.cells #[.int .i64 0, .bool false, .bool false, .int .i64 0, .int .u32 0, .slice none 0 0, .slice none 0 0, .int .u32 0, .int .u32 0, .int .u64 0, .int .u64 0, .int .u64 0] 26) = W0 at k1 k2 b ⊢
  have ho : IntKind.i64.wrap ((op : Nat) : Int) = ((op : Nat) : Int) := wrap_small (by omega) (by omega)
  obtain ⟨p0, p1, p2, p3, p4, p5, p6, p7, p8, p9, p10, p11⟩ := box12 k1
  go_wp2_with fail
  refine (rows_any W0).mono ?_
  rintro e w1 ⟨m, rfl, hm, hge, b1⟩
  replace k1 := k1.step b1
  replace k2 := k2.step b1
  replace b := below_step b b1
  clear b1 ho p0 p1 p2 p3 p4 p5 p6 p7 p8 p9 p10 p11
  go_upto_region 3 with (refine wpl_lookYes _ rfl _ _ _ rfl Try.underlying137 m op rfl hm rfl o q f HR.out ?_)
  have hl2 := k2.lt
  have k4 := Blk.new w1 #[.int .i64 (o : Nat), .bool q, .bool f] 140
  have b4 := below_a1' (Below.refl w1.heap.size w1) (.cells #[.int .i64 (o : Nat), .bool q, .bool f] 140)
  replace k1 := k1.step b4
  replace k2 := k2.step b4
  replace b := below_step b b4
  clear hm hge b4
  have hg4 := k2.lt
  generalize hW : w1.alloc (.cells #[.int .i64 (o : Nat), .bool q, .bool f] 140) = W3 at k1 k2 k4 b hg4 ⊢
  have hs4 : w.heap.size + 2 ≤ w1.heap.size := hl2
  clear hW
  generalize w1.heap.size = g4 at k4 hs4 ⊢
  obtain ⟨p0, p1, p2, p3, p4, p5, p6, p7, p8, p9, p10, p11⟩ := box12 k1
  obtain ⟨x0, x1, x2⟩ := box3 k4
  go_upto_region 4 with fail
  have k6 := Blk.new W3 #[.int .i64 (o : Nat), .bool q, .bool f, .int .i64 0, .int .u32 (oq : Nat), .slice none 0 0, .slice none 0 0, .int .u32 0, .int .u32 0, .int .u64 0, .int .u64 0, .int .u64 0] 26
  have b4 := below_a1' (Below.refl W3.heap.size W3) (.cells #[.int .i64 (o : Nat), .bool q, .bool f, .int .i64 0, .int .u32 (oq : Nat), .slice none 0 0, .slice none 0 0, .int .u32 0, .int .u32 0, .int .u64 0, .int .u64 0, .int .u64 0] 26)
  replace k1 := k1.step b4
  replace k2 := k2.step b4
  have hg6 := k4.lt
  replace k4 := k4.step b4
  replace b := below_step b b4
  clear b4 p0 p1 p2 p3 p4 p5 p6 p7 p8 p9 p10 p11 x0 x1 x2
  generalize W3.alloc (.cells #[.int .i64 (o : Nat), .bool q, .bool f, .int .i64 0, .int .u32 (oq : Nat), .slice none 0 0, .slice none 0 0, .int .u32 0, .int .u32 0, .int .u64 0, .int .u64 0, .int .u64 0] 26) = W6 at k1 k2 k4 k6 b ⊢
  generalize W3.heap.size = g6 at k6 hg6 ⊢
  obtain ⟨p0, p1, p2, p3, p4, p5, p6, p7, p8, p9, p10, p11⟩ := box12 k1
  obtain ⟨x0, x1, x2⟩ := box3 k4
  have HS := Lib.hid (fun W => shaped_at hs W)
  go_wp2_with fail
  refine (HS.out _).mono ?_
  rintro e w7 ⟨rfl, b7⟩
  replace k1 := k1.step b7
  replace k2 := k2.step b7
  have hg4' := k4.lt
  replace k4 := k4.step b7
  replace k6 := k6.step b7
  replace b := below_step b b7
  clear b7 p0 p1 p2 p3 p4 p5 p6 p7 p8 p9 p10 p11 x0 x1 x2
  go_upto_region 8 with fail
  have k7 := Blk.new w7 #[.int .i64 (sx : Nat), .bool sk, .bool sv] 131
  have b4 := below_a1' (Below.refl w7.heap.size w7) (.cells #[.int .i64 (sx : Nat), .bool sk, .bool sv] 131)
  have hg7 := k6.lt
  replace k1 := k1.step b4
  replace k2 := k2.step b4
  replace k4 := k4.step b4
  replace k6 := k6.step b4
  replace b := below_step b b4
  clear b4
  generalize w7.alloc (.cells #[.int .i64 (sx : Nat), .bool sk, .bool sv] 131) = W8 at k1 k2 k4 k6 k7 b ⊢
  generalize w7.heap.size = g7 at k7 hg7 ⊢
  obtain ⟨p0, p1, p2, p3, p4, p5, p6, p7, p8, p9, p10, p11⟩ := box12 k1
  obtain ⟨x0, x1, x2⟩ := box3 k4
  obtain ⟨s0, s1, s2⟩ := box3 k7
  go_cut [8] (fun s8 wx => s8 = .bool later ∧ W8 = wx)
  case first =>
    by_cases h8 : o = 8
    · subst h8
      by_cases h4 : nx = 4
      · have HL2 : Hid (later = true) := Lib.hid (by rw [HL.out, h4]; rfl)
        have e4 : ((nx : Int) == 4) = true := beq_iff_eq.2 (by omega)
        clear h4
        go_wp2_with fail
        go_meet
        exact ⟨by rw [HL2.out], rfl⟩
      · have HL2 : Hid (later = false) := Lib.hid (by rw [HL.out, decide_eq_false h4]; rfl)
        have e4 : ((nx : Int) == 4) = false := beq_eq_false_iff_ne.2 (by omega)
        clear h4
        go_wp2_with fail
        go_meet
        exact ⟨by rw [HL2.out], rfl⟩
    · have HL2 : Hid (later = false) := Lib.hid (by rw [HL.out, decide_eq_false h8]; rfl)
      have e8 : ((o : Int) == 8) = false := beq_eq_false_iff_ne.2 (by omega)
      clear h8
      go_wp2_with fail
      go_meet
      exact ⟨by rw [HL2.out], rfl⟩
  case rest =>
    obtain ⟨rfl, rfl⟩ := hcut
    go_upto_region 9 with fail
    go_cut [48] (fun s48 wx => s48 = .bool false ∧ W8 = wx)
    case first =>
      cases hlt : later with
      | true =>
        subst hlt
        by_cases hn : nx = sx
        · have e9 : ((nx : Int) != (sx : Int)) = false := bne_eq_false_iff_eq.2 (by omega)
          clear hn
          go_wp2_with fail
          go_meet
          exact ⟨rfl, rfl⟩
        · have e9 : ((nx : Int) != (sx : Int)) = true := bne_iff_ne.2 (by omega)
          clear hn
          go_wp2_with fail
          go_meet
          exact ⟨rfl, rfl⟩
      | false =>
        subst hlt
        have e9 : ((nx : Int) != (sx : Int)) = false := bne_eq_false_iff_eq.2 (by rcases HX.out with h | h; omega; cases h)
        go_wp2_with fail
        go_meet
        exact ⟨rfl, rfl⟩
    case rest =>
      obtain ⟨rfl, rfl⟩ := hcut
      go_upto_region 10 with fail
      go_cut [48] (fun s48 wx => s48 = .bool false ∧ W8 = wx)
      case first =>
        by_cases h0 : (0 : Int) < (nk : Int)
        · have ev : ((0 : Int) < (nk : Int)) = True := eq_true h0
          have ev' : (0 < nk) = True := eq_true (by omega)
          obtain rfl : true = sk := by rw [← HK.out, decide_eq_true h0]
          clear h0
          go_wp2_with fail
          go_meet
          exact ⟨rfl, rfl⟩
        · have ev : ((0 : Int) < (nk : Int)) = False := eq_false h0
          have ev' : (0 < nk) = False := eq_false (by omega)
          obtain rfl : false = sk := by rw [← HK.out, decide_eq_false h0]
          clear h0
          go_wp2_with fail
          go_meet
          exact ⟨rfl, rfl⟩
      case rest =>
        obtain ⟨rfl, rfl⟩ := hcut
        go_upto_region 12 with fail
        go_cut [48] (fun s48 wx => s48 = .bool false ∧ W8 = wx)
        case first =>
          by_cases h0 : (0 : Int) < (nv : Int)
          · have ev : ((0 : Int) < (nv : Int)) = True := eq_true h0
            have ev' : (0 < nv) = True := eq_true (by omega)
            obtain rfl : sv = true := HV.out (by omega)
            clear h0
            go_wp2_with fail
            go_meet
            exact ⟨rfl, rfl⟩
          · have ev : ((0 : Int) < (nv : Int)) = False := eq_false h0
            have ev' : (0 < nv) = False := eq_false (by omega)
            clear h0
            go_wp2_with fail
            go_meet
            exact ⟨rfl, rfl⟩
        case rest =>
          obtain ⟨rfl, rfl⟩ := hcut
          have y3 := k6.frozen 3
          obtain ⟨z0, z1, z2, z3, z4, z5, z6, z7, z8, z9, z10, z11⟩ := box12 k6
          go_upto_region 17 with fail
          have gq := rdr_grown_set W8 g6 3 (.int .i64 3)
          replace k2 := k2.leftC gq (by omega)
          replace b := b.trans (below_grown gq (by omega) k6.lt)
          have kq : Blk (W8.setCell ⟨g6, 3, none⟩ (.int .i64 3)) g6 #[.int .i64 (o : Nat), .bool q, .bool f, .int .i64 3, .int .u32 (oq : Nat), .slice none 0 0, .slice none 0 0, .int .u32 0, .int .u32 0, .int .u64 0, .int .u64 0, .int .u64 0] 26 := k6.set_ 3 _
          clear k1 k4 k6 k7 gq y3 z0 z1 z2 z3 z4 z5 z6 z7 z8 z9 z10 z11 p0 p1 p2 p3 p4 p5 p6 p7 p8 p9 p10 p11 x0 x1 x2 s0 s1 s2
          generalize W8.setCell ⟨g6, 3, none⟩ (.int .i64 3) = W9 at kq k2 b ⊢
          obtain ⟨z0, z1, z2, z3, z4, z5, z6, z7, z8, z9, z10, z11⟩ := box12 kq
          obtain ⟨u0, u1, u2, u3, u4, u5, u6, u7, u8, u9, u10, u11⟩ := box12 k2
          have y0 := k2.frozen 0
          have y1 := k2.frozen 1
          have y2 := k2.frozen 2
          have y3 := k2.frozen 3
          have y4 := k2.frozen 4
          have y5 := k2.frozen 5
          have y6 := k2.frozen 6
          have y7 := k2.frozen 7
          have y8 := k2.frozen 8
          have y9 := k2.frozen 9
          have y10 := k2.frozen 10
          have y11 := k2.frozen 11
          have kf := blk_set12 k2 (.int .i64 (o : Nat)) (.bool q) (.bool f) (.int .i64 3) (.int .u32 (oq : Nat)) (.slice none 0 0) (.slice none 0 0) (.int .u32 0) (.int .u32 0) (.int .u64 0) (.int .u64 0) (.int .u64 0)
          have gs := grown_set12 W9 (w.heap.size + 1) (.int .i64 (o : Nat)) (.bool q) (.bool f) (.int .i64 3) (.int .u32 (oq : Nat)) (.slice none 0 0) (.slice none 0 0) (.int .u32 0) (.int .u32 0) (.int .u64 0) (.int .u64 0) (.int .u64 0)
          have bf := b.trans (below_grown gs (by omega) k2.lt)
          obtain ⟨t0, t1, t2, t3, t4, t5, t6, t7, t8, t9, t10, t11⟩ := box12 kf
          clear kf gs b k2 kq
          go_wp2_with fail
          refine bodyPost_ret (v := .agg #[.int .i64 (o : Nat), .bool q, .bool f, .int .i64 3, .int .u32 (oq : Nat), .slice none 0 0, .slice none 0 0, .int .u32 0, .int .u32 0, .int .u64 0, .int .u64 0, .int .u64 0]) (by simp [results, Try.results90, go_sem, t0, t1, t2, t3, t4, t5, t6, t7, t8, t9, t10, t11]) rfl ?_
          exact ⟨_, _, _, _, _, _, rfl, Own.nil _ _, Own.nil _ _, bf⟩
end Go.Proofs.Ytnghmgbmflcngaa

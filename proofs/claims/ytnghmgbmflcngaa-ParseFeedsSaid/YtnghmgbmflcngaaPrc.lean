/- parse.request. Conditions: typed in each theorem. -/
import Derived.Test.YtnghmgbmflcngaaPra
import Derived.Test.YtnghmgbmflcngaaFre
import Derived.Test.YtnghmgbmflcngaaHold
import Derived.Test.YtnghmgbmflcngaaFld
import Derived.Deep.DeepCutAuto
namespace Go.Proofs.Ytnghmgbmflcngaa
set_option linter.unusedVariables false
open Go.RowKit

theorem wrap_small {z : Int} (h0 : -9223372036854775808 ≤ z) (h1 : z < 9223372036854775808) : IntKind.i64.wrap z = z := IntWalk.i64_in _ (by omega)
/-- What a request is told as: its lists of the call's own. -/
def ReqQ (op : Int) (qt fu : Bool) (bad : Int) (oq : Nat) (lk lv : List UInt8) (fl ex cs dl ini : Nat) (w : World) (e : Ending) (w' : World) : Prop :=
  ∃ (K V : Option Addr) (nk ck nv cv : Nat), e = .returned (reqV op qt fu bad oq (.slice K nk ck) (.slice V nv cv) fl ex cs dl ini) ∧ Own w' w.heap.size K nk ck lk ∧ Own w' w.heap.size V nv cv lv ∧ Below w.heap.size w w'
/-- The numbers of a request's extras. -/
def flOf (n : Nat) (l : List UInt8) : Nat := if n = 8 then fld l 0 4 else 0
def exOf (n : Nat) (l : List UInt8) : Nat := if n = 4 then fld l 0 4 else if n = 8 then fld l 4 4 else if n = 20 then fld l 16 4 else 0
def dlOf (n : Nat) (l : List UInt8) : Nat := if n = 20 then fld l 0 8 else 0
def niOf (n : Nat) (l : List UInt8) : Nat := if n = 20 then fld l 8 8 else 0
theorem shaped_at {o : Int} {sx : Nat} {sk sv : Bool} (hs : shapeOf o = (sx, sk, sv)) (w : World) : Calls Try.prog 85 #[.int .i64 o] w (BoxQ' (.agg #[.int .i64 (sx : Nat), .bool sk, .bool sv]) w) := by
  have h := shaped_any o w
  unfold shapeV at h
  rw [hs] at h
  exact h
set_option maxRecDepth 100000 in
set_option maxHeartbeats 4000000 in
theorem preq_unk (mg op kl el ty st bl oq cas : Nat) (X K V : Option Addr) (nx cx nk ck nv cv : Nat) (lx lk lv : List UInt8) (w : World) (rX : Rd w w.heap.size X nx cx lx) (rK : Rd w w.heap.size K nk ck lk) (rV : Rd w w.heap.size V nv cv lv) (hop : op < 256) (hr : rowOf op = none) :
    Calls Try.prog 90 #[frV mg op kl el ty st bl oq cas (.slice X nx cx) (.slice K nk ck) (.slice V nv cv)] w (ReqQ (op : Int) false false 129 oq [] [] 0 0 0 0 0 w) := by
  have HR := Lib.hid hr
  clear hr
  have k1 := (Blk.new w #[.int .u8 (mg : Nat), .int .u8 (op : Nat), .int .u16 (kl : Nat), .int .u8 (el : Nat), .int .u8 (ty : Nat), .int .u16 (st : Nat), .int .u32 (bl : Nat), .int .u32 (oq : Nat), .int .u64 (cas : Nat), .slice X nx cx, .slice K nk ck, .slice V nv cv] 61).alloc (.cells #[.int .i64 0, .bool false, .bool false, .int .i64 0, .int .u32 0, .slice none 0 0, .slice none 0 0, .int .u32 0, .int .u32 0, .int .u64 0, .int .u64 0, .int .u64 0] 26)
  have k2 := Blk.new (w.alloc (.cells #[.int .u8 (mg : Nat), .int .u8 (op : Nat), .int .u16 (kl : Nat), .int .u8 (el : Nat), .int .u8 (ty : Nat), .int .u16 (st : Nat), .int .u32 (bl : Nat), .int .u32 (oq : Nat), .int .u64 (cas : Nat), .slice X nx cx, .slice K nk ck, .slice V nv cv] 61)) #[.int .i64 0, .bool false, .bool false, .int .i64 0, .int .u32 0, .slice none 0 0, .slice none 0 0, .int .u32 0, .int .u32 0, .int .u64 0, .int .u64 0, .int .u64 0] 26
  have b := below_a1' (below_a1' (Below.refl w.heap.size w) (.cells #[.int .u8 (mg : Nat), .int .u8 (op : Nat), .int .u16 (kl : Nat), .int .u8 (el : Nat), .int .u8 (ty : Nat), .int .u16 (st : Nat), .int .u32 (bl : Nat), .int .u32 (oq : Nat), .int .u64 (cas : Nat), .slice X nx cx, .slice K nk ck, .slice V nv cv] 61)) (.cells #[.int .i64 0, .bool false, .bool false, .int .i64 0, .int .u32 0, .slice none 0 0, .slice none 0 0, .int .u32 0, .int .u32 0, .int .u64 0, .int .u64 0, .int .u64 0] 26)
  rw [World.size_alloc] at k2
  unfold frV frC
  go_enter Try.func90, Try.ntmps90
  go_upto_region 1 with fail
  generalize (w.alloc (.cells #[.int .u8 (mg : Nat), .int .u8 (op : Nat), .int .u16 (kl : Nat), .int .u8 (el : Nat), .int .u8 (ty : Nat), .int .u16 (st : Nat), .int .u32 (bl : Nat), .int .u32 (oq : Nat), .int .u64 (cas : Nat), .slice X nx cx, .slice K nk ck, .slice V nv cv] 61)).alloc (.cells #[.int .i64 0, .bool false, .bool false, .int .i64 0, .int .u32 0, .slice none 0 0, .slice none 0 0, .int .u32 0, .int .u32 0, .int .u64 0, .int .u64 0, .int .u64 0] 26) = W0 at k1 k2 b ⊢
  have ho : IntKind.i64.wrap ((op : Nat) : Int) = ((op : Nat) : Int) := wrap_small (by omega) (by omega)
  obtain ⟨p0, p1, p2, p3, p4, p5, p6, p7, p8, p9, p10, p11⟩ := box12 k1
  go_wp2_with fail
  refine (rows_any W0).mono ?_
  rintro e w1 ⟨m, rfl, hm, hge, b1⟩
  replace k1 := k1.step b1
  replace k2 := k2.step b1
  replace b := below_step b b1
  clear b1 ho p0 p1 p2 p3 p4 p5 p6 p7 p8 p9 p10 p11
  go_upto_region 3 with (refine wpl_lookNo _ rfl _ _ _ rfl Try.underlying137 m op rfl hm rfl HR.out ?_)
  have hl2 := k2.lt
  have k4 := Blk.new w1 #[.int .i64 0, .bool false, .bool false] 140
  have b4 := below_a1' (Below.refl w1.heap.size w1) (.cells #[.int .i64 0, .bool false, .bool false] 140)
  replace k1 := k1.step b4
  replace k2 := k2.step b4
  replace b := below_step b b4
  clear hm hge b4
  have hg4 := k2.lt
  generalize hW : w1.alloc (.cells #[.int .i64 0, .bool false, .bool false] 140) = W3 at k1 k2 k4 b hg4 ⊢
  have hs4 : w.heap.size + 2 ≤ w1.heap.size := hl2
  clear hW
  generalize w1.heap.size = g4 at k4 hs4 ⊢
  obtain ⟨p0, p1, p2, p3, p4, p5, p6, p7, p8, p9, p10, p11⟩ := box12 k1
  obtain ⟨x0, x1, x2⟩ := box3 k4
  go_upto_region 4 with fail
  have k6 := Blk.new W3 #[.int .i64 0, .bool false, .bool false, .int .i64 0, .int .u32 (oq : Nat), .slice none 0 0, .slice none 0 0, .int .u32 0, .int .u32 0, .int .u64 0, .int .u64 0, .int .u64 0] 26
  have b4 := below_a1' (Below.refl W3.heap.size W3) (.cells #[.int .i64 0, .bool false, .bool false, .int .i64 0, .int .u32 (oq : Nat), .slice none 0 0, .slice none 0 0, .int .u32 0, .int .u32 0, .int .u64 0, .int .u64 0, .int .u64 0] 26)
  replace k1 := k1.step b4
  replace k2 := k2.step b4
  have hg6 := k4.lt
  replace k4 := k4.step b4
  replace b := below_step b b4
  clear b4 p0 p1 p2 p3 p4 p5 p6 p7 p8 p9 p10 p11 x0 x1 x2
  generalize W3.alloc (.cells #[.int .i64 0, .bool false, .bool false, .int .i64 0, .int .u32 (oq : Nat), .slice none 0 0, .slice none 0 0, .int .u32 0, .int .u32 0, .int .u64 0, .int .u64 0, .int .u64 0] 26) = W6 at k1 k2 k4 k6 b ⊢
  generalize W3.heap.size = g6 at k6 hg6 ⊢
  obtain ⟨p0, p1, p2, p3, p4, p5, p6, p7, p8, p9, p10, p11⟩ := box12 k1
  obtain ⟨x0, x1, x2⟩ := box3 k4
  have y0 := k6.frozen 0
  have y3 := k6.frozen 3
  obtain ⟨z0, z1, z2, z3, z4, z5, z6, z7, z8, z9, z10, z11⟩ := box12 k6
  go_upto_region 6 with fail
  have kq : Blk ((W6.setCell ⟨g6, 0, none⟩ (.int .i64 (op : Nat))).setCell ⟨g6, 3, none⟩ (.int .i64 129)) g6 #[.int .i64 (op : Nat), .bool false, .bool false, .int .i64 129, .int .u32 (oq : Nat), .slice none 0 0, .slice none 0 0, .int .u32 0, .int .u32 0, .int .u64 0, .int .u64 0, .int .u64 0] 26 := (k6.set_ 0 _).set_ 3 _
  have gq := grown_trans (rdr_grown_set W6 g6 0 (.int .i64 (op : Nat))) (rdr_grown_set _ g6 3 (.int .i64 129))
  replace k2 := k2.leftC gq (by omega)
  replace b := b.trans (below_grown gq (by omega) k6.lt)
  clear y0 y3 z0 z1 z2 z3 z4 z5 z6 z7 z8 z9 z10 z11 gq k6 p0 p1 p2 p3 p4 p5 p6 p7 p8 p9 p10 p11 x0 x1 x2
  generalize (W6.setCell ⟨g6, 0, none⟩ (.int .i64 (op : Nat))).setCell ⟨g6, 3, none⟩ (.int .i64 129) = W7 at kq k2 b ⊢
  obtain ⟨z0, z1, z2, z3, z4, z5, z6, z7, z8, z9, z10, z11⟩ := box12 kq
  obtain ⟨u0, u1, u2, u3, u4, u5, u6, u7, u8, u9, u10, u11⟩ := box12 k2
  have y0 := k2.frozen 0
  have y1 := k2.frozen 1
  have y2 := k2.frozen 2
  have y3 := k2.frozen 3
  have y4 := k2.frozen 4
  have y5 := k2.frozen 5
  have y6 := k2.frozen 6
  have y7 := k2.frozen 7
  have y8 := k2.frozen 8
  have y9 := k2.frozen 9
  have y10 := k2.frozen 10
  have y11 := k2.frozen 11
  have kf := blk_set12 k2 (.int .i64 (op : Nat)) (.bool false) (.bool false) (.int .i64 129) (.int .u32 (oq : Nat)) (.slice none 0 0) (.slice none 0 0) (.int .u32 0) (.int .u32 0) (.int .u64 0) (.int .u64 0) (.int .u64 0)
  have gs := grown_set12 W7 (w.heap.size + 1) (.int .i64 (op : Nat)) (.bool false) (.bool false) (.int .i64 129) (.int .u32 (oq : Nat)) (.slice none 0 0) (.slice none 0 0) (.int .u32 0) (.int .u32 0) (.int .u64 0) (.int .u64 0) (.int .u64 0)
  have bf := b.trans (below_grown gs (by omega) k2.lt)
  obtain ⟨t0, t1, t2, t3, t4, t5, t6, t7, t8, t9, t10, t11⟩ := box12 kf
  clear kf gs b k1 k2 kq
  go_wp2_with fail
  refine bodyPost_ret (v := .agg #[.int .i64 (op : Nat), .bool false, .bool false, .int .i64 129, .int .u32 (oq : Nat), .slice none 0 0, .slice none 0 0, .int .u32 0, .int .u32 0, .int .u64 0, .int .u64 0, .int .u64 0]) (by simp [results, Try.results90, go_sem, t0, t1, t2, t3, t4, t5, t6, t7, t8, t9, t10, t11]) rfl ?_
  exact ⟨_, _, _, _, _, _, rfl, Own.nil _ _, Own.nil _ _, bf⟩
set_option maxRecDepth 100000 in
set_option maxHeartbeats 4000000 in
theorem preq_good (mg op kl el ty st bl oq cas : Nat) (X K V : Option Addr) (nx cx nk ck nv cv : Nat) (lx lk lv : List UInt8) (w : World) (rX : Rd w w.heap.size X nx cx lx) (rK : Rd w w.heap.size K nk ck lk) (rV : Rd w w.heap.size V nv cv lv) (hop : op < 256) (o : Nat) (q f : Bool) (hr : rowOf op = some (o, q, f)) (sx : Nat) (sk sv : Bool) (hs : shapeOf (o : Int) = (sx, sk, sv)) (later : Bool) (hl : later = (decide (o = 8) && decide (nx = 4))) (hx : nx = sx ∨ later = true) (hk : decide ((0 : Int) < (nk : Int)) = sk) (hk2 : nk ≤ 250) (hv : 0 < nv → sv = true) (hv2 : nv ≤ 512) (hn : nx = 0 ∨ nx = 4 ∨ nx = 8 ∨ nx = 20) :
    Calls Try.prog 90 #[frV mg op kl el ty st bl oq cas (.slice X nx cx) (.slice K nk ck) (.slice V nv cv)] w (ReqQ (o : Int) q f 0 oq lk lv (flOf nx lx) (exOf nx lx) cas (dlOf nx lx) (niOf nx lx) w) := by
  have HR := Lib.hid hr
  have HL := Lib.hid hl
  have HX := Lib.hid hx
  have HN := Lib.hid hn
  clear hr hl hx hn
  have k1 := (Blk.new w #[.int .u8 (mg : Nat), .int .u8 (op : Nat), .int .u16 (kl : Nat), .int .u8 (el : Nat), .int .u8 (ty : Nat), .int .u16 (st : Nat), .int .u32 (bl : Nat), .int .u32 (oq : Nat), .int .u64 (cas : Nat), .slice X nx cx, .slice K nk ck, .slice V nv cv] 61).alloc (.cells #[.int .i64 0, .bool false, .bool false, .int .i64 0, .int .u32 0, .slice none 0 0, .slice none 0 0, .int .u32 0, .int .u32 0, .int .u64 0, .int .u64 0, .int .u64 0] 26)
  have k2 := Blk.new (w.alloc (.cells #[.int .u8 (mg : Nat), .int .u8 (op : Nat), .int .u16 (kl : Nat), .int .u8 (el : Nat), .int .u8 (ty : Nat), .int .u16 (st : Nat), .int .u32 (bl : Nat), .int .u32 (oq : Nat), .int .u64 (cas : Nat), .slice X nx cx, .slice K nk ck, .slice V nv cv] 61)) #[.int .i64 0, .bool false, .bool false, .int .i64 0, .int .u32 0, .slice none 0 0, .slice none 0 0, .int .u32 0, .int .u32 0, .int .u64 0, .int .u64 0, .int .u64 0] 26
  have b := below_a1' (below_a1' (Below.refl w.heap.size w) (.cells #[.int .u8 (mg : Nat), .int .u8 (op : Nat), .int .u16 (kl : Nat), .int .u8 (el : Nat), .int .u8 (ty : Nat), .int .u16 (st : Nat), .int .u32 (bl : Nat), .int .u32 (oq : Nat), .int .u64 (cas : Nat), .slice X nx cx, .slice K nk ck, .slice V nv cv] 61)) (.cells #[.int .i64 0, .bool false, .bool false, .int .i64 0, .int .u32 0, .slice none 0 0, .slice none 0 0, .int .u32 0, .int .u32 0, .int .u64 0, .int .u64 0, .int .u64 0] 26)
  rw [World.size_alloc] at k2
  unfold frV frC
  go_enter Try.func90, Try.ntmps90
  go_upto_region 1 with fail
  generalize (w.alloc (.cells #[.int .u8 (mg : Nat), .int .u8 (op : Nat), .int .u16 (kl : Nat), .int .u8 (el : Nat), .int .u8 (ty : Nat), .int .u16 (st : Nat), .int .u32 (bl : Nat), .int .u32 (oq : Nat), .int .u64 (cas : Nat), .slice X nx cx, .slice K nk ck, .slice V nv cv] 61)).alloc (.cells #[.int .i64 0, .bool false, .bool false, .int .i64 0, .int .u32 0, .slice none 0 0, .slice none 0 0, .int .u32 0, .int .u32 0, .int .u64 0, .int .u64 0, .int .u64 0] 26) = W0 at k1 k2 b ⊢
  have ho : IntKind.i64.wrap ((op : Nat) : Int) = ((op : Nat) : Int) := wrap_small (by omega) (by omega)
  obtain ⟨p0, p1, p2, p3, p4, p5, p6, p7, p8, p9, p10, p11⟩ := box12 k1
  go_wp2_with fail
  refine (rows_any W0).mono ?_
  rintro e w1 ⟨m, rfl, hm, hge, b1⟩
  replace k1 := k1.step b1
  replace k2 := k2.step b1
  replace b := below_step b b1
  clear b1 ho p0 p1 p2 p3 p4 p5 p6 p7 p8 p9 p10 p11
  go_upto_region 3 with (refine wpl_lookYes _ rfl _ _ _ rfl Try.underlying137 m op rfl hm rfl o q f HR.out ?_)
  have hl2 := k2.lt
  have k4 := Blk.new w1 #[.int .i64 (o : Nat), .bool q, .bool f] 140
  have b4 := below_a1' (Below.refl w1.heap.size w1) (.cells #[.int .i64 (o : Nat), .bool q, .bool f] 140)
  replace k1 := k1.step b4
  replace k2 := k2.step b4
  replace b := below_step b b4
  clear hm hge b4
  have hg4 := k2.lt
  generalize hW : w1.alloc (.cells #[.int .i64 (o : Nat), .bool q, .bool f] 140) = W3 at k1 k2 k4 b hg4 ⊢
  have hs4 : w.heap.size + 2 ≤ w1.heap.size := hl2
  clear hW
  generalize w1.heap.size = g4 at k4 hs4 ⊢
  obtain ⟨p0, p1, p2, p3, p4, p5, p6, p7, p8, p9, p10, p11⟩ := box12 k1
  obtain ⟨x0, x1, x2⟩ := box3 k4
  go_upto_region 4 with fail
  have k6 := Blk.new W3 #[.int .i64 (o : Nat), .bool q, .bool f, .int .i64 0, .int .u32 (oq : Nat), .slice none 0 0, .slice none 0 0, .int .u32 0, .int .u32 0, .int .u64 0, .int .u64 0, .int .u64 0] 26
  have b4 := below_a1' (Below.refl W3.heap.size W3) (.cells #[.int .i64 (o : Nat), .bool q, .bool f, .int .i64 0, .int .u32 (oq : Nat), .slice none 0 0, .slice none 0 0, .int .u32 0, .int .u32 0, .int .u64 0, .int .u64 0, .int .u64 0] 26)
  replace k1 := k1.step b4
  replace k2 := k2.step b4
  have hg6 := k4.lt
  replace k4 := k4.step b4
  replace b := below_step b b4
  clear b4 p0 p1 p2 p3 p4 p5 p6 p7 p8 p9 p10 p11 x0 x1 x2
  generalize W3.alloc (.cells #[.int .i64 (o : Nat), .bool q, .bool f, .int .i64 0, .int .u32 (oq : Nat), .slice none 0 0, .slice none 0 0, .int .u32 0, .int .u32 0, .int .u64 0, .int .u64 0, .int .u64 0] 26) = W6 at k1 k2 k4 k6 b ⊢
  generalize W3.heap.size = g6 at k6 hg6 ⊢
  obtain ⟨p0, p1, p2, p3, p4, p5, p6, p7, p8, p9, p10, p11⟩ := box12 k1
  obtain ⟨x0, x1, x2⟩ := box3 k4
  have HS := Lib.hid (fun W => shaped_at hs W)
  go_wp2_with fail
  refine (HS.out _).mono ?_
  rintro e w7 ⟨rfl, b7⟩
  replace k1 := k1.step b7
  replace k2 := k2.step b7
  have hg4' := k4.lt
  replace k4 := k4.step b7
  replace k6 := k6.step b7
  replace b := below_step b b7
  clear b7 p0 p1 p2 p3 p4 p5 p6 p7 p8 p9 p10 p11 x0 x1 x2
  go_upto_region 8 with fail
  have k7 := Blk.new w7 #[.int .i64 (sx : Nat), .bool sk, .bool sv] 131
  have b4 := below_a1' (Below.refl w7.heap.size w7) (.cells #[.int .i64 (sx : Nat), .bool sk, .bool sv] 131)
  have hg7 := k6.lt
  replace k1 := k1.step b4
  replace k2 := k2.step b4
  replace k4 := k4.step b4
  replace k6 := k6.step b4
  replace b := below_step b b4
  clear b4
  generalize w7.alloc (.cells #[.int .i64 (sx : Nat), .bool sk, .bool sv] 131) = W8 at k1 k2 k4 k6 k7 b ⊢
  generalize w7.heap.size = g7 at k7 hg7 ⊢
  obtain ⟨p0, p1, p2, p3, p4, p5, p6, p7, p8, p9, p10, p11⟩ := box12 k1
  obtain ⟨x0, x1, x2⟩ := box3 k4
  obtain ⟨s0, s1, s2⟩ := box3 k7
  go_cut [8] (fun s8 wx => s8 = .bool later ∧ W8 = wx)
  case first =>
    by_cases h8 : o = 8
    · subst h8
      by_cases h4 : nx = 4
      · have HL2 : Hid (later = true) := Lib.hid (by rw [HL.out, h4]; rfl)
        have e4 : ((nx : Int) == 4) = true := beq_iff_eq.2 (by omega)
        clear h4
        go_wp2_with fail
        go_meet
        exact ⟨by rw [HL2.out], rfl⟩
      · have HL2 : Hid (later = false) := Lib.hid (by rw [HL.out, decide_eq_false h4]; rfl)
        have e4 : ((nx : Int) == 4) = false := beq_eq_false_iff_ne.2 (by omega)
        clear h4
        go_wp2_with fail
        go_meet
        exact ⟨by rw [HL2.out], rfl⟩
    · have HL2 : Hid (later = false) := Lib.hid (by rw [HL.out, decide_eq_false h8]; rfl)
      have e8 : ((o : Int) == 8) = false := beq_eq_false_iff_ne.2 (by omega)
      clear h8
      go_wp2_with fail
      go_meet
      exact ⟨by rw [HL2.out], rfl⟩
  case rest =>
    obtain ⟨rfl, rfl⟩ := hcut
    go_upto_region 9 with fail
    go_cut [48] (fun s48 wx => s48 = .bool false ∧ W8 = wx)
    case first =>
      cases hlt : later with
      | true =>
        subst hlt
        by_cases hn : nx = sx
        · have e9 : ((nx : Int) != (sx : Int)) = false := bne_eq_false_iff_eq.2 (by omega)
          clear hn
          go_wp2_with fail
          go_meet
          exact ⟨rfl, rfl⟩
        · have e9 : ((nx : Int) != (sx : Int)) = true := bne_iff_ne.2 (by omega)
          clear hn
          go_wp2_with fail
          go_meet
          exact ⟨rfl, rfl⟩
      | false =>
        subst hlt
        have e9 : ((nx : Int) != (sx : Int)) = false := bne_eq_false_iff_eq.2 (by rcases HX.out with h | h; omega; cases h)
        go_wp2_with fail
        go_meet
        exact ⟨rfl, rfl⟩
    case rest =>
      obtain ⟨rfl, rfl⟩ := hcut
      have HK := Lib.hid hk
      have HV := Lib.hid hv
      have HK2 := Lib.hid hk2
      have HV2 := Lib.hid hv2
      clear hk hv hk2 hv2
      go_upto_region 10 with fail
      go_cut [48] (fun s48 wx => s48 = .bool false ∧ W8 = wx)
      case first =>
        by_cases h0 : (0 : Int) < (nk : Int)
        · have ev : ((0 : Int) < (nk : Int)) = True := eq_true h0
          have ev' : (0 < nk) = True := eq_true (by omega)
          obtain rfl : true = sk := by rw [← HK.out, decide_eq_true h0]
          clear h0
          go_wp2_with fail
          go_meet
          exact ⟨rfl, rfl⟩
        · have ev : ((0 : Int) < (nk : Int)) = False := eq_false h0
          have ev' : (0 < nk) = False := eq_false (by omega)
          obtain rfl : false = sk := by rw [← HK.out, decide_eq_false h0]
          clear h0
          go_wp2_with fail
          go_meet
          exact ⟨rfl, rfl⟩
      case rest =>
       obtain ⟨rfl, rfl⟩ := hcut
       have ek2 : ((250 : Int) < (nk : Int)) = False := eq_false (by have := HK2.out; omega)
       have ev2 : ((512 : Int) < (nv : Int)) = False := eq_false (by have := HV2.out; omega)
       go_upto_region 12 with fail
       go_cut [48] (fun s48 wx => s48 = .bool false ∧ W8 = wx)
       case first =>
        by_cases h0 : (0 : Int) < (nv : Int)
        · have ev : ((0 : Int) < (nv : Int)) = True := eq_true h0
          have ev' : (0 < nv) = True := eq_true (by omega)
          obtain rfl : sv = true := HV.out (by omega)
          clear h0
          go_wp2_with fail
          go_meet
          exact ⟨rfl, rfl⟩
        · have ev : ((0 : Int) < (nv : Int)) = False := eq_false h0
          have ev' : (0 < nv) = False := eq_false (by omega)
          clear h0
          go_wp2_with fail
          go_meet
          exact ⟨rfl, rfl⟩
       case rest =>
        obtain ⟨rfl, rfl⟩ := hcut
        go_upto_region 18 with fail
        have hk2 := HK2.out
        have hv2 := HV2.out
        clear p0 p1 p2 p3 p4 p5 p6 p7 p8 p9 p10 p11 x0 x1 x2 s0 s1 s2 ek2 ev2
        go_cut [] (fun wx => ∃ (K2 V2 : Option Addr) (ck2 cv2 : Nat), Blk wx g6 #[.int .i64 (o : Nat), .bool q, .bool f, .int .i64 0, .int .u32 (oq : Nat), .slice K2 nk ck2, .slice V2 nv cv2, .int .u32 0, .int .u32 0, .int .u64 (cas : Nat), .int .u64 0, .int .u64 0] 26 ∧ Blk wx w.heap.size #[.int .u8 (mg : Nat), .int .u8 (op : Nat), .int .u16 (kl : Nat), .int .u8 (el : Nat), .int .u8 (ty : Nat), .int .u16 (st : Nat), .int .u32 (bl : Nat), .int .u32 (oq : Nat), .int .u64 (cas : Nat), .slice X nx cx, .slice K nk ck, .slice V nv cv] 61 ∧ Blk wx (w.heap.size + 1) #[.int .i64 0, .bool false, .bool false, .int .i64 0, .int .u32 0, .slice none 0 0, .slice none 0 0, .int .u32 0, .int .u32 0, .int .u64 0, .int .u64 0, .int .u64 0] 26 ∧ Own wx (g6 + 1) K2 nk ck2 lk ∧ Own wx (g6 + 1) V2 nv cv2 lv ∧ Below w.heap.size w wx)
        case first =>
          refine wp_region_noPanic ?_
          refine region_T (fun wx => wx.cell? ⟨w.heap.size, 0, none⟩ = some (.int .u8 (mg : Nat)) ∧ wx.cell? ⟨w.heap.size, 1, none⟩ = some (.int .u8 (op : Nat)) ∧ wx.cell? ⟨w.heap.size, 2, none⟩ = some (.int .u16 (kl : Nat)) ∧ wx.cell? ⟨w.heap.size, 3, none⟩ = some (.int .u8 (el : Nat)) ∧ wx.cell? ⟨w.heap.size, 4, none⟩ = some (.int .u8 (ty : Nat)) ∧ wx.cell? ⟨w.heap.size, 5, none⟩ = some (.int .u16 (st : Nat)) ∧ wx.cell? ⟨w.heap.size, 6, none⟩ = some (.int .u32 (bl : Nat)) ∧ wx.cell? ⟨w.heap.size, 7, none⟩ = some (.int .u32 (oq : Nat)) ∧ wx.cell? ⟨w.heap.size, 8, none⟩ = some (.int .u64 (cas : Nat)) ∧ wx.cell? ⟨w.heap.size, 9, none⟩ = some (.slice X nx cx) ∧ wx.cell? ⟨w.heap.size, 10, none⟩ = some (.slice K nk ck) ∧ wx.cell? ⟨w.heap.size, 11, none⟩ = some (.slice V nv cv)) 15 (by kernel_rfl) ?_
          have bD : Below W8.heap.size W8 W8.drew := (Below.refl _ _).drew
          have k1 := k1.step bD
          have k2 := k2.step bD
          have k6 := k6.step bD
          have b := below_step b bD
          have hHeld := box12 k1
          clear bD k4 k7
          generalize W8.drew = Y0 at b hHeld k1 k2 k6 ⊢
          refine takeT (i := 0) (v := ?_) rfl (by kernel_rfl) (by kernel_rfl) (by decide) (by kernel_rfl) (by kernel_rfl) (fun _ _ _ h => h) (Or.inl ⟨by rfl, ?_⟩) hHeld ?_
          rotate_left
          · (intro wx hSw; obtain ⟨a0, a1, a2, a3, a4, a5, a6, a7, a8, a9, a10, a11⟩ := hSw; go_simp; try (with_reducible rfl))
          try simp only [Act.put, List.setIfInBounds_toArray, List.set_cons_zero, List.set_cons_succ]
          refine takeT (i := 1) (v := ?_) rfl (by kernel_rfl) (by kernel_rfl) (by decide) (by kernel_rfl) (by kernel_rfl) (fun _ _ _ h => h) (Or.inl ⟨by rfl, ?_⟩) hHeld ?_
          rotate_left
          · (intro wx hSw; obtain ⟨a0, a1, a2, a3, a4, a5, a6, a7, a8, a9, a10, a11⟩ := hSw; go_simp; try (with_reducible rfl))
          try simp only [Act.put, List.setIfInBounds_toArray, List.set_cons_zero, List.set_cons_succ]
          refine takeT (i := 2) (v := ?_) rfl (by kernel_rfl) (by kernel_rfl) (by decide) (by kernel_rfl) (by kernel_rfl) (fun _ _ _ h => h) (Or.inl ⟨by rfl, ?_⟩) hHeld ?_
          rotate_left
          · (intro wx hSw; obtain ⟨a0, a1, a2, a3, a4, a5, a6, a7, a8, a9, a10, a11⟩ := hSw; go_simp; try (with_reducible rfl))
          try simp only [Act.put, List.setIfInBounds_toArray, List.set_cons_zero, List.set_cons_succ]
          refine takeT (i := 3) (v := ?_) rfl (by kernel_rfl) (by kernel_rfl) (by decide) (by kernel_rfl) (by kernel_rfl) (fun _ _ _ h => h) (Or.inl ⟨by rfl, ?_⟩) hHeld ?_
          rotate_left
          · (intro wx hSw; obtain ⟨a0, a1, a2, a3, a4, a5, a6, a7, a8, a9, a10, a11⟩ := hSw; go_simp; try (with_reducible rfl))
          try simp only [Act.put, List.setIfInBounds_toArray, List.set_cons_zero, List.set_cons_succ]
          refine takeT (i := 4) (v := ?_) rfl (by kernel_rfl) (by kernel_rfl) (by decide) (by kernel_rfl) (by kernel_rfl) (fun _ _ _ h => h) (Or.inl ⟨by rfl, ?_⟩) hHeld ?_
          rotate_left
          · (intro wx hSw; obtain ⟨a0, a1, a2, a3, a4, a5, a6, a7, a8, a9, a10, a11⟩ := hSw; go_simp; try (with_reducible rfl))
          try simp only [Act.put, List.setIfInBounds_toArray, List.set_cons_zero, List.set_cons_succ]
          refine takeT (i := 6) (v := ?_) rfl (by kernel_rfl) (by kernel_rfl) (by decide) (by kernel_rfl) (by kernel_rfl) (fun _ _ _ h => h) (Or.inl ⟨by rfl, ?_⟩) hHeld ?_
          rotate_left
          · (intro wx hSw; obtain ⟨a0, a1, a2, a3, a4, a5, a6, a7, a8, a9, a10, a11⟩ := hSw; go_simp; try (with_reducible rfl))
          try simp only [Act.put, List.setIfInBounds_toArray, List.set_cons_zero, List.set_cons_succ]
          refine takeT (i := 7) (v := ?_) rfl (by kernel_rfl) (by kernel_rfl) (by decide) (by kernel_rfl) (by kernel_rfl) (fun _ _ _ h => h) (Or.inl ⟨by rfl, ?_⟩) hHeld ?_
          rotate_left
          · (intro wx hSw; obtain ⟨a0, a1, a2, a3, a4, a5, a6, a7, a8, a9, a10, a11⟩ := hSw; go_simp; try (with_reducible rfl))
          try simp only [Act.put, List.setIfInBounds_toArray, List.set_cons_zero, List.set_cons_succ]
          refine takeT (i := 9) (v := ?_) rfl (by kernel_rfl) (by kernel_rfl) (by decide) (by kernel_rfl) (by kernel_rfl) (fun _ _ _ h => h) (Or.inl ⟨by rfl, ?_⟩) hHeld ?_
          rotate_left
          · (intro wx hSw; obtain ⟨a0, a1, a2, a3, a4, a5, a6, a7, a8, a9, a10, a11⟩ := hSw; go_simp; try (with_reducible rfl))
          try simp only [Act.put, List.setIfInBounds_toArray, List.set_cons_zero, List.set_cons_succ]
          refine oneT (i := 5) rfl (by kernel_rfl) (fun KK hK => ?_)
          go_simp
          have lt6 := k6.lt
          refine (clone_any K nk ck w.heap.size lk Y0 (rK.below b) b.size (by omega)).mono ?_
          rintro e Y1 ⟨K2, ck2, rfl, oK, b1⟩
          replace oK : Own Y1 (g6 + 1) _ _ _ _ := oK.more (by omega)
          have k1 := k1.step b1
          have k2 := k2.step b1
          have k6 := k6.step b1
          have b := below_step b b1
          have hHeld := box12 k1
          refine hK.out _ _ (fun _ => hHeld) ?_
          clear hK KK
          try simp only [Act.put, List.setIfInBounds_toArray, List.set_cons_zero, List.set_cons_succ]
          refine oneT (i := 8) rfl (by kernel_rfl) (fun KK hK => ?_)
          go_simp
          have lt6 := k6.lt
          refine (clone_any V nv cv w.heap.size lv Y1 (rV.below b) b.size (by omega)).mono ?_
          rintro e Y2 ⟨V2, cv2, rfl, oV, b1⟩
          replace oV : Own Y2 (g6 + 1) _ _ _ _ := oV.more (by omega)
          have k1 := k1.step b1
          have k2 := k2.step b1
          have k6 := k6.step b1
          have oK := Own.step oK b1
          have b := below_step b b1
          have hHeld := box12 k1
          refine hK.out _ _ (fun _ => hHeld) ?_
          clear hK KK
          try simp only [Act.put, List.setIfInBounds_toArray, List.set_cons_zero, List.set_cons_succ]
          obtain ⟨z0, z1, z2, z3, z4, z5, z6, z7, z8, z9, z10, z11⟩ := box12 k6
          have y9 := k6.frozen 9
          have y5 := k6.frozen 5
          have y6 := k6.frozen 6
          have ne : w.heap.size ≠ g6 := by omega
          refine oneT (i := 10) rfl (by kernel_rfl) (fun KK hK => ?_)
          go_simp
          have hHeld := box12 (k1.far (p := ⟨g6, 9, none⟩) ne (.int .u64 (cas : Nat)))
          refine hK.out _ _ (fun _ => hHeld) ?_
          clear hK KK
          try simp only [Act.put, List.setIfInBounds_toArray, List.set_cons_zero, List.set_cons_succ]
          refine takeT (i := 11) (v := ?_) rfl (by kernel_rfl) (by kernel_rfl) (by decide) (by kernel_rfl) (by kernel_rfl) (fun _ _ _ h => h) (Or.inl ⟨by rfl, ?_⟩) hHeld ?_
          rotate_left
          · (intro wx hSw; obtain ⟨a0, a1, a2, a3, a4, a5, a6, a7, a8, a9, a10, a11⟩ := hSw; go_simp; try (with_reducible rfl))
          try simp only [Act.put, List.setIfInBounds_toArray, List.set_cons_zero, List.set_cons_succ]
          refine oneT (i := 12) rfl (by kernel_rfl) (fun KK hK => ?_)
          go_simp
          have hHeld := box12 ((k1.far (p := ⟨g6, 9, none⟩) ne (.int .u64 (cas : Nat))).far (p := ⟨g6, 5, none⟩) ne (.slice K2 nk ck2))
          refine hK.out _ _ (fun _ => hHeld) ?_
          clear hK KK
          try simp only [Act.put, List.setIfInBounds_toArray, List.set_cons_zero, List.set_cons_succ]
          refine takeT (i := 13) (v := ?_) rfl (by kernel_rfl) (by kernel_rfl) (by decide) (by kernel_rfl) (by kernel_rfl) (fun _ _ _ h => h) (Or.inl ⟨by rfl, ?_⟩) hHeld ?_
          rotate_left
          · (intro wx hSw; obtain ⟨a0, a1, a2, a3, a4, a5, a6, a7, a8, a9, a10, a11⟩ := hSw; go_simp; try (with_reducible rfl))
          try simp only [Act.put, List.setIfInBounds_toArray, List.set_cons_zero, List.set_cons_succ]
          refine oneT (i := 14) rfl (by kernel_rfl) (fun KK hK => ?_)
          go_simp
          have hHeld := box12 (((k1.far (p := ⟨g6, 9, none⟩) ne (.int .u64 (cas : Nat))).far (p := ⟨g6, 5, none⟩) ne (.slice K2 nk ck2)).far (p := ⟨g6, 6, none⟩) ne (.slice V2 nv cv2))
          refine hK.out _ _ (fun _ => hHeld) ?_
          clear hK KK
          try simp only [Act.put, List.setIfInBounds_toArray, List.set_cons_zero, List.set_cons_succ]
          refine doneT (by kernel_rfl) ?_ _
          refine NoPanic.normal ?_
          go_wp2_with fail
          go_meet
          have gs := grown_trans (grown_trans (rdr_grown_set Y2 g6 9 (.int .u64 (cas : Nat))) (rdr_grown_set _ g6 5 (.slice K2 nk ck2))) (rdr_grown_set _ g6 6 (.slice V2 nv cv2))
          exact ⟨K2, V2, ck2, cv2, ((k6.set_ 9 _).set_ 5 _).set_ 6 _, (((k1.far (p := ⟨g6, 9, none⟩) ne (.int .u64 (cas : Nat))).far (p := ⟨g6, 5, none⟩) ne (.slice K2 nk ck2)).far (p := ⟨g6, 6, none⟩) ne (.slice V2 nv cv2)), k2.leftC gs (by omega), oK.kept gs (by omega), oV.kept gs (by omega), b.trans (below_grown gs (by omega) k6.lt)⟩
        case rest =>
          obtain ⟨K2, V2, ck2, cv2, kq, k1, k2, oK, oV, b⟩ := hcut
          clear k6 k4 k7
          have G := World.grownBy.refl wc (some g6)
          obtain ⟨p0, p1, p2, p3, p4, p5, p6, p7, p8, p9, p10, p11⟩ := box12 k1
          go_wp2_with fail
          have lq := kq.lt
          have lb := b.size
          refine (read_any X nx cx w.heap.size lx wc (rX.below b) b.size (by have := HN.out; omega)).mono ?_
          rintro e w9 ⟨gR, rfl, hR, b9⟩
          replace kq := kq.step b9
          replace k1 := k1.step b9
          replace k2 := k2.step b9
          replace b := below_step b b9
          replace G := grown_below G b9
          clear b9 p0 p1 p2 p3 p4 p5 p6 p7 p8 p9 p10 p11
          have hge := hR.ge
          generalize hB9 : wc.heap.size = B9 at hR hge lq lb
          obtain ⟨p0, p1, p2, p3, p4, p5, p6, p7, p8, p9, p10, p11⟩ := box12 k1
          rcases HN.out with h | h | h | h
          · have e8 : ((nx : Int) == 8) = false := beq_eq_false_iff_ne.2 (by omega)
            have e20 : ((nx : Int) == 20) = false := beq_eq_false_iff_ne.2 (by omega)
            have e0 : ((0 : Int) < (nx : Int)) = False := eq_false (by omega)
            have e0' : (0 < nx) = False := eq_false (by omega)
            have EQF : Hid (flOf nx lx = 0 ∧ exOf nx lx = 0 ∧ dlOf nx lx = 0 ∧ niOf nx lx = 0) := Lib.hid (by subst h; exact ⟨rfl, rfl, rfl, rfl⟩)
            have HNX := Lib.hid h
            clear h
            go_upto_region 27 with fail
            obtain ⟨z0, z1, z2, z3, z4, z5, z6, z7, z8, z9, z10, z11⟩ := box12 kq
            obtain ⟨u0, u1, u2, u3, u4, u5, u6, u7, u8, u9, u10, u11⟩ := box12 k2
            have y0 := k2.frozen 0
            have y1 := k2.frozen 1
            have y2 := k2.frozen 2
            have y3 := k2.frozen 3
            have y4 := k2.frozen 4
            have y5 := k2.frozen 5
            have y6 := k2.frozen 6
            have y7 := k2.frozen 7
            have y8 := k2.frozen 8
            have y9 := k2.frozen 9
            have y10 := k2.frozen 10
            have y11 := k2.frozen 11
            have kf := blk_set12 k2 (.int .i64 (o : Nat)) (.bool q) (.bool f) (.int .i64 0) (.int .u32 (oq : Nat)) (.slice K2 nk ck2) (.slice V2 nv cv2) (.int .u32 0) (.int .u32 0) (.int .u64 (cas : Nat)) (.int .u64 0) (.int .u64 0)
            have gs := grown_set12 w9 (w.heap.size + 1) (.int .i64 (o : Nat)) (.bool q) (.bool f) (.int .i64 0) (.int .u32 (oq : Nat)) (.slice K2 nk ck2) (.slice V2 nv cv2) (.int .u32 0) (.int .u32 0) (.int .u64 (cas : Nat)) (.int .u64 0) (.int .u64 0)
            have bf := b.trans (below_grown gs (by omega) k2.lt)
            obtain ⟨t0, t1, t2, t3, t4, t5, t6, t7, t8, t9, t10, t11⟩ := box12 kf
            have oKf := ((oK.kept G (by omega)).kept gs (by omega)).more (B' := w.heap.size) (by omega)
            have oVf := ((oV.kept G (by omega)).kept gs (by omega)).more (B' := w.heap.size) (by omega)
            clear kf gs b k1 k2 kq
            go_wp2_with fail
            refine bodyPost_ret (v := .agg #[.int .i64 (o : Nat), .bool q, .bool f, .int .i64 0, .int .u32 (oq : Nat), .slice K2 nk ck2, .slice V2 nv cv2, .int .u32 0, .int .u32 0, .int .u64 (cas : Nat), .int .u64 0, .int .u64 0]) (by simp [results, Try.results90, go_sem, t0, t1, t2, t3, t4, t5, t6, t7, t8, t9, t10, t11]) rfl ?_
            exact ⟨_, _, _, _, _, _, (by first | (rw [EQF.out.1, EQF.out.2.1, EQF.out.2.2.1, EQF.out.2.2.2]; done) | (rw [EQF.out.1, EQF.out.2.1, EQF.out.2.2.1, EQF.out.2.2.2]; rfl)), oKf, oVf, bf⟩
          · have e8 : ((nx : Int) == 8) = false := beq_eq_false_iff_ne.2 (by omega)
            have e20 : ((nx : Int) == 20) = false := beq_eq_false_iff_ne.2 (by omega)
            have e0 : ((0 : Int) < (nx : Int)) = True := eq_true (by omega)
            have e0' : (0 < nx) = True := eq_true (by omega)
            have EQF : Hid (flOf nx lx = 0 ∧ exOf nx lx = fld lx 0 4 ∧ dlOf nx lx = 0 ∧ niOf nx lx = 0) := Lib.hid (by subst h; exact ⟨rfl, rfl, rfl, rfl⟩)
            have HNX := Lib.hid h
            clear h
            go_wp2_with fail
            refine (u32_at lx 0 (fld lx 0 4) rfl gR B9 _ hR (by have := rX.len; have := HNX.out; omega)).mono ?_
            rintro e w12 ⟨rfl, hR, gg⟩
            replace kq := kq.leftC gg (by omega)
            replace k1 := k1.leftC gg (by omega)
            replace k2 := k2.leftC gg (by omega)
            replace b := below_far b gg (by omega) (Nat.le_refl _)
            replace G := grown_far G gg (by omega)
            clear gg p0 p1 p2 p3 p4 p5 p6 p7 p8 p9 p10 p11
            have y := kq.frozen 8
            obtain ⟨z0, z1, z2, z3, z4, z5, z6, z7, z8, z9, z10, z11⟩ := box12 kq
            go_upto_region 27 with fail
            clear z0 z1 z2 z3 z4 z5 z6 z7 z8 z9 z10 z11
            have gq := rdr_grown_set w12 g6 8 (.int .u32 (fld lx 0 4 : Nat))
            replace k1 := k1.leftC gq (by omega)
            replace k2 := k2.leftC gq (by omega)
            replace hR := hR.kept gq (by omega)
            replace b := b.trans (below_grown gq (by omega) kq.lt)
            replace G := grown_trans G gq
            replace kq : Blk (w12.setCell ⟨g6, 8, none⟩ (.int .u32 (fld lx 0 4 : Nat))) g6 #[.int .i64 (o : Nat), .bool q, .bool f, .int .i64 0, .int .u32 (oq : Nat), .slice K2 nk ck2, .slice V2 nv cv2, .int .u32 0, .int .u32 (fld lx 0 4 : Nat), .int .u64 (cas : Nat), .int .u64 0, .int .u64 0] 26 := kq.set_ 8 _
            clear gq y
            generalize w12.setCell ⟨g6, 8, none⟩ (.int .u32 (fld lx 0 4 : Nat)) = W12 at kq k1 k2 hR b G ⊢
            obtain ⟨p0, p1, p2, p3, p4, p5, p6, p7, p8, p9, p10, p11⟩ := box12 k1
            obtain ⟨z0, z1, z2, z3, z4, z5, z6, z7, z8, z9, z10, z11⟩ := box12 kq
            obtain ⟨u0, u1, u2, u3, u4, u5, u6, u7, u8, u9, u10, u11⟩ := box12 k2
            have y0 := k2.frozen 0
            have y1 := k2.frozen 1
            have y2 := k2.frozen 2
            have y3 := k2.frozen 3
            have y4 := k2.frozen 4
            have y5 := k2.frozen 5
            have y6 := k2.frozen 6
            have y7 := k2.frozen 7
            have y8 := k2.frozen 8
            have y9 := k2.frozen 9
            have y10 := k2.frozen 10
            have y11 := k2.frozen 11
            have kf := blk_set12 k2 (.int .i64 (o : Nat)) (.bool q) (.bool f) (.int .i64 0) (.int .u32 (oq : Nat)) (.slice K2 nk ck2) (.slice V2 nv cv2) (.int .u32 0) (.int .u32 (fld lx 0 4 : Nat)) (.int .u64 (cas : Nat)) (.int .u64 0) (.int .u64 0)
            have gs := grown_set12 W12 (w.heap.size + 1) (.int .i64 (o : Nat)) (.bool q) (.bool f) (.int .i64 0) (.int .u32 (oq : Nat)) (.slice K2 nk ck2) (.slice V2 nv cv2) (.int .u32 0) (.int .u32 (fld lx 0 4 : Nat)) (.int .u64 (cas : Nat)) (.int .u64 0) (.int .u64 0)
            have bf := b.trans (below_grown gs (by omega) k2.lt)
            obtain ⟨t0, t1, t2, t3, t4, t5, t6, t7, t8, t9, t10, t11⟩ := box12 kf
            have oKf := ((oK.kept G (by omega)).kept gs (by omega)).more (B' := w.heap.size) (by omega)
            have oVf := ((oV.kept G (by omega)).kept gs (by omega)).more (B' := w.heap.size) (by omega)
            clear kf gs b k1 k2 kq
            go_wp2_with fail
            refine bodyPost_ret (v := .agg #[.int .i64 (o : Nat), .bool q, .bool f, .int .i64 0, .int .u32 (oq : Nat), .slice K2 nk ck2, .slice V2 nv cv2, .int .u32 0, .int .u32 (fld lx 0 4 : Nat), .int .u64 (cas : Nat), .int .u64 0, .int .u64 0]) (by simp [results, Try.results90, go_sem, t0, t1, t2, t3, t4, t5, t6, t7, t8, t9, t10, t11]) rfl ?_
            exact ⟨_, _, _, _, _, _, (by first | (rw [EQF.out.1, EQF.out.2.1, EQF.out.2.2.1, EQF.out.2.2.2]; done) | (rw [EQF.out.1, EQF.out.2.1, EQF.out.2.2.1, EQF.out.2.2.2]; rfl)), oKf, oVf, bf⟩
          · have e8 : ((nx : Int) == 8) = true := beq_iff_eq.2 (by omega)
            have e20 : ((nx : Int) == 20) = false := beq_eq_false_iff_ne.2 (by omega)
            have e0 : ((0 : Int) < (nx : Int)) = True := eq_true (by omega)
            have e0' : (0 < nx) = True := eq_true (by omega)
            have EQF : Hid (flOf nx lx = fld lx 0 4 ∧ exOf nx lx = fld lx 4 4 ∧ dlOf nx lx = 0 ∧ niOf nx lx = 0) := Lib.hid (by subst h; exact ⟨rfl, rfl, rfl, rfl⟩)
            have HNX := Lib.hid h
            clear h
            have y := kq.frozen 7
            go_upto_region 22 with fail
            go_wp2_with fail
            refine (u32_at lx 0 (fld lx 0 4) rfl gR B9 _ hR (by have := rX.len; have := HNX.out; omega)).mono ?_
            rintro e w10 ⟨rfl, hR, gg⟩
            replace kq := kq.leftC gg (by omega)
            replace k1 := k1.leftC gg (by omega)
            replace k2 := k2.leftC gg (by omega)
            replace b := below_far b gg (by omega) (Nat.le_refl _)
            replace G := grown_far G gg (by omega)
            clear gg p0 p1 p2 p3 p4 p5 p6 p7 p8 p9 p10 p11
            have y := kq.frozen 7
            have lk6 := kq.lt
            obtain ⟨z0, z1, z2, z3, z4, z5, z6, z7, z8, z9, z10, z11⟩ := box12 kq
            go_upto_region 25 with fail
            clear z0 z1 z2 z3 z4 z5 z6 z7 z8 z9 z10 z11
            have gq := rdr_grown_set w10 g6 7 (.int .u32 (fld lx 0 4 : Nat))
            replace k1 := k1.leftC gq (by omega)
            replace k2 := k2.leftC gq (by omega)
            replace hR := hR.kept gq (by omega)
            replace b := b.trans (below_grown gq (by omega) kq.lt)
            replace G := grown_trans G gq
            replace kq : Blk (w10.setCell ⟨g6, 7, none⟩ (.int .u32 (fld lx 0 4 : Nat))) g6 #[.int .i64 (o : Nat), .bool q, .bool f, .int .i64 0, .int .u32 (oq : Nat), .slice K2 nk ck2, .slice V2 nv cv2, .int .u32 (fld lx 0 4 : Nat), .int .u32 0, .int .u64 (cas : Nat), .int .u64 0, .int .u64 0] 26 := kq.set_ 7 _
            clear gq y
            generalize w10.setCell ⟨g6, 7, none⟩ (.int .u32 (fld lx 0 4 : Nat)) = W10 at kq k1 k2 hR b G ⊢
            obtain ⟨p0, p1, p2, p3, p4, p5, p6, p7, p8, p9, p10, p11⟩ := box12 k1
            go_wp2_with fail
            refine (u32_at lx 4 (fld lx 4 4) rfl gR B9 _ hR (by have := rX.len; have := HNX.out; omega)).mono ?_
            rintro e w12 ⟨rfl, hR, gg⟩
            replace kq := kq.leftC gg (by omega)
            replace k1 := k1.leftC gg (by omega)
            replace k2 := k2.leftC gg (by omega)
            replace b := below_far b gg (by omega) (Nat.le_refl _)
            replace G := grown_far G gg (by omega)
            clear gg p0 p1 p2 p3 p4 p5 p6 p7 p8 p9 p10 p11
            have y := kq.frozen 8
            obtain ⟨z0, z1, z2, z3, z4, z5, z6, z7, z8, z9, z10, z11⟩ := box12 kq
            go_upto_region 27 with fail
            clear z0 z1 z2 z3 z4 z5 z6 z7 z8 z9 z10 z11
            have gq := rdr_grown_set w12 g6 8 (.int .u32 (fld lx 4 4 : Nat))
            replace k1 := k1.leftC gq (by omega)
            replace k2 := k2.leftC gq (by omega)
            replace hR := hR.kept gq (by omega)
            replace b := b.trans (below_grown gq (by omega) kq.lt)
            replace G := grown_trans G gq
            replace kq : Blk (w12.setCell ⟨g6, 8, none⟩ (.int .u32 (fld lx 4 4 : Nat))) g6 #[.int .i64 (o : Nat), .bool q, .bool f, .int .i64 0, .int .u32 (oq : Nat), .slice K2 nk ck2, .slice V2 nv cv2, .int .u32 (fld lx 0 4 : Nat), .int .u32 (fld lx 4 4 : Nat), .int .u64 (cas : Nat), .int .u64 0, .int .u64 0] 26 := kq.set_ 8 _
            clear gq y
            generalize w12.setCell ⟨g6, 8, none⟩ (.int .u32 (fld lx 4 4 : Nat)) = W12 at kq k1 k2 hR b G ⊢
            obtain ⟨p0, p1, p2, p3, p4, p5, p6, p7, p8, p9, p10, p11⟩ := box12 k1
            obtain ⟨z0, z1, z2, z3, z4, z5, z6, z7, z8, z9, z10, z11⟩ := box12 kq
            obtain ⟨u0, u1, u2, u3, u4, u5, u6, u7, u8, u9, u10, u11⟩ := box12 k2
            have y0 := k2.frozen 0
            have y1 := k2.frozen 1
            have y2 := k2.frozen 2
            have y3 := k2.frozen 3
            have y4 := k2.frozen 4
            have y5 := k2.frozen 5
            have y6 := k2.frozen 6
            have y7 := k2.frozen 7
            have y8 := k2.frozen 8
            have y9 := k2.frozen 9
            have y10 := k2.frozen 10
            have y11 := k2.frozen 11
            have kf := blk_set12 k2 (.int .i64 (o : Nat)) (.bool q) (.bool f) (.int .i64 0) (.int .u32 (oq : Nat)) (.slice K2 nk ck2) (.slice V2 nv cv2) (.int .u32 (fld lx 0 4 : Nat)) (.int .u32 (fld lx 4 4 : Nat)) (.int .u64 (cas : Nat)) (.int .u64 0) (.int .u64 0)
            have gs := grown_set12 W12 (w.heap.size + 1) (.int .i64 (o : Nat)) (.bool q) (.bool f) (.int .i64 0) (.int .u32 (oq : Nat)) (.slice K2 nk ck2) (.slice V2 nv cv2) (.int .u32 (fld lx 0 4 : Nat)) (.int .u32 (fld lx 4 4 : Nat)) (.int .u64 (cas : Nat)) (.int .u64 0) (.int .u64 0)
            have bf := b.trans (below_grown gs (by omega) k2.lt)
            obtain ⟨t0, t1, t2, t3, t4, t5, t6, t7, t8, t9, t10, t11⟩ := box12 kf
            have oKf := ((oK.kept G (by omega)).kept gs (by omega)).more (B' := w.heap.size) (by omega)
            have oVf := ((oV.kept G (by omega)).kept gs (by omega)).more (B' := w.heap.size) (by omega)
            clear kf gs b k1 k2 kq
            go_wp2_with fail
            refine bodyPost_ret (v := .agg #[.int .i64 (o : Nat), .bool q, .bool f, .int .i64 0, .int .u32 (oq : Nat), .slice K2 nk ck2, .slice V2 nv cv2, .int .u32 (fld lx 0 4 : Nat), .int .u32 (fld lx 4 4 : Nat), .int .u64 (cas : Nat), .int .u64 0, .int .u64 0]) (by simp [results, Try.results90, go_sem, t0, t1, t2, t3, t4, t5, t6, t7, t8, t9, t10, t11]) rfl ?_
            exact ⟨_, _, _, _, _, _, (by first | (rw [EQF.out.1, EQF.out.2.1, EQF.out.2.2.1, EQF.out.2.2.2]; done) | (rw [EQF.out.1, EQF.out.2.1, EQF.out.2.2.1, EQF.out.2.2.2]; rfl)), oKf, oVf, bf⟩
          · have e8 : ((nx : Int) == 8) = false := beq_eq_false_iff_ne.2 (by omega)
            have e20 : ((nx : Int) == 20) = true := beq_iff_eq.2 (by omega)
            have e0 : ((0 : Int) < (nx : Int)) = True := eq_true (by omega)
            have e0' : (0 < nx) = True := eq_true (by omega)
            have EQF : Hid (flOf nx lx = 0 ∧ exOf nx lx = fld lx 16 4 ∧ dlOf nx lx = fld lx 0 8 ∧ niOf nx lx = fld lx 8 8) := Lib.hid (by subst h; exact ⟨rfl, rfl, rfl, rfl⟩)
            have HNX := Lib.hid h
            clear h
            go_upto_region 24 with fail
            go_wp2_with fail
            refine (u64_at lx 0 (fld lx 0 8) rfl gR B9 _ hR (by have := rX.len; have := HNX.out; omega)).mono ?_
            rintro e w10 ⟨rfl, hR, gg⟩
            replace kq := kq.leftC gg (by omega)
            replace k1 := k1.leftC gg (by omega)
            replace k2 := k2.leftC gg (by omega)
            replace b := below_far b gg (by omega) (Nat.le_refl _)
            replace G := grown_far G gg (by omega)
            clear gg p0 p1 p2 p3 p4 p5 p6 p7 p8 p9 p10 p11
            go_wp2_with fail
            refine (u64_at lx 8 (fld lx 8 8) rfl gR B9 _ hR (by have := rX.len; have := HNX.out; omega)).mono ?_
            rintro e w11 ⟨rfl, hR, gg⟩
            replace kq := kq.leftC gg (by omega)
            replace k1 := k1.leftC gg (by omega)
            replace k2 := k2.leftC gg (by omega)
            replace b := below_far b gg (by omega) (Nat.le_refl _)
            replace G := grown_far G gg (by omega)
            clear gg
            have y := kq.frozen 10
            have y' := kq.frozen 11
            obtain ⟨z0, z1, z2, z3, z4, z5, z6, z7, z8, z9, z10, z11⟩ := box12 kq
            go_upto_region 25 with fail
            clear z0 z1 z2 z3 z4 z5 z6 z7 z8 z9 z10 z11
            have gq := grown_trans (rdr_grown_set w11 g6 10 (.int .u64 (fld lx 0 8 : Nat))) (rdr_grown_set _ g6 11 (.int .u64 (fld lx 8 8 : Nat)))
            replace k1 := k1.leftC gq (by omega)
            replace k2 := k2.leftC gq (by omega)
            replace hR := hR.kept gq (by omega)
            replace b := b.trans (below_grown gq (by omega) kq.lt)
            replace G := grown_trans G gq
            replace kq : Blk ((w11.setCell ⟨g6, 10, none⟩ (.int .u64 (fld lx 0 8 : Nat))).setCell ⟨g6, 11, none⟩ (.int .u64 (fld lx 8 8 : Nat))) g6 #[.int .i64 (o : Nat), .bool q, .bool f, .int .i64 0, .int .u32 (oq : Nat), .slice K2 nk ck2, .slice V2 nv cv2, .int .u32 0, .int .u32 0, .int .u64 (cas : Nat), .int .u64 (fld lx 0 8 : Nat), .int .u64 (fld lx 8 8 : Nat)] 26 := (kq.set_ 10 _).set_ 11 _
            clear gq y y'
            generalize (w11.setCell ⟨g6, 10, none⟩ (.int .u64 (fld lx 0 8 : Nat))).setCell ⟨g6, 11, none⟩ (.int .u64 (fld lx 8 8 : Nat)) = W10 at kq k1 k2 hR b G ⊢
            obtain ⟨p0, p1, p2, p3, p4, p5, p6, p7, p8, p9, p10, p11⟩ := box12 k1
            go_wp2_with fail
            refine (u32_at lx 16 (fld lx 16 4) rfl gR B9 _ hR (by have := rX.len; have := HNX.out; omega)).mono ?_
            rintro e w12 ⟨rfl, hR, gg⟩
            replace kq := kq.leftC gg (by omega)
            replace k1 := k1.leftC gg (by omega)
            replace k2 := k2.leftC gg (by omega)
            replace b := below_far b gg (by omega) (Nat.le_refl _)
            replace G := grown_far G gg (by omega)
            clear gg p0 p1 p2 p3 p4 p5 p6 p7 p8 p9 p10 p11
            have y := kq.frozen 8
            obtain ⟨z0, z1, z2, z3, z4, z5, z6, z7, z8, z9, z10, z11⟩ := box12 kq
            go_upto_region 27 with fail
            clear z0 z1 z2 z3 z4 z5 z6 z7 z8 z9 z10 z11
            have gq := rdr_grown_set w12 g6 8 (.int .u32 (fld lx 16 4 : Nat))
            replace k1 := k1.leftC gq (by omega)
            replace k2 := k2.leftC gq (by omega)
            replace hR := hR.kept gq (by omega)
            replace b := b.trans (below_grown gq (by omega) kq.lt)
            replace G := grown_trans G gq
            replace kq : Blk (w12.setCell ⟨g6, 8, none⟩ (.int .u32 (fld lx 16 4 : Nat))) g6 #[.int .i64 (o : Nat), .bool q, .bool f, .int .i64 0, .int .u32 (oq : Nat), .slice K2 nk ck2, .slice V2 nv cv2, .int .u32 0, .int .u32 (fld lx 16 4 : Nat), .int .u64 (cas : Nat), .int .u64 (fld lx 0 8 : Nat), .int .u64 (fld lx 8 8 : Nat)] 26 := kq.set_ 8 _
            clear gq y
            generalize w12.setCell ⟨g6, 8, none⟩ (.int .u32 (fld lx 16 4 : Nat)) = W12 at kq k1 k2 hR b G ⊢
            obtain ⟨p0, p1, p2, p3, p4, p5, p6, p7, p8, p9, p10, p11⟩ := box12 k1
            obtain ⟨z0, z1, z2, z3, z4, z5, z6, z7, z8, z9, z10, z11⟩ := box12 kq
            obtain ⟨u0, u1, u2, u3, u4, u5, u6, u7, u8, u9, u10, u11⟩ := box12 k2
            have y0 := k2.frozen 0
            have y1 := k2.frozen 1
            have y2 := k2.frozen 2
            have y3 := k2.frozen 3
            have y4 := k2.frozen 4
            have y5 := k2.frozen 5
            have y6 := k2.frozen 6
            have y7 := k2.frozen 7
            have y8 := k2.frozen 8
            have y9 := k2.frozen 9
            have y10 := k2.frozen 10
            have y11 := k2.frozen 11
            have kf := blk_set12 k2 (.int .i64 (o : Nat)) (.bool q) (.bool f) (.int .i64 0) (.int .u32 (oq : Nat)) (.slice K2 nk ck2) (.slice V2 nv cv2) (.int .u32 0) (.int .u32 (fld lx 16 4 : Nat)) (.int .u64 (cas : Nat)) (.int .u64 (fld lx 0 8 : Nat)) (.int .u64 (fld lx 8 8 : Nat))
            have gs := grown_set12 W12 (w.heap.size + 1) (.int .i64 (o : Nat)) (.bool q) (.bool f) (.int .i64 0) (.int .u32 (oq : Nat)) (.slice K2 nk ck2) (.slice V2 nv cv2) (.int .u32 0) (.int .u32 (fld lx 16 4 : Nat)) (.int .u64 (cas : Nat)) (.int .u64 (fld lx 0 8 : Nat)) (.int .u64 (fld lx 8 8 : Nat))
            have bf := b.trans (below_grown gs (by omega) k2.lt)
            obtain ⟨t0, t1, t2, t3, t4, t5, t6, t7, t8, t9, t10, t11⟩ := box12 kf
            have oKf := ((oK.kept G (by omega)).kept gs (by omega)).more (B' := w.heap.size) (by omega)
            have oVf := ((oV.kept G (by omega)).kept gs (by omega)).more (B' := w.heap.size) (by omega)
            clear kf gs b k1 k2 kq
            go_wp2_with fail
            refine bodyPost_ret (v := .agg #[.int .i64 (o : Nat), .bool q, .bool f, .int .i64 0, .int .u32 (oq : Nat), .slice K2 nk ck2, .slice V2 nv cv2, .int .u32 0, .int .u32 (fld lx 16 4 : Nat), .int .u64 (cas : Nat), .int .u64 (fld lx 0 8 : Nat), .int .u64 (fld lx 8 8 : Nat)]) (by simp [results, Try.results90, go_sem, t0, t1, t2, t3, t4, t5, t6, t7, t8, t9, t10, t11]) rfl ?_
            exact ⟨_, _, _, _, _, _, (by first | (rw [EQF.out.1, EQF.out.2.1, EQF.out.2.2.1, EQF.out.2.2.2]; done) | (rw [EQF.out.1, EQF.out.2.1, EQF.out.2.2.1, EQF.out.2.2.2]; rfl)), oKf, oVf, bf⟩
end Go.Proofs.Ytnghmgbmflcngaa

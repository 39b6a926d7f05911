/- reply.told: what the last frame of an answer tells. Conditions: typed in each theorem. -/
import Derived.Test.YtnghmgbmflcngaaZrep
import Derived.Test.YtnghmgbmflcngaaZpar
import Derived.Test.YtnghmgbmflcngaaZhld
import Derived.Deep.DeepCutAuto
namespace Go.Proofs.Ytnghmgbmflcngaa
set_option linter.unusedVariables false
open Go.RowKit

theorem rdr_at {w : World} {B g at_ : Nat} {l : List UInt8} {err : Int} (h : Rdr w B g l at_ err) : B ≤ g ∧ g < w.heap.size := by
  obtain ⟨A, n, c, h1, -, -, h2, -, -⟩ := h
  exact ⟨h2, (Array.getElem?_eq_some_iff.1 h1).1⟩
def TldQ (ga : Nat) (cells : Array Value) (w : World) (e : Ending) (w' : World) : Prop := e = .returned (.tuple #[]) ∧ Blk w' ga cells 29 ∧ Kp w w' (fun k => k = ga)
set_option maxRecDepth 100000 in
set_option maxHeartbeats 4000000 in
theorem told_err (op : Int) (qt fu : Bool) (bd : Int) (oq fl ex cs dl ni : Nat) (KQ VQ FK SV f0 f1 f2 f3 f4 f5 f6 f7 f8 : Value) (X V : Option Addr) (nx cx nv cv : Nat) (lx lv : List UInt8) (st : Int) (ac ga : Nat) (w : World) (ka : Blk w ga #[.int .i64 st, .slice none 0 0, .int .u32 (0 : Nat), .int .u64 (ac : Nat), .int .u64 (0 : Nat), SV, .bool false] 29) (rX : Rd w w.heap.size X nx cx lx) (rV : Rd w w.heap.size V nv cv lv) (hst : st ≠ 0) :
    Calls Try.prog 105 #[.agg #[.int .i64 op, .bool qt, .bool fu, .int .i64 bd, .int .u32 (oq : Nat), KQ, VQ, .int .u32 (fl : Nat), .int .u32 (ex : Nat), .int .u64 (cs : Nat), .int .u64 (dl : Nat), .int .u64 (ni : Nat)], .pointer (some ⟨ga, 0, none⟩), .agg #[f0, f1, f2, f3, f4, f5, f6, f7, f8, .slice X nx cx, FK, .slice V nv cv]] w (TldQ ga #[.int .i64 st, .slice none 0 0, .int .u32 (0 : Nat), .int .u64 (ac : Nat), .int .u64 (0 : Nat), SV, .bool false] w) := by
  have k1 := (Blk.new w #[.int .i64 op, .bool qt, .bool fu, .int .i64 bd, .int .u32 (oq : Nat), KQ, VQ, .int .u32 (fl : Nat), .int .u32 (ex : Nat), .int .u64 (cs : Nat), .int .u64 (dl : Nat), .int .u64 (ni : Nat)] 26).alloc (.cells #[f0, f1, f2, f3, f4, f5, f6, f7, f8, .slice X nx cx, FK, .slice V nv cv] 61)
  have k2 := Blk.new (w.alloc (.cells #[.int .i64 op, .bool qt, .bool fu, .int .i64 bd, .int .u32 (oq : Nat), KQ, VQ, .int .u32 (fl : Nat), .int .u32 (ex : Nat), .int .u64 (cs : Nat), .int .u64 (dl : Nat), .int .u64 (ni : Nat)] 26)) #[f0, f1, f2, f3, f4, f5, f6, f7, f8, .slice X nx cx, FK, .slice V nv cv] 61
  have b := below_a1' (below_a1' (Below.refl w.heap.size w) (.cells #[.int .i64 op, .bool qt, .bool fu, .int .i64 bd, .int .u32 (oq : Nat), KQ, VQ, .int .u32 (fl : Nat), .int .u32 (ex : Nat), .int .u64 (cs : Nat), .int .u64 (dl : Nat), .int .u64 (ni : Nat)] 26)) (.cells #[f0, f1, f2, f3, f4, f5, f6, f7, f8, .slice X nx cx, FK, .slice V nv cv] 61)
  rw [World.size_alloc] at k2
  have hgl := ka.lt
  replace ka := ka.step b
  replace rX := rX.below b
  replace rV := rV.below b
  go_enter Try.func105, Try.ntmps105
  go_upto_region 1 with fail
  generalize (w.alloc (.cells #[.int .i64 op, .bool qt, .bool fu, .int .i64 bd, .int .u32 (oq : Nat), KQ, VQ, .int .u32 (fl : Nat), .int .u32 (ex : Nat), .int .u64 (cs : Nat), .int .u64 (dl : Nat), .int .u64 (ni : Nat)] 26)).alloc (.cells #[f0, f1, f2, f3, f4, f5, f6, f7, f8, .slice X nx cx, FK, .slice V nv cv] 61) = W0 at k1 k2 b ka rX rV ⊢
  have HB := Lib.hid (And.intro b (And.intro hgl ka))
  clear hgl
  have es : (st != 0) = true := bne_iff_ne.2 hst
  clear hst b
  obtain ⟨p0, p1, p2, p3, p4, p5, p6⟩ := box7 ka
  obtain ⟨m0, m1, m2, m3, m4, m5, m6, m7, m8, m9, m10, m11⟩ := box12 k1
  obtain ⟨c0, c1, c2, c3, c4, c5, c6, c7, c8, c9, c10, c11⟩ := box12 k2
  clear ka k1 k2
  go_wp2_with fail
  go_end0
  exact ⟨rfl, HB.out.2.2, Kp.of_below HB.out.1 _⟩
set_option maxRecDepth 100000 in
set_option maxHeartbeats 4000000 in
theorem told_oth (op : Int) (qt fu : Bool) (bd : Int) (oq fl ex cs dl ni : Nat) (KQ VQ FK SV f0 f1 f2 f3 f4 f5 f6 f7 f8 : Value) (X V : Option Addr) (nx cx nv cv : Nat) (lx lv : List UInt8) (st : Int) (ac ga : Nat) (w : World) (ka : Blk w ga #[.int .i64 st, .slice none 0 0, .int .u32 (0 : Nat), .int .u64 (ac : Nat), .int .u64 (0 : Nat), SV, .bool false] 29) (rX : Rd w w.heap.size X nx cx lx) (rV : Rd w w.heap.size V nv cv lv) (hst : st = 0) (hr : isRead op = false) (hc : isCount op = false) (hv : op ≠ 11) :
    Calls Try.prog 105 #[.agg #[.int .i64 op, .bool qt, .bool fu, .int .i64 bd, .int .u32 (oq : Nat), KQ, VQ, .int .u32 (fl : Nat), .int .u32 (ex : Nat), .int .u64 (cs : Nat), .int .u64 (dl : Nat), .int .u64 (ni : Nat)], .pointer (some ⟨ga, 0, none⟩), .agg #[f0, f1, f2, f3, f4, f5, f6, f7, f8, .slice X nx cx, FK, .slice V nv cv]] w (TldQ ga #[.int .i64 st, .slice none 0 0, .int .u32 (0 : Nat), .int .u64 (ac : Nat), .int .u64 (0 : Nat), SV, .bool false] w) := by
  have k1 := (Blk.new w #[.int .i64 op, .bool qt, .bool fu, .int .i64 bd, .int .u32 (oq : Nat), KQ, VQ, .int .u32 (fl : Nat), .int .u32 (ex : Nat), .int .u64 (cs : Nat), .int .u64 (dl : Nat), .int .u64 (ni : Nat)] 26).alloc (.cells #[f0, f1, f2, f3, f4, f5, f6, f7, f8, .slice X nx cx, FK, .slice V nv cv] 61)
  have k2 := Blk.new (w.alloc (.cells #[.int .i64 op, .bool qt, .bool fu, .int .i64 bd, .int .u32 (oq : Nat), KQ, VQ, .int .u32 (fl : Nat), .int .u32 (ex : Nat), .int .u64 (cs : Nat), .int .u64 (dl : Nat), .int .u64 (ni : Nat)] 26)) #[f0, f1, f2, f3, f4, f5, f6, f7, f8, .slice X nx cx, FK, .slice V nv cv] 61
  have b := below_a1' (below_a1' (Below.refl w.heap.size w) (.cells #[.int .i64 op, .bool qt, .bool fu, .int .i64 bd, .int .u32 (oq : Nat), KQ, VQ, .int .u32 (fl : Nat), .int .u32 (ex : Nat), .int .u64 (cs : Nat), .int .u64 (dl : Nat), .int .u64 (ni : Nat)] 26)) (.cells #[f0, f1, f2, f3, f4, f5, f6, f7, f8, .slice X nx cx, FK, .slice V nv cv] 61)
  rw [World.size_alloc] at k2
  have hgl := ka.lt
  replace ka := ka.step b
  replace rX := rX.below b
  replace rV := rV.below b
  go_enter Try.func105, Try.ntmps105
  go_upto_region 1 with fail
  generalize (w.alloc (.cells #[.int .i64 op, .bool qt, .bool fu, .int .i64 bd, .int .u32 (oq : Nat), KQ, VQ, .int .u32 (fl : Nat), .int .u32 (ex : Nat), .int .u64 (cs : Nat), .int .u64 (dl : Nat), .int .u64 (ni : Nat)] 26)).alloc (.cells #[f0, f1, f2, f3, f4, f5, f6, f7, f8, .slice X nx cx, FK, .slice V nv cv] 61) = W0 at k1 k2 b ka rX rV ⊢
  have HB := Lib.hid (And.intro b (And.intro hgl ka))
  clear hgl
  have es : (st != 0) = false := bne_eq_false_iff_eq.2 hst
  clear hst
  have HRD : Hid (∀ W, Calls Try.prog 78 #[.int .i64 op] W fun e w' => e = .returned (.bool false) ∧ W = w') := Lib.hid (fun W => hr ▸ rdop_any op W)
  have HCT : Hid (∀ W, Calls Try.prog 79 #[.int .i64 op] W fun e w' => e = .returned (.bool false) ∧ W = w') := Lib.hid (fun W => hc ▸ ctop_any op W)
  have ev : (op == 11) = false := beq_eq_false_iff_ne.2 hv
  clear hr hc hv b
  obtain ⟨p0, p1, p2, p3, p4, p5, p6⟩ := box7 ka
  obtain ⟨m0, m1, m2, m3, m4, m5, m6, m7, m8, m9, m10, m11⟩ := box12 k1
  obtain ⟨c0, c1, c2, c3, c4, c5, c6, c7, c8, c9, c10, c11⟩ := box12 k2
  clear ka k1 k2
  go_wp2_with fail
  refine (HRD.out _).mono ?_
  rintro e w5 ⟨rfl, rfl⟩
  go_wp2_with fail
  refine (HCT.out _).mono ?_
  rintro e w6 ⟨rfl, rfl⟩
  go_wp2_with fail
  go_end0
  exact ⟨rfl, HB.out.2.2, Kp.of_below HB.out.1 _⟩
set_option maxRecDepth 100000 in
set_option maxHeartbeats 4000000 in
theorem told_ver (op : Int) (qt fu : Bool) (bd : Int) (oq fl ex cs dl ni : Nat) (KQ VQ FK SV f0 f1 f2 f3 f4 f5 f6 f7 f8 : Value) (X V : Option Addr) (nx cx nv cv : Nat) (lx lv : List UInt8) (st : Int) (ac ga : Nat) (w : World) (ka : Blk w ga #[.int .i64 st, .slice none 0 0, .int .u32 (0 : Nat), .int .u64 (ac : Nat), .int .u64 (0 : Nat), SV, .bool false] 29) (rX : Rd w w.heap.size X nx cx lx) (rV : Rd w w.heap.size V nv cv lv) (hst : st = 0) (hr : isRead op = false) (hc : isCount op = false) (hv : op = 11) :
    Calls Try.prog 105 #[.agg #[.int .i64 op, .bool qt, .bool fu, .int .i64 bd, .int .u32 (oq : Nat), KQ, VQ, .int .u32 (fl : Nat), .int .u32 (ex : Nat), .int .u64 (cs : Nat), .int .u64 (dl : Nat), .int .u64 (ni : Nat)], .pointer (some ⟨ga, 0, none⟩), .agg #[f0, f1, f2, f3, f4, f5, f6, f7, f8, .slice X nx cx, FK, .slice V nv cv]] w (TldQ ga #[.int .i64 st, .slice V nv cv, .int .u32 (0 : Nat), .int .u64 (ac : Nat), .int .u64 (0 : Nat), SV, .bool false] w) := by
  have es : (st != 0) = false := bne_eq_false_iff_eq.2 hst
  clear hst
  have HRD : Hid (∀ W, Calls Try.prog 78 #[.int .i64 op] W fun e w' => e = .returned (.bool false) ∧ W = w') := Lib.hid (fun W => hr ▸ rdop_any op W)
  have HCT : Hid (∀ W, Calls Try.prog 79 #[.int .i64 op] W fun e w' => e = .returned (.bool false) ∧ W = w') := Lib.hid (fun W => hc ▸ ctop_any op W)
  have ev : (op == 11) = true := beq_iff_eq.2 hv
  clear hr hc hv
  have k1 := (Blk.new w #[.int .i64 op, .bool qt, .bool fu, .int .i64 bd, .int .u32 (oq : Nat), KQ, VQ, .int .u32 (fl : Nat), .int .u32 (ex : Nat), .int .u64 (cs : Nat), .int .u64 (dl : Nat), .int .u64 (ni : Nat)] 26).alloc (.cells #[f0, f1, f2, f3, f4, f5, f6, f7, f8, .slice X nx cx, FK, .slice V nv cv] 61)
  have k2 := Blk.new (w.alloc (.cells #[.int .i64 op, .bool qt, .bool fu, .int .i64 bd, .int .u32 (oq : Nat), KQ, VQ, .int .u32 (fl : Nat), .int .u32 (ex : Nat), .int .u64 (cs : Nat), .int .u64 (dl : Nat), .int .u64 (ni : Nat)] 26)) #[f0, f1, f2, f3, f4, f5, f6, f7, f8, .slice X nx cx, FK, .slice V nv cv] 61
  have b := below_a1' (below_a1' (Below.refl w.heap.size w) (.cells #[.int .i64 op, .bool qt, .bool fu, .int .i64 bd, .int .u32 (oq : Nat), KQ, VQ, .int .u32 (fl : Nat), .int .u32 (ex : Nat), .int .u64 (cs : Nat), .int .u64 (dl : Nat), .int .u64 (ni : Nat)] 26)) (.cells #[f0, f1, f2, f3, f4, f5, f6, f7, f8, .slice X nx cx, FK, .slice V nv cv] 61)
  rw [World.size_alloc] at k2
  have hgl := ka.lt
  replace ka := ka.step b
  replace rX := rX.below b
  replace rV := rV.below b
  go_enter Try.func105, Try.ntmps105
  go_upto_region 1 with fail
  generalize (w.alloc (.cells #[.int .i64 op, .bool qt, .bool fu, .int .i64 bd, .int .u32 (oq : Nat), KQ, VQ, .int .u32 (fl : Nat), .int .u32 (ex : Nat), .int .u64 (cs : Nat), .int .u64 (dl : Nat), .int .u64 (ni : Nat)] 26)).alloc (.cells #[f0, f1, f2, f3, f4, f5, f6, f7, f8, .slice X nx cx, FK, .slice V nv cv] 61) = W0 at k1 k2 b ka rX rV ⊢
  have HB := Lib.hid (And.intro b (And.intro hgl ka))
  clear hgl
  clear b
  obtain ⟨p0, p1, p2, p3, p4, p5, p6⟩ := box7 ka
  obtain ⟨m0, m1, m2, m3, m4, m5, m6, m7, m8, m9, m10, m11⟩ := box12 k1
  obtain ⟨c0, c1, c2, c3, c4, c5, c6, c7, c8, c9, c10, c11⟩ := box12 k2
  have y1 : W0.frozen? ⟨ga, 1, none⟩ = false := ka.frozen 1
  have kS := ka.set_ 1 (.slice V nv cv)
  have gS := rdr_grown_set W0 ga 1 (.slice V nv cv)
  have HS := Lib.hid (And.intro kS gS)
  clear ka k1 k2 kS gS
  go_wp2_with fail
  refine (HRD.out _).mono ?_
  rintro e w5 ⟨rfl, rfl⟩
  go_wp2_with fail
  refine (HCT.out _).mono ?_
  rintro e w6 ⟨rfl, rfl⟩
  go_wp2_with fail
  go_end0
  exact ⟨rfl, HS.out.1, (Kp.of_below HB.out.1 _).after (Kp.of_grown HS.out.2) (fun k _ h => h)⟩
set_option maxRecDepth 100000 in
set_option maxHeartbeats 4000000 in
theorem told_cnt (op : Int) (qt fu : Bool) (bd : Int) (oq fl ex cs dl ni : Nat) (KQ VQ FK SV f0 f1 f2 f3 f4 f5 f6 f7 f8 : Value) (X V : Option Addr) (nx cx nv cv : Nat) (lx lv : List UInt8) (st : Int) (ac ga : Nat) (w : World) (ka : Blk w ga #[.int .i64 st, .slice none 0 0, .int .u32 (0 : Nat), .int .u64 (ac : Nat), .int .u64 (0 : Nat), SV, .bool false] 29) (rX : Rd w w.heap.size X nx cx lx) (rV : Rd w w.heap.size V nv cv lv) (hnv : nv ≤ 281474976710656) (hst : st = 0) (hr : isRead op = false) (hc : isCount op = true) :
    Calls Try.prog 105 #[.agg #[.int .i64 op, .bool qt, .bool fu, .int .i64 bd, .int .u32 (oq : Nat), KQ, VQ, .int .u32 (fl : Nat), .int .u32 (ex : Nat), .int .u64 (cs : Nat), .int .u64 (dl : Nat), .int .u64 (ni : Nat)], .pointer (some ⟨ga, 0, none⟩), .agg #[f0, f1, f2, f3, f4, f5, f6, f7, f8, .slice X nx cx, FK, .slice V nv cv]] w (TldQ ga #[.int .i64 st, .slice none 0 0, .int .u32 (0 : Nat), .int .u64 (ac : Nat), .int .u64 ((numQ (takeR lv 0 0 8).1 % 18446744073709551616) : Nat), SV, .bool false] w) := by
  have es : (st != 0) = false := bne_eq_false_iff_eq.2 hst
  clear hst
  have HRD : Hid (∀ W, Calls Try.prog 78 #[.int .i64 op] W fun e w' => e = .returned (.bool false) ∧ W = w') := Lib.hid (fun W => hr ▸ rdop_any op W)
  have HCT : Hid (∀ W, Calls Try.prog 79 #[.int .i64 op] W fun e w' => e = .returned (.bool true) ∧ W = w') := Lib.hid (fun W => hc ▸ ctop_any op W)
  clear hr hc
  have k1 := (Blk.new w #[.int .i64 op, .bool qt, .bool fu, .int .i64 bd, .int .u32 (oq : Nat), KQ, VQ, .int .u32 (fl : Nat), .int .u32 (ex : Nat), .int .u64 (cs : Nat), .int .u64 (dl : Nat), .int .u64 (ni : Nat)] 26).alloc (.cells #[f0, f1, f2, f3, f4, f5, f6, f7, f8, .slice X nx cx, FK, .slice V nv cv] 61)
  have k2 := Blk.new (w.alloc (.cells #[.int .i64 op, .bool qt, .bool fu, .int .i64 bd, .int .u32 (oq : Nat), KQ, VQ, .int .u32 (fl : Nat), .int .u32 (ex : Nat), .int .u64 (cs : Nat), .int .u64 (dl : Nat), .int .u64 (ni : Nat)] 26)) #[f0, f1, f2, f3, f4, f5, f6, f7, f8, .slice X nx cx, FK, .slice V nv cv] 61
  have b := below_a1' (below_a1' (Below.refl w.heap.size w) (.cells #[.int .i64 op, .bool qt, .bool fu, .int .i64 bd, .int .u32 (oq : Nat), KQ, VQ, .int .u32 (fl : Nat), .int .u32 (ex : Nat), .int .u64 (cs : Nat), .int .u64 (dl : Nat), .int .u64 (ni : Nat)] 26)) (.cells #[f0, f1, f2, f3, f4, f5, f6, f7, f8, .slice X nx cx, FK, .slice V nv cv] 61)
  rw [World.size_alloc] at k2
  have hgl := ka.lt
  replace ka := ka.step b
  replace rX := rX.below b
  replace rV := rV.below b
  go_enter Try.func105, Try.ntmps105
  go_upto_region 1 with fail
  generalize (w.alloc (.cells #[.int .i64 op, .bool qt, .bool fu, .int .i64 bd, .int .u32 (oq : Nat), KQ, VQ, .int .u32 (fl : Nat), .int .u32 (ex : Nat), .int .u64 (cs : Nat), .int .u64 (dl : Nat), .int .u64 (ni : Nat)] 26)).alloc (.cells #[f0, f1, f2, f3, f4, f5, f6, f7, f8, .slice X nx cx, FK, .slice V nv cv] 61) = W0 at k1 k2 b ka rX rV ⊢
  have HB := Lib.hid (And.intro b (And.intro hgl ka))
  clear hgl
  have hbz := b.size
  clear b
  obtain ⟨p0, p1, p2, p3, p4, p5, p6⟩ := box7 ka
  obtain ⟨m0, m1, m2, m3, m4, m5, m6, m7, m8, m9, m10, m11⟩ := box12 k1
  obtain ⟨c0, c1, c2, c3, c4, c5, c6, c7, c8, c9, c10, c11⟩ := box12 k2
  go_wp2_with fail
  refine (HRD.out _).mono ?_
  rintro e w5 ⟨rfl, rfl⟩
  go_wp2_with fail
  refine (HCT.out _).mono ?_
  rintro e w6 ⟨rfl, rfl⟩
  go_wp2_with fail
  refine (read_any V nv cv _ lv _ rV hbz hnv).mono ?_
  rintro e w7 ⟨g, rfl, hR, b7⟩
  have bW := HB.out.1
  have hgl := HB.out.2.1
  obtain ⟨hg1, hg2⟩ := rdr_at hR
  have hgne : ga ≠ g := Nat.ne_of_lt (Nat.lt_of_lt_of_le (Nat.lt_of_lt_of_le hgl bW.size) hg1)
  have hwg : w.heap.size ≤ g := Nat.le_trans bW.size hg1
  have ka7 := HB.out.2.2.step b7
  have bw7 := below_step bW b7
  clear p0 p1 p2 p3 p4 p5 p6 m0 m1 m2 m3 m4 m5 m6 m7 m8 m9 m10 m11 c0 c1 c2 c3 c4 c5 c6 c7 c8 c9 c10 c11 rV rX ka k1 k2 hbz
  go_wp2_with fail
  refine (u64_rd lv 0 0 g _ w7 hR).mono ?_
  rintro e w8 ⟨rfl, -, g8⟩
  have kb := ka7.left g8 hgne
  have bw8 := bw7.trans (below_grown g8 hwg hg2)
  have y4 : w8.frozen? ⟨ga, 4, none⟩ = false := kb.frozen 4
  obtain ⟨v0, v1, v2, v3, v4, v5, v6⟩ := box7 kb
  have HK := Lib.hid (And.intro (kb.set_ 4 (.int .u64 ((numQ (takeR lv 0 0 8).1 % 18446744073709551616) : Nat))) ((Kp.of_below bw8 (fun k => k = ga)).after (Kp.of_grown (rdr_grown_set w8 ga 4 (.int .u64 ((numQ (takeR lv 0 0 8).1 % 18446744073709551616) : Nat)))) (fun k _ h => h)))
  clear hR b7 ka7 hgne g8 kb bw7 bw8 hwg hg1 hg2 bW hgl
  go_wp2_with fail
  go_end0
  exact ⟨rfl, HK.out.1, HK.out.2⟩
set_option maxRecDepth 100000 in
set_option maxHeartbeats 4000000 in
theorem told_read (op : Int) (qt fu : Bool) (bd : Int) (oq fl ex cs dl ni : Nat) (KQ VQ FK SV f0 f1 f2 f3 f4 f5 f6 f7 f8 : Value) (X V : Option Addr) (nx cx nv cv : Nat) (lx lv : List UInt8) (st : Int) (ac ga : Nat) (w : World) (ka : Blk w ga #[.int .i64 st, .slice none 0 0, .int .u32 (0 : Nat), .int .u64 (ac : Nat), .int .u64 (0 : Nat), SV, .bool false] 29) (rX : Rd w w.heap.size X nx cx lx) (rV : Rd w w.heap.size V nv cv lv) (hnx : nx ≤ 281474976710656) (hst : st = 0) (hr : isRead op = true) :
    Calls Try.prog 105 #[.agg #[.int .i64 op, .bool qt, .bool fu, .int .i64 bd, .int .u32 (oq : Nat), KQ, VQ, .int .u32 (fl : Nat), .int .u32 (ex : Nat), .int .u64 (cs : Nat), .int .u64 (dl : Nat), .int .u64 (ni : Nat)], .pointer (some ⟨ga, 0, none⟩), .agg #[f0, f1, f2, f3, f4, f5, f6, f7, f8, .slice X nx cx, FK, .slice V nv cv]] w (TldQ ga #[.int .i64 st, .slice V nv cv, .int .u32 ((numQ (takeR lx 0 0 4).1 % 4294967296) : Nat), .int .u64 (ac : Nat), .int .u64 (0 : Nat), SV, .bool false] w) := by
  have es : (st != 0) = false := bne_eq_false_iff_eq.2 hst
  clear hst
  have HRD : Hid (∀ W, Calls Try.prog 78 #[.int .i64 op] W fun e w' => e = .returned (.bool true) ∧ W = w') := Lib.hid (fun W => hr ▸ rdop_any op W)
  clear hr
  have k1 := (Blk.new w #[.int .i64 op, .bool qt, .bool fu, .int .i64 bd, .int .u32 (oq : Nat), KQ, VQ, .int .u32 (fl : Nat), .int .u32 (ex : Nat), .int .u64 (cs : Nat), .int .u64 (dl : Nat), .int .u64 (ni : Nat)] 26).alloc (.cells #[f0, f1, f2, f3, f4, f5, f6, f7, f8, .slice X nx cx, FK, .slice V nv cv] 61)
  have k2 := Blk.new (w.alloc (.cells #[.int .i64 op, .bool qt, .bool fu, .int .i64 bd, .int .u32 (oq : Nat), KQ, VQ, .int .u32 (fl : Nat), .int .u32 (ex : Nat), .int .u64 (cs : Nat), .int .u64 (dl : Nat), .int .u64 (ni : Nat)] 26)) #[f0, f1, f2, f3, f4, f5, f6, f7, f8, .slice X nx cx, FK, .slice V nv cv] 61
  have b := below_a1' (below_a1' (Below.refl w.heap.size w) (.cells #[.int .i64 op, .bool qt, .bool fu, .int .i64 bd, .int .u32 (oq : Nat), KQ, VQ, .int .u32 (fl : Nat), .int .u32 (ex : Nat), .int .u64 (cs : Nat), .int .u64 (dl : Nat), .int .u64 (ni : Nat)] 26)) (.cells #[f0, f1, f2, f3, f4, f5, f6, f7, f8, .slice X nx cx, FK, .slice V nv cv] 61)
  rw [World.size_alloc] at k2
  have hgl := ka.lt
  replace ka := ka.step b
  replace rX := rX.below b
  replace rV := rV.below b
  go_enter Try.func105, Try.ntmps105
  go_upto_region 1 with fail
  generalize (w.alloc (.cells #[.int .i64 op, .bool qt, .bool fu, .int .i64 bd, .int .u32 (oq : Nat), KQ, VQ, .int .u32 (fl : Nat), .int .u32 (ex : Nat), .int .u64 (cs : Nat), .int .u64 (dl : Nat), .int .u64 (ni : Nat)] 26)).alloc (.cells #[f0, f1, f2, f3, f4, f5, f6, f7, f8, .slice X nx cx, FK, .slice V nv cv] 61) = W0 at k1 k2 b ka rX rV ⊢
  have HB := Lib.hid (And.intro b (And.intro hgl ka))
  clear hgl
  clear b
  obtain ⟨p0, p1, p2, p3, p4, p5, p6⟩ := box7 ka
  obtain ⟨m0, m1, m2, m3, m4, m5, m6, m7, m8, m9, m10, m11⟩ := box12 k1
  obtain ⟨c0, c1, c2, c3, c4, c5, c6, c7, c8, c9, c10, c11⟩ := box12 k2
  go_wp2_with fail
  refine (HRD.out _).mono ?_
  rintro e w5 ⟨rfl, rfl⟩
  go_upto_region 3 with fail
  clear p0 p1 p2 p3 p4 p5 p6 m0 m1 m2 m3 m4 m5 m6 m7 m8 m9 m10 m11 c0 c1 c2 c3 c4 c5 c6 c7 c8 c9 c10 c11
  have hcut0 : True := trivial
  refine wp_region_noPanic ?_
  refine region_T (fun wx => Blk wx (w.heap.size + 1) #[f0, f1, f2, f3, f4, f5, f6, f7, f8, .slice X nx cx, FK, .slice V nv cv] 61) 13 (by kernel_rfl) ?_
  have bD : Below W0.heap.size W0 W0.drew := (Below.refl _ _).drew
  have hHeld := k2.step bD
  have kaD := ka.step bD
  have rXD : Rd W0.drew w.heap.size X nx cx lx := rX
  have bWD := below_step HB.out.1 bD
  have hbz : w.heap.size ≤ W0.drew.heap.size := bWD.size
  generalize W0.drew = Y0 at hHeld kaD rXD bWD hbz ⊢
  refine takeT (i := 0) (v := ?_) rfl (by kernel_rfl) (by kernel_rfl) (by decide) (by kernel_rfl) (by kernel_rfl) (fun _ _ _ h => h) (Or.inl ⟨by rfl, ?_⟩) hHeld ?_
  rotate_left
  · (intro wx hSw; obtain ⟨a0, a1, a2, a3, a4, a5, a6, a7, a8, a9, a10, a11⟩ := box12 hSw; go_simp; try (with_reducible rfl))
  try simp only [Act.put, List.setIfInBounds_toArray, List.set_cons_zero, List.set_cons_succ]
  refine takeT (i := 1) (v := ?_) rfl (by kernel_rfl) (by kernel_rfl) (by decide) (by kernel_rfl) (by kernel_rfl) (fun _ _ _ h => h) (Or.inl ⟨by rfl, ?_⟩) hHeld ?_
  rotate_left
  · (intro wx hSw; obtain ⟨a0, a1, a2, a3, a4, a5, a6, a7, a8, a9, a10, a11⟩ := box12 hSw; go_simp; try (with_reducible rfl))
  try simp only [Act.put, List.setIfInBounds_toArray, List.set_cons_zero, List.set_cons_succ]
  refine takeT (i := 2) (v := ?_) rfl (by kernel_rfl) (by kernel_rfl) (by decide) (by kernel_rfl) (by kernel_rfl) (fun _ _ _ h => h) (Or.inl ⟨by rfl, ?_⟩) hHeld ?_
  rotate_left
  · (intro wx hSw; obtain ⟨a0, a1, a2, a3, a4, a5, a6, a7, a8, a9, a10, a11⟩ := box12 hSw; go_simp; try (with_reducible rfl))
  try simp only [Act.put, List.setIfInBounds_toArray, List.set_cons_zero, List.set_cons_succ]
  refine takeT (i := 3) (v := ?_) rfl (by kernel_rfl) (by kernel_rfl) (by decide) (by kernel_rfl) (by kernel_rfl) (fun _ _ _ h => h) (Or.inl ⟨by rfl, ?_⟩) hHeld ?_
  rotate_left
  · (intro wx hSw; obtain ⟨a0, a1, a2, a3, a4, a5, a6, a7, a8, a9, a10, a11⟩ := box12 hSw; go_simp; try (with_reducible rfl))
  try simp only [Act.put, List.setIfInBounds_toArray, List.set_cons_zero, List.set_cons_succ]
  refine takeT (i := 6) (v := ?_) rfl (by kernel_rfl) (by kernel_rfl) (by decide) (by kernel_rfl) (by kernel_rfl) (fun _ _ _ h => h) (Or.inl ⟨by rfl, ?_⟩) hHeld ?_
  rotate_left
  · (intro wx hSw; obtain ⟨a0, a1, a2, a3, a4, a5, a6, a7, a8, a9, a10, a11⟩ := box12 hSw; go_simp; try (with_reducible rfl))
  try simp only [Act.put, List.setIfInBounds_toArray, List.set_cons_zero, List.set_cons_succ]
  refine takeT (i := 7) (v := ?_) rfl (by kernel_rfl) (by kernel_rfl) (by decide) (by kernel_rfl) (by kernel_rfl) (fun _ _ _ h => h) (Or.inl ⟨by rfl, ?_⟩) hHeld ?_
  rotate_left
  · (intro wx hSw; obtain ⟨a0, a1, a2, a3, a4, a5, a6, a7, a8, a9, a10, a11⟩ := box12 hSw; go_simp; try (with_reducible rfl))
  try simp only [Act.put, List.setIfInBounds_toArray, List.set_cons_zero, List.set_cons_succ]
  refine oneT (i := 4) rfl (by kernel_rfl) (fun KK hK => ?_)
  go_simp
  refine (read_any X nx cx _ lx _ rXD hbz hnx).mono ?_
  rintro e Y1 ⟨g, rfl, hR, b7⟩
  obtain ⟨hg1, hg2⟩ := rdr_at hR
  have hgl := HB.out.2.1
  have hgne : ga ≠ g := Nat.ne_of_lt (Nat.lt_of_lt_of_le (Nat.lt_of_lt_of_le hgl hbz) hg1)
  have hwg : w.heap.size ≤ g := Nat.le_trans hbz hg1
  have hfne : w.heap.size + 1 ≠ g := Nat.ne_of_lt (Nat.lt_of_lt_of_le hHeld.lt hg1)
  replace hHeld := hHeld.step b7
  replace kaD := kaD.step b7
  replace bWD := below_step bWD b7
  refine hK.out _ _ (fun _ => hHeld) ?_
  clear hK KK
  try simp only [Act.put, List.setIfInBounds_toArray, List.set_cons_zero, List.set_cons_succ]
  refine oneT (i := 5) rfl (by kernel_rfl) (fun KK hK => ?_)
  go_simp
  refine (u32_rd lx 0 0 g _ Y1 hR).mono ?_
  rintro e Y2 ⟨rfl, -, g8⟩
  replace hHeld := hHeld.leftC g8 hfne
  replace kaD := kaD.leftC g8 hgne
  replace bWD := bWD.trans (below_grown g8 hwg hg2)
  refine hK.out _ _ (fun _ => hHeld) ?_
  clear hK KK
  try simp only [Act.put, List.setIfInBounds_toArray, List.set_cons_zero, List.set_cons_succ]
  refine takeT (i := 8) (v := ?_) rfl (by kernel_rfl) (by kernel_rfl) (by decide) (by kernel_rfl) (by kernel_rfl) (fun _ _ _ h => h) (Or.inl ⟨by rfl, ?_⟩) hHeld ?_
  rotate_left
  · (intro wx hSw; obtain ⟨a0, a1, a2, a3, a4, a5, a6, a7, a8, a9, a10, a11⟩ := box12 hSw; go_simp; try (with_reducible rfl))
  try simp only [Act.put, List.setIfInBounds_toArray, List.set_cons_zero, List.set_cons_succ]
  refine takeT (i := 9) (v := ?_) rfl (by kernel_rfl) (by kernel_rfl) (by decide) (by kernel_rfl) (by kernel_rfl) (fun _ _ _ h => h) (Or.inl ⟨by rfl, ?_⟩) hHeld ?_
  rotate_left
  · (intro wx hSw; obtain ⟨a0, a1, a2, a3, a4, a5, a6, a7, a8, a9, a10, a11⟩ := box12 hSw; go_simp; try (with_reducible rfl))
  try simp only [Act.put, List.setIfInBounds_toArray, List.set_cons_zero, List.set_cons_succ]
  have kS := (kaD.set_ 2 (.int .u32 ((numQ (takeR lx 0 0 4).1 % 4294967296) : Nat))).set_ 1 (.slice V nv cv)
  have gS := grown_trans (rdr_grown_set Y2 ga 2 (.int .u32 ((numQ (takeR lx 0 0 4).1 % 4294967296) : Nat))) (rdr_grown_set _ ga 1 (.slice V nv cv))
  have HK := Lib.hid (And.intro kS ((Kp.of_below bWD (fun k => k = ga)).after (Kp.of_grown gS) (fun k _ h => h)))
  have y2 : Y2.frozen? ⟨ga, 2, none⟩ = false := kaD.frozen 2
  have y1 : Y2.frozen? ⟨ga, 1, none⟩ = false := kaD.frozen 1
  obtain ⟨p0, p1, p2, p3, p4, p5, p6⟩ := box7 kaD
  have hHeld2 := hHeld.leftC (rdr_grown_set Y2 ga 2 (.int .u32 ((numQ (takeR lx 0 0 4).1 % 4294967296) : Nat))) (fun e => absurd hgl (by rw [← e]; exact Nat.not_lt.2 (Nat.le_succ _)))
  clear kS gS hR b7 hgne hwg hfne g8 hg1 hg2 hgl bWD kaD
  refine oneT (i := 10) rfl (by kernel_rfl) (fun KK hK => ?_)
  go_simp
  refine hK.out _ _ (fun _ => hHeld2) ?_
  clear hK KK
  try simp only [Act.put, List.setIfInBounds_toArray, List.set_cons_zero, List.set_cons_succ]
  refine oneT (i := 11) rfl (by kernel_rfl) (fun KK hK => ?_)
  go_simp
  refine hK.out _ _ (fun _ => hHeld2) ?_
  clear hK KK
  try simp only [Act.put, List.setIfInBounds_toArray, List.set_cons_zero, List.set_cons_succ]
  refine oneT (i := 12) rfl (by kernel_rfl) (fun KK hK => ?_)
  go_simp
  refine hK.out _ _ (fun _ => hHeld2) ?_
  clear hK KK
  try simp only [Act.put, List.setIfInBounds_toArray, List.set_cons_zero, List.set_cons_succ]
  refine oneT (i := 13) rfl (by kernel_rfl) (fun KK hK => ?_)
  go_simp
  refine hK.out _ _ (fun h => absurd h (by decide)) ?_
  clear hK KK
  try simp only [Act.put, List.setIfInBounds_toArray, List.set_cons_zero, List.set_cons_succ]
  refine doneT (by kernel_rfl) ?_ _
  refine NoPanic.normal ?_
  clear hHeld hHeld2
  go_wp2_with fail
  go_end0
  exact ⟨rfl, HK.out.1, HK.out.2⟩
/-- The answer's cells, when the last frame is told. -/
def lastA (op : Int) (lx lv : List UInt8) (st : Int) (ac : Nat) (VV SV : Value) : Array Value :=
  if st ≠ 0 then #[.int .i64 st, .slice none 0 0, .int .u32 (0 : Nat), .int .u64 (ac : Nat), .int .u64 (0 : Nat), SV, .bool false] else if isRead op = true then #[.int .i64 st, VV, .int .u32 ((numQ (takeR lx 0 0 4).1 % 4294967296) : Nat), .int .u64 (ac : Nat), .int .u64 (0 : Nat), SV, .bool false] else if isCount op = true then #[.int .i64 st, .slice none 0 0, .int .u32 (0 : Nat), .int .u64 (ac : Nat), .int .u64 ((numQ (takeR lv 0 0 8).1 % 18446744073709551616) : Nat), SV, .bool false] else if op = 11 then #[.int .i64 st, VV, .int .u32 (0 : Nat), .int .u64 (ac : Nat), .int .u64 (0 : Nat), SV, .bool false] else #[.int .i64 st, .slice none 0 0, .int .u32 (0 : Nat), .int .u64 (ac : Nat), .int .u64 (0 : Nat), SV, .bool false]
theorem told_all (op : Int) (qt fu : Bool) (bd : Int) (oq fl ex cs dl ni : Nat) (KQ VQ FK SV f0 f1 f2 f3 f4 f5 f6 f7 f8 : Value) (X V : Option Addr) (nx cx nv cv : Nat) (lx lv : List UInt8) (st : Int) (ac ga : Nat) (w : World) (ka : Blk w ga #[.int .i64 st, .slice none 0 0, .int .u32 (0 : Nat), .int .u64 (ac : Nat), .int .u64 (0 : Nat), SV, .bool false] 29) (rX : Rd w w.heap.size X nx cx lx) (rV : Rd w w.heap.size V nv cv lv) (hnx : nx ≤ 281474976710656) (hnv : nv ≤ 281474976710656) :
    Calls Try.prog 105 #[.agg #[.int .i64 op, .bool qt, .bool fu, .int .i64 bd, .int .u32 (oq : Nat), KQ, VQ, .int .u32 (fl : Nat), .int .u32 (ex : Nat), .int .u64 (cs : Nat), .int .u64 (dl : Nat), .int .u64 (ni : Nat)], .pointer (some ⟨ga, 0, none⟩), .agg #[f0, f1, f2, f3, f4, f5, f6, f7, f8, .slice X nx cx, FK, .slice V nv cv]] w (TldQ ga (lastA op lx lv st ac (.slice V nv cv) SV) w) := by
  unfold lastA
  by_cases h1 : st = 0
  · rw [if_neg (fun h => h h1)]
    by_cases h2 : isRead op = true
    · rw [if_pos h2]; exact told_read op qt fu bd oq fl ex cs dl ni KQ VQ FK SV f0 f1 f2 f3 f4 f5 f6 f7 f8 X V nx cx nv cv lx lv st ac ga w ka rX rV hnx h1 h2
    · rw [if_neg h2]
      have h2' : isRead op = false := by cases h : isRead op with | false => rfl | true => exact absurd h h2
      by_cases h3 : isCount op = true
      · rw [if_pos h3]; exact told_cnt op qt fu bd oq fl ex cs dl ni KQ VQ FK SV f0 f1 f2 f3 f4 f5 f6 f7 f8 X V nx cx nv cv lx lv st ac ga w ka rX rV hnv h1 h2' h3
      · rw [if_neg h3]
        have h3' : isCount op = false := by cases h : isCount op with | false => rfl | true => exact absurd h h3
        by_cases h4 : op = 11
        · rw [if_pos h4]; exact told_ver op qt fu bd oq fl ex cs dl ni KQ VQ FK SV f0 f1 f2 f3 f4 f5 f6 f7 f8 X V nx cx nv cv lx lv st ac ga w ka rX rV h1 h2' h3' h4
        · rw [if_neg h4]; exact told_oth op qt fu bd oq fl ex cs dl ni KQ VQ FK SV f0 f1 f2 f3 f4 f5 f6 f7 f8 X V nx cx nv cv lx lv st ac ga w ka rX rV h1 h2' h3' h4
  · rw [if_pos h1]; exact told_err op qt fu bd oq fl ex cs dl ni KQ VQ FK SV f0 f1 f2 f3 f4 f5 f6 f7 f8 X V nx cx nv cv lx lv st ac ga w ka rX rV h1
end Go.Proofs.Ytnghmgbmflcngaa

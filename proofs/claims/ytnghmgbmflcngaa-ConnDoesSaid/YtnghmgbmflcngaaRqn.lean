/- icehouseref20.Request. Conditions: typed in each theorem. -/
import Derived.Test.YtnghmgbmflcngaaFnd
import Derived.Test.YtnghmgbmflcngaaZpar
import Derived.Test.YtnghmgbmflcngaaNu20
import Derived.Test.YtnghmgbmflcngaaZhld
import Derived.Deep.DeepCutAuto
namespace Go.Proofs.Ytnghmgbmflcngaa
set_option linter.unusedVariables false
open Go.RowKit
theorem findT_all (c : Nat) (h : c < 256) : findT (c : Nat) = (rowOf c).map fun r => ((c, r.1, r.2.1, r.2.2, (shapeOf r.1).1, (shapeOf r.1).2.1, (shapeOf r.1).2.2) : TRw) := by
  have hall : ((List.range 256).map fun c => findT (c : Nat)) = (List.range 256).map fun c => (rowOf c).map fun r => ((c, r.1, r.2.1, r.2.2, (shapeOf r.1).1, (shapeOf r.1).2.1, (shapeOf r.1).2.2) : TRw) := by kernel_rfl
  have h2 := congrArg (fun l => l[c]?) hall
  simpa [List.getElem?_map, List.getElem?_range h] using h2
theorem rowOf_big : ∀ r ∈ tblT, r.1 < 256 := by decide +kernel
theorem findT_none {op : Nat} (hr : rowOf op = none) : findT (op : Nat) = none := by
  by_cases h : op < 256
  · rw [findT_all op h, hr]; rfl
  · refine find_none _ _ fun i x hx => decide_eq_false fun e => ?_
    have := rowOf_big x (List.mem_of_getElem? hx)
    omega
theorem findT_some {op o : Nat} {q f : Bool} {sx : Nat} {sk sv : Bool} (hop : op < 256) (hr : rowOf op = some (o, q, f)) (hs : shapeOf (o : Int) = (sx, sk, sv)) : findT (op : Nat) = some (op, o, q, f, sx, sk, sv) := by
  rw [findT_all op hop, hr]
  simp only [Option.map_some, hs]
theorem num4 {l : List UInt8} (h : l.length = 4) : IntKind.u32.wrap ((numQ l : Nat) : Int) = ((fld l 0 4 : Nat) : Int) := by
  have e : numQ ((l.drop 0).take 4) % 4294967296 = fld l 0 4 := num_in (by omega) (by decide)
  rw [List.drop_zero, List.take_of_length_le (by omega)] at e
  rw [wrapu32, e]
theorem num8a {l : List UInt8} (h : l.length = 8) : IntKind.u32.wrap ((numQ (l.take 4) : Nat) : Int) = ((fld l 0 4 : Nat) : Int) := by
  have e : numQ ((l.drop 0).take 4) % 4294967296 = fld l 0 4 := num_in (by omega) (by decide)
  rw [List.drop_zero] at e
  rw [wrapu32, e]
theorem num8b {l : List UInt8} (h : l.length = 8) : IntKind.u32.wrap ((numQ (l.drop 4) : Nat) : Int) = ((fld l 4 4 : Nat) : Int) := by
  have e : numQ ((l.drop 4).take 4) % 4294967296 = fld l 4 4 := num_in (by omega) (by decide)
  rw [List.take_of_length_le (by rw [List.length_drop]; omega)] at e
  rw [wrapu32, e]
theorem num20a {l : List UInt8} (h : l.length = 20) : ((numQ (l.take 8) : Nat) : Int) = ((fld l 0 8 : Nat) : Int) := by
  have e : numQ ((l.drop 0).take 8) % 18446744073709551616 = fld l 0 8 := num_in (by omega) (by decide)
  rw [List.drop_zero, Nat.mod_eq_of_lt (numQ_lt _)] at e
  rw [e]
theorem num20b {l : List UInt8} (h : l.length = 20) : ((numQ ((l.take 16).drop 8) : Nat) : Int) = ((fld l 8 8 : Nat) : Int) := by
  have e : numQ ((l.drop 8).take 8) % 18446744073709551616 = fld l 8 8 := num_in (by omega) (by decide)
  rw [Nat.mod_eq_of_lt (numQ_lt _)] at e
  rw [List.drop_take, e]
theorem num20c {l : List UInt8} (h : l.length = 20) : IntKind.u32.wrap ((numQ (l.drop 16) : Nat) : Int) = ((fld l 16 4 : Nat) : Int) := by
  have e : numQ ((l.drop 16).take 4) % 4294967296 = fld l 16 4 := num_in (by omega) (by decide)
  rw [List.take_of_length_le (by rw [List.length_drop]; omega)] at e
  rw [wrapu32, e]
def rowR (o : Nat) (q f bx bb : Bool) (oq cas nx nv : Nat) (lx lk lv : List UInt8) : RQ :=
  if bb = true then ⟨o, q, f, 4, oq, [], [], 0, 0, 0, 0, 0⟩ else if 512 < nv then ⟨o, q, f, 3, oq, [], [], 0, 0, 0, 0, 0⟩
  else ⟨o, q, f, 0, oq, lk, lv, flOf nx lx, exOf nx lx, cas, dlOf nx lx, niOf nx lx⟩
set_option maxRecDepth 100000 in
set_option maxHeartbeats 8000000 in
theorem rqn_unk (mg op kl el ty st bl oq cas : Nat) (X K V : Option Addr) (nx cx nk ck nv cv : Nat) (lx lk lv : List UInt8) (w : World) (rX : Rd w w.heap.size X nx cx lx) (rK : Rd w w.heap.size K nk ck lk) (rV : Rd w w.heap.size V nv cv lv) (hop : op < 256) (hr : rowOf op = none) :
    Calls Try.prog 56 #[frV mg op kl el ty st bl oq cas (.slice X nx cx) (.slice K nk ck) (.slice V nv cv)] w (ReqQ (op : Int) false false 129 oq [] [] 0 0 0 0 0 w) := by
  have HFD : Hid (∀ W, Calls Try.prog 93 #[.int .i64 (op : Nat)] W fun e w' => e = .returned (.tuple #[.agg #[.int .i64 0, .int .i64 0, .bool false, .bool false, .int .i64 0, .bool false, .bool false], .bool false]) ∧ Below W.heap.size W w') := Lib.hid fun W => (find_any _ W).mono fun e w' h => by unfold FindQ at h; rw [findT_none hr] at h; exact h
  clear hr
  have k1 := (Blk.new w #[.int .u8 (mg : Nat), .int .u8 (op : Nat), .int .u16 (kl : Nat), .int .u8 (el : Nat), .int .u8 (ty : Nat), .int .u16 (st : Nat), .int .u32 (bl : Nat), .int .u32 (oq : Nat), .int .u64 (cas : Nat), .slice X nx cx, .slice K nk ck, .slice V nv cv] 61).alloc (.cells #[.int .i64 0, .bool false, .bool false, .int .i64 0, .int .u32 0, .slice none 0 0, .slice none 0 0, .int .u32 0, .int .u32 0, .int .u64 0, .int .u64 0, .int .u64 0] 26)
  have k2 := Blk.new (w.alloc (.cells #[.int .u8 (mg : Nat), .int .u8 (op : Nat), .int .u16 (kl : Nat), .int .u8 (el : Nat), .int .u8 (ty : Nat), .int .u16 (st : Nat), .int .u32 (bl : Nat), .int .u32 (oq : Nat), .int .u64 (cas : Nat), .slice X nx cx, .slice K nk ck, .slice V nv cv] 61)) #[.int .i64 0, .bool false, .bool false, .int .i64 0, .int .u32 0, .slice none 0 0, .slice none 0 0, .int .u32 0, .int .u32 0, .int .u64 0, .int .u64 0, .int .u64 0] 26
  have b := below_a1' (below_a1' (Below.refl w.heap.size w) (.cells #[.int .u8 (mg : Nat), .int .u8 (op : Nat), .int .u16 (kl : Nat), .int .u8 (el : Nat), .int .u8 (ty : Nat), .int .u16 (st : Nat), .int .u32 (bl : Nat), .int .u32 (oq : Nat), .int .u64 (cas : Nat), .slice X nx cx, .slice K nk ck, .slice V nv cv] 61)) (.cells #[.int .i64 0, .bool false, .bool false, .int .i64 0, .int .u32 0, .slice none 0 0, .slice none 0 0, .int .u32 0, .int .u32 0, .int .u64 0, .int .u64 0, .int .u64 0] 26)
  rw [World.size_alloc] at k2
  unfold frV frC
  go_enter Try.func56, Try.ntmps56
  go_upto_region 1 with fail
  generalize (w.alloc (.cells #[.int .u8 (mg : Nat), .int .u8 (op : Nat), .int .u16 (kl : Nat), .int .u8 (el : Nat), .int .u8 (ty : Nat), .int .u16 (st : Nat), .int .u32 (bl : Nat), .int .u32 (oq : Nat), .int .u64 (cas : Nat), .slice X nx cx, .slice K nk ck, .slice V nv cv] 61)).alloc (.cells #[.int .i64 0, .bool false, .bool false, .int .i64 0, .int .u32 0, .slice none 0 0, .slice none 0 0, .int .u32 0, .int .u32 0, .int .u64 0, .int .u64 0, .int .u64 0] 26) = W0 at k1 k2 b ⊢
  have ho : IntKind.i64.wrap ((op : Nat) : Int) = ((op : Nat) : Int) := wrap_small (by omega) (by omega)
  obtain ⟨p0, p1, p2, p3, p4, p5, p6, p7, p8, p9, p10, p11⟩ := box12 k1
  go_upto_region 2 with fail
  have k6 := Blk.new W0 #[.int .i64 (op : Nat), .bool false, .bool false, .int .i64 0, .int .u32 (oq : Nat), .slice none 0 0, .slice none 0 0, .int .u32 0, .int .u32 0, .int .u64 0, .int .u64 0, .int .u64 0] 26
  have b4 := below_a1' (Below.refl W0.heap.size W0) (.cells #[.int .i64 (op : Nat), .bool false, .bool false, .int .i64 0, .int .u32 (oq : Nat), .slice none 0 0, .slice none 0 0, .int .u32 0, .int .u32 0, .int .u64 0, .int .u64 0, .int .u64 0] 26)
  have hg6 := k2.lt
  replace k1 := k1.step b4
  replace k2 := k2.step b4
  replace b := below_step b b4
  clear b4 ho p0 p1 p2 p3 p4 p5 p6 p7 p8 p9 p10 p11
  generalize W0.alloc (.cells #[.int .i64 (op : Nat), .bool false, .bool false, .int .i64 0, .int .u32 (oq : Nat), .slice none 0 0, .slice none 0 0, .int .u32 0, .int .u32 0, .int .u64 0, .int .u64 0, .int .u64 0] 26) = W2 at k1 k2 k6 b ⊢
  generalize W0.heap.size = g6 at k6 hg6 ⊢
  obtain ⟨z0, z1, z2, z3, z4, z5, z6, z7, z8, z9, z10, z11⟩ := box12 k6
  go_wp2_with fail
  refine (HFD.out W2).mono ?_
  rintro e w3 ⟨rfl, b1⟩
  replace k1 := k1.step b1
  replace k2 := k2.step b1
  replace k6 := k6.step b1
  replace b := below_step b b1
  clear b1 z0 z1 z2 z3 z4 z5 z6 z7 z8 z9 z10 z11
  go_upto_region 3 with fail
  have k4 := Blk.new w3 #[.int .i64 0, .int .i64 0, .bool false, .bool false, .int .i64 0, .bool false, .bool false] 144
  have b4 := below_a1' (Below.refl w3.heap.size w3) (.cells #[.int .i64 0, .int .i64 0, .bool false, .bool false, .int .i64 0, .bool false, .bool false] 144)
  have hg4 := k6.lt
  replace k1 := k1.step b4
  replace k2 := k2.step b4
  replace k6 := k6.step b4
  replace b := below_step b b4
  clear b4
  generalize w3.alloc (.cells #[.int .i64 0, .int .i64 0, .bool false, .bool false, .int .i64 0, .bool false, .bool false] 144) = W4 at k1 k2 k4 k6 b ⊢
  generalize w3.heap.size = g4 at k4 hg4 ⊢
  have y3 := k6.frozen 3
  obtain ⟨z0, z1, z2, z3, z4, z5, z6, z7, z8, z9, z10, z11⟩ := box12 k6
  go_upto_region 5 with fail
  have kq := k6
  have gq := rdr_grown_set W4 g6 3 (.int .i64 129)
  replace k1 := k1.leftC gq (by omega)
  replace k2 := k2.leftC gq (by omega)
  replace b := b.trans (below_grown gq (by omega) kq.lt)
  replace kq : Blk (W4.setCell ⟨g6, 3, none⟩ (.int .i64 129)) g6 #[.int .i64 (op : Nat), .bool false, .bool false, .int .i64 129, .int .u32 (oq : Nat), .slice none 0 0, .slice none 0 0, .int .u32 0, .int .u32 0, .int .u64 0, .int .u64 0, .int .u64 0] 26 := kq.set_ 3 _
  clear gq y3 k6 k4 z0 z1 z2 z3 z4 z5 z6 z7 z8 z9 z10 z11
  generalize W4.setCell ⟨g6, 3, none⟩ (.int .i64 129) = W5 at kq k1 k2 b ⊢
  obtain ⟨z0, z1, z2, z3, z4, z5, z6, z7, z8, z9, z10, z11⟩ := box12 kq
  obtain ⟨u0, u1, u2, u3, u4, u5, u6, u7, u8, u9, u10, u11⟩ := box12 k2
  have y0 := k2.frozen 0
  have y1 := k2.frozen 1
  have y2 := k2.frozen 2
  have y3 := k2.frozen 3
  have y4 := k2.frozen 4
  have y5 := k2.frozen 5
  have y6 := k2.frozen 6
  have y7 := k2.frozen 7
  have y8 := k2.frozen 8
  have y9 := k2.frozen 9
  have y10 := k2.frozen 10
  have y11 := k2.frozen 11
  have kf := blk_set12 k2 (.int .i64 (op : Nat)) (.bool false) (.bool false) (.int .i64 129) (.int .u32 (oq : Nat)) (.slice none 0 0) (.slice none 0 0) (.int .u32 0) (.int .u32 0) (.int .u64 0) (.int .u64 0) (.int .u64 0)
  have gs := grown_set12 W5 (w.heap.size + 1) (.int .i64 (op : Nat)) (.bool false) (.bool false) (.int .i64 129) (.int .u32 (oq : Nat)) (.slice none 0 0) (.slice none 0 0) (.int .u32 0) (.int .u32 0) (.int .u64 0) (.int .u64 0) (.int .u64 0)
  have bf := b.trans (below_grown gs (by omega) k2.lt)
  obtain ⟨t0, t1, t2, t3, t4, t5, t6, t7, t8, t9, t10, t11⟩ := box12 kf
  clear kf gs b k1 k2 kq
  go_wp2_with fail
  refine bodyPost_ret (v := .agg #[.int .i64 (op : Nat), .bool false, .bool false, .int .i64 129, .int .u32 (oq : Nat), .slice none 0 0, .slice none 0 0, .int .u32 0, .int .u32 0, .int .u64 0, .int .u64 0, .int .u64 0]) (by simp [results, Try.results56, go_sem, t0, t1, t2, t3, t4, t5, t6, t7, t8, t9, t10, t11]) rfl ?_
  exact ⟨_, _, _, _, _, _, rfl, Own.nil _ _, Own.nil _ _, bf⟩
set_option maxRecDepth 100000 in
set_option maxHeartbeats 8000000 in
theorem rqn_row (mg op kl el ty st bl oq cas : Nat) (X K V : Option Addr) (nx cx nk ck nv cv : Nat) (lx lk lv : List UInt8) (w : World) (rX : Rd w w.heap.size X nx cx lx) (rK : Rd w w.heap.size K nk ck lk) (rV : Rd w w.heap.size V nv cv lv) (hop : op < 256) (o : Nat) (q f : Bool) (hr : rowOf op = some (o, q, f)) (sx : Nat) (sk sv : Bool) (hs : shapeOf (o : Int) = (sx, sk, sv)) (bx bb : Bool) (HBX : Hid (bx = (decide (nx = sx) || (decide (o = 8) && decide (nx = 4))))) (HBB : Hid (bb = (!bx || (decide (0 < nk) != sk) || decide (250 < nk) || (decide (0 < nv) && !sv)))) (HBK : Hid (bb = false → nk ≤ 250)) (hn : bb = false → nx = 0 ∨ nx = 4 ∨ nx = 8 ∨ nx = 20) :
    Calls Try.prog 56 #[frV mg op kl el ty st bl oq cas (.slice X nx cx) (.slice K nk ck) (.slice V nv cv)] w (ReqA (rowR o q f bx bb oq cas nx nv lx lk lv) w) := by
  have HFD : Hid (∀ W, Calls Try.prog 93 #[.int .i64 (op : Nat)] W fun e w' => e = .returned (.tuple #[.agg #[.int .i64 (op : Nat), .int .i64 (o : Nat), .bool q, .bool f, .int .i64 (sx : Nat), .bool sk, .bool sv], .bool true]) ∧ Below W.heap.size W w') := Lib.hid fun W => (find_any _ W).mono fun e w' h => by unfold FindQ at h; rw [findT_some hop hr hs] at h; exact h
  have HN := Lib.hid hn
  clear hr hs hn
  have k1 := (Blk.new w #[.int .u8 (mg : Nat), .int .u8 (op : Nat), .int .u16 (kl : Nat), .int .u8 (el : Nat), .int .u8 (ty : Nat), .int .u16 (st : Nat), .int .u32 (bl : Nat), .int .u32 (oq : Nat), .int .u64 (cas : Nat), .slice X nx cx, .slice K nk ck, .slice V nv cv] 61).alloc (.cells #[.int .i64 0, .bool false, .bool false, .int .i64 0, .int .u32 0, .slice none 0 0, .slice none 0 0, .int .u32 0, .int .u32 0, .int .u64 0, .int .u64 0, .int .u64 0] 26)
  have k2 := Blk.new (w.alloc (.cells #[.int .u8 (mg : Nat), .int .u8 (op : Nat), .int .u16 (kl : Nat), .int .u8 (el : Nat), .int .u8 (ty : Nat), .int .u16 (st : Nat), .int .u32 (bl : Nat), .int .u32 (oq : Nat), .int .u64 (cas : Nat), .slice X nx cx, .slice K nk ck, .slice V nv cv] 61)) #[.int .i64 0, .bool false, .bool false, .int .i64 0, .int .u32 0, .slice none 0 0, .slice none 0 0, .int .u32 0, .int .u32 0, .int .u64 0, .int .u64 0, .int .u64 0] 26
  have b := below_a1' (below_a1' (Below.refl w.heap.size w) (.cells #[.int .u8 (mg : Nat), .int .u8 (op : Nat), .int .u16 (kl : Nat), .int .u8 (el : Nat), .int .u8 (ty : Nat), .int .u16 (st : Nat), .int .u32 (bl : Nat), .int .u32 (oq : Nat), .int .u64 (cas : Nat), .slice X nx cx, .slice K nk ck, .slice V nv cv] 61)) (.cells #[.int .i64 0, .bool false, .bool false, .int .i64 0, .int .u32 0, .slice none 0 0, .slice none 0 0, .int .u32 0, .int .u32 0, .int .u64 0, .int .u64 0, .int .u64 0] 26)
  rw [World.size_alloc] at k2
  unfold frV frC
  go_enter Try.func56, Try.ntmps56
  go_upto_region 1 with fail
  generalize (w.alloc (.cells #[.int .u8 (mg : Nat), .int .u8 (op : Nat), .int .u16 (kl : Nat), .int .u8 (el : Nat), .int .u8 (ty : Nat), .int .u16 (st : Nat), .int .u32 (bl : Nat), .int .u32 (oq : Nat), .int .u64 (cas : Nat), .slice X nx cx, .slice K nk ck, .slice V nv cv] 61)).alloc (.cells #[.int .i64 0, .bool false, .bool false, .int .i64 0, .int .u32 0, .slice none 0 0, .slice none 0 0, .int .u32 0, .int .u32 0, .int .u64 0, .int .u64 0, .int .u64 0] 26) = W0 at k1 k2 b ⊢
  have ho : IntKind.i64.wrap ((op : Nat) : Int) = ((op : Nat) : Int) := wrap_small (by omega) (by omega)
  obtain ⟨p0, p1, p2, p3, p4, p5, p6, p7, p8, p9, p10, p11⟩ := box12 k1
  go_upto_region 2 with fail
  have k6 := Blk.new W0 #[.int .i64 (op : Nat), .bool false, .bool false, .int .i64 0, .int .u32 (oq : Nat), .slice none 0 0, .slice none 0 0, .int .u32 0, .int .u32 0, .int .u64 0, .int .u64 0, .int .u64 0] 26
  have b4 := below_a1' (Below.refl W0.heap.size W0) (.cells #[.int .i64 (op : Nat), .bool false, .bool false, .int .i64 0, .int .u32 (oq : Nat), .slice none 0 0, .slice none 0 0, .int .u32 0, .int .u32 0, .int .u64 0, .int .u64 0, .int .u64 0] 26)
  have hg6 := k2.lt
  replace k1 := k1.step b4
  replace k2 := k2.step b4
  replace b := below_step b b4
  clear b4 ho p0 p1 p2 p3 p4 p5 p6 p7 p8 p9 p10 p11
  generalize W0.alloc (.cells #[.int .i64 (op : Nat), .bool false, .bool false, .int .i64 0, .int .u32 (oq : Nat), .slice none 0 0, .slice none 0 0, .int .u32 0, .int .u32 0, .int .u64 0, .int .u64 0, .int .u64 0] 26) = W2 at k1 k2 k6 b ⊢
  generalize W0.heap.size = g6 at k6 hg6 ⊢
  obtain ⟨z0, z1, z2, z3, z4, z5, z6, z7, z8, z9, z10, z11⟩ := box12 k6
  go_wp2_with fail
  refine (HFD.out W2).mono ?_
  rintro e w3 ⟨rfl, b1⟩
  replace k1 := k1.step b1
  replace k2 := k2.step b1
  replace k6 := k6.step b1
  replace b := below_step b b1
  clear b1 z0 z1 z2 z3 z4 z5 z6 z7 z8 z9 z10 z11
  go_upto_region 3 with fail
  have k4 := Blk.new w3 #[.int .i64 (op : Nat), .int .i64 (o : Nat), .bool q, .bool f, .int .i64 (sx : Nat), .bool sk, .bool sv] 144
  have b4 := below_a1' (Below.refl w3.heap.size w3) (.cells #[.int .i64 (op : Nat), .int .i64 (o : Nat), .bool q, .bool f, .int .i64 (sx : Nat), .bool sk, .bool sv] 144)
  have hg4 := k6.lt
  replace k1 := k1.step b4
  replace k2 := k2.step b4
  replace k6 := k6.step b4
  replace b := below_step b b4
  clear b4
  generalize w3.alloc (.cells #[.int .i64 (op : Nat), .int .i64 (o : Nat), .bool q, .bool f, .int .i64 (sx : Nat), .bool sk, .bool sv] 144) = W4 at k1 k2 k4 k6 b ⊢
  generalize w3.heap.size = g4 at k4 hg4 ⊢
  go_upto_region 6 with fail
  refine wp_region_noPanic ?_
  refine region_T (fun wx => Blk wx g4 #[.int .i64 (op : Nat), .int .i64 (o : Nat), .bool q, .bool f, .int .i64 (sx : Nat), .bool sk, .bool sv] 144) 12 (by kernel_rfl) ?_
  have bD : Below W4.heap.size W4 W4.drew := (Below.refl _ _).drew
  replace k1 := k1.step bD
  replace k2 := k2.step bD
  replace k4 := k4.step bD
  have kq := k6.step bD
  replace b := below_step b bD
  have hHeld := k4
  clear bD k6
  generalize W4.drew = Y0 at b hHeld k1 k2 k4 kq ⊢
  refine takeA (i := 0) (v := ?_) rfl (fun _ _ _ h => h) (Or.inl ⟨by rfl, ?_⟩) hHeld ?_
  rotate_left
  · (intro wx hSw; obtain ⟨a0, a1, a2, a3, a4, a5, a6⟩ := box7 hSw; go_simp; try (with_reducible rfl))
  try simp only [Act.put, List.setIfInBounds_toArray, List.set_cons_zero, List.set_cons_succ]
  refine takeA (i := 1) (v := ?_) rfl (fun _ _ _ h => h) (Or.inl ⟨by rfl, ?_⟩) hHeld ?_
  rotate_left
  · (intro wx hSw; obtain ⟨a0, a1, a2, a3, a4, a5, a6⟩ := box7 hSw; go_simp; try (with_reducible rfl))
  try simp only [Act.put, List.setIfInBounds_toArray, List.set_cons_zero, List.set_cons_succ]
  refine takeA (i := 2) (v := ?_) rfl (fun _ _ _ h => h) (Or.inl ⟨by rfl, ?_⟩) hHeld ?_
  rotate_left
  · (intro wx hSw; obtain ⟨a0, a1, a2, a3, a4, a5, a6⟩ := box7 hSw; go_simp; try (with_reducible rfl))
  try simp only [Act.put, List.setIfInBounds_toArray, List.set_cons_zero, List.set_cons_succ]
  refine takeA (i := 3) (v := ?_) rfl (fun _ _ _ h => h) (Or.inl ⟨by rfl, ?_⟩) hHeld ?_
  rotate_left
  · (intro wx hSw; obtain ⟨a0, a1, a2, a3, a4, a5, a6⟩ := box7 hSw; go_simp; try (with_reducible rfl))
  try simp only [Act.put, List.setIfInBounds_toArray, List.set_cons_zero, List.set_cons_succ]
  refine takeA (i := 4) (v := ?_) rfl (fun _ _ _ h => h) (Or.inl ⟨by rfl, ?_⟩) hHeld ?_
  rotate_left
  · (intro wx hSw; obtain ⟨a0, a1, a2, a3, a4, a5, a6⟩ := box7 hSw; go_simp; try (with_reducible rfl))
  try simp only [Act.put, List.setIfInBounds_toArray, List.set_cons_zero, List.set_cons_succ]
  refine takeA (i := 5) (v := ?_) rfl (fun _ _ _ h => h) (Or.inl ⟨by rfl, ?_⟩) hHeld ?_
  rotate_left
  · (intro wx hSw; obtain ⟨a0, a1, a2, a3, a4, a5, a6⟩ := box7 hSw; go_simp; try (with_reducible rfl))
  try simp only [Act.put, List.setIfInBounds_toArray, List.set_cons_zero, List.set_cons_succ]
  refine takeA (i := 6) (v := ?_) rfl (fun _ _ _ h => h) (Or.inl ⟨by rfl, ?_⟩) hHeld ?_
  rotate_left
  · (intro wx hSw; obtain ⟨a0, a1, a2, a3, a4, a5, a6⟩ := box7 hSw; go_simp; try (with_reducible rfl))
  try simp only [Act.put, List.setIfInBounds_toArray, List.set_cons_zero, List.set_cons_succ]
  have ne4 : g6 < g4 := by omega
  have y := kq.frozen 0
  obtain ⟨z0, z1, z2, z3, z4, z5, z6, z7, z8, z9, z10, z11⟩ := box12 kq
  refine oneT (i := 7) rfl (by kernel_rfl) (fun KK hK => ?_)
  go_simp
  have gq := rdr_grown_set Y0 g6 0 (.int .i64 (o : Nat))
  replace k1 := k1.leftC gq (by omega)
  replace k2 := k2.leftC gq (by omega)
  replace k4 := k4.leftC gq (by omega)
  replace b := b.trans (below_grown gq (by omega) kq.lt)
  replace kq : Blk (Y0.setCell ⟨g6, 0, none⟩ (.int .i64 (o : Nat))) g6 #[.int .i64 (o : Nat), .bool false, .bool false, .int .i64 0, .int .u32 (oq : Nat), .slice none 0 0, .slice none 0 0, .int .u32 0, .int .u32 0, .int .u64 0, .int .u64 0, .int .u64 0] 26 := kq.set_ 0 _
  clear gq y z0 z1 z2 z3 z4 z5 z6 z7 z8 z9 z10 z11
  generalize Y0.setCell ⟨g6, 0, none⟩ (.int .i64 (o : Nat)) = Y1 at kq b k1 k2 k4 ⊢
  replace hHeld := k4
  refine hK.out _ _ (fun _ => hHeld) ?_
  clear hK KK
  try simp only [Act.put, List.setIfInBounds_toArray, List.set_cons_zero, List.set_cons_succ]
  refine takeA (i := 8) (v := ?_) rfl (fun _ _ _ h => h) (Or.inl ⟨by rfl, ?_⟩) hHeld ?_
  rotate_left
  · (intro wx hSw; obtain ⟨a0, a1, a2, a3, a4, a5, a6⟩ := box7 hSw; go_simp; try (with_reducible rfl))
  try simp only [Act.put, List.setIfInBounds_toArray, List.set_cons_zero, List.set_cons_succ]
  have y := kq.frozen 1
  obtain ⟨z0, z1, z2, z3, z4, z5, z6, z7, z8, z9, z10, z11⟩ := box12 kq
  refine oneT (i := 9) rfl (by kernel_rfl) (fun KK hK => ?_)
  go_simp
  have gq := rdr_grown_set Y1 g6 1 (.bool q)
  replace k1 := k1.leftC gq (by omega)
  replace k2 := k2.leftC gq (by omega)
  replace k4 := k4.leftC gq (by omega)
  replace b := b.trans (below_grown gq (by omega) kq.lt)
  replace kq : Blk (Y1.setCell ⟨g6, 1, none⟩ (.bool q)) g6 #[.int .i64 (o : Nat), .bool q, .bool false, .int .i64 0, .int .u32 (oq : Nat), .slice none 0 0, .slice none 0 0, .int .u32 0, .int .u32 0, .int .u64 0, .int .u64 0, .int .u64 0] 26 := kq.set_ 1 _
  clear gq y z0 z1 z2 z3 z4 z5 z6 z7 z8 z9 z10 z11
  generalize Y1.setCell ⟨g6, 1, none⟩ (.bool q) = Y2 at kq b k1 k2 k4 ⊢
  replace hHeld := k4
  refine hK.out _ _ (fun _ => hHeld) ?_
  clear hK KK
  try simp only [Act.put, List.setIfInBounds_toArray, List.set_cons_zero, List.set_cons_succ]
  refine takeA (i := 10) (v := ?_) rfl (fun _ _ _ h => h) (Or.inl ⟨by rfl, ?_⟩) hHeld ?_
  rotate_left
  · (intro wx hSw; obtain ⟨a0, a1, a2, a3, a4, a5, a6⟩ := box7 hSw; go_simp; try (with_reducible rfl))
  try simp only [Act.put, List.setIfInBounds_toArray, List.set_cons_zero, List.set_cons_succ]
  have y := kq.frozen 2
  obtain ⟨z0, z1, z2, z3, z4, z5, z6, z7, z8, z9, z10, z11⟩ := box12 kq
  refine oneT (i := 11) rfl (by kernel_rfl) (fun KK hK => ?_)
  go_simp
  have gq := rdr_grown_set Y2 g6 2 (.bool f)
  replace k1 := k1.leftC gq (by omega)
  replace k2 := k2.leftC gq (by omega)
  replace k4 := k4.leftC gq (by omega)
  replace b := b.trans (below_grown gq (by omega) kq.lt)
  replace kq : Blk (Y2.setCell ⟨g6, 2, none⟩ (.bool f)) g6 #[.int .i64 (o : Nat), .bool q, .bool f, .int .i64 0, .int .u32 (oq : Nat), .slice none 0 0, .slice none 0 0, .int .u32 0, .int .u32 0, .int .u64 0, .int .u64 0, .int .u64 0] 26 := kq.set_ 2 _
  clear gq y z0 z1 z2 z3 z4 z5 z6 z7 z8 z9 z10 z11
  generalize Y2.setCell ⟨g6, 2, none⟩ (.bool f) = Y3 at kq b k1 k2 k4 ⊢
  replace hHeld := k4
  refine hK.out _ _ (fun _ => hHeld) ?_
  clear hK KK
  try simp only [Act.put, List.setIfInBounds_toArray, List.set_cons_zero, List.set_cons_succ]
  refine doneT (by kernel_rfl) ?_ _
  refine NoPanic.normal ?_
  clear hHeld
  obtain ⟨p0, p1, p2, p3, p4, p5, p6, p7, p8, p9, p10, p11⟩ := box12 k1
  obtain ⟨x0, x1, x2, x3, x4, x5, x6⟩ := box7 k4
  go_upto_region 7 with fail
  go_cut [6] (fun s6 wx => s6 = .bool bx ∧ Y3 = wx)
  case first =>
    by_cases hx : nx = sx
    · have e1 : ((nx : Int) == (sx : Int)) = true := beq_iff_eq.2 (by omega)
      have HB : Hid (bx = true) := Lib.hid (by rw [HBX.out, decide_eq_true hx]; rfl)
      clear hx
      go_wp2_with fail
      go_meet
      exact ⟨by rw [HB.out], rfl⟩
    · have e1 : ((nx : Int) == (sx : Int)) = false := beq_eq_false_iff_ne.2 (by omega)
      by_cases h8 : o = 8
      · subst h8
        by_cases h4 : nx = 4
        · have e4 : ((nx : Int) == 4) = true := beq_iff_eq.2 (by omega)
          have HB : Hid (bx = true) := Lib.hid (by rw [HBX.out, h4]; simp)
          clear hx h4
          go_wp2_with fail
          go_meet
          exact ⟨by rw [HB.out], rfl⟩
        · have e4 : ((nx : Int) == 4) = false := beq_eq_false_iff_ne.2 (by omega)
          have HB : Hid (bx = false) := Lib.hid (by rw [HBX.out, decide_eq_false hx, decide_eq_false h4]; rfl)
          clear hx h4
          go_wp2_with fail
          go_meet
          exact ⟨by rw [HB.out], rfl⟩
      · have e8 : ((o : Int) == 8) = false := beq_eq_false_iff_ne.2 (by omega)
        have HB : Hid (bx = false) := Lib.hid (by rw [HBX.out, decide_eq_false hx, decide_eq_false h8]; rfl)
        clear hx h8
        go_wp2_with fail
        go_meet
        exact ⟨by rw [HB.out], rfl⟩
  case rest =>
    obtain ⟨rfl, rfl⟩ := hcut
    go_upto_region 8 with fail
    go_cut [52] (fun s52 wx => s52 = .bool bb ∧ Y3 = wx)
    case first =>
      cases hbx : bx with
      | false =>
        subst hbx
        have HB : Hid (bb = true) := Lib.hid (HBB.out.trans (by (skip) <;> rfl))
        go_wp2_with fail
        go_meet
        exact ⟨by rw [HB.out], rfl⟩
      | true =>
        subst hbx
        by_cases hk0 : 0 < nk
        · have f1 : ((0 : Int) < (nk : Int)) = True := eq_true (by omega)
          have f1' : (0 < nk) = True := eq_true hk0
          cases hsk : sk with
          | false =>
            subst hsk
            have HB : Hid (bb = true) := Lib.hid (HBB.out.trans (by (rw [decide_eq_true hk0]) <;> rfl))
            clear hk0
            go_wp2_with fail
            go_meet
            exact ⟨by rw [HB.out], rfl⟩
          | true =>
            subst hsk
            by_cases hk1 : 250 < nk
            · have f2 : ((250 : Int) < (nk : Int)) = True := eq_true (by omega)
              have f2' : (250 < nk) = True := eq_true hk1
              have HB : Hid (bb = true) := Lib.hid (HBB.out.trans (by (rw [decide_eq_true hk0, decide_eq_true hk1]) <;> rfl))
              clear hk0 hk1
              go_wp2_with fail
              go_meet
              exact ⟨by rw [HB.out], rfl⟩
            · have f2 : ((250 : Int) < (nk : Int)) = False := eq_false (by omega)
              have f2' : (250 < nk) = False := eq_false hk1
              by_cases hv0 : 0 < nv
              · have f3 : ((0 : Int) < (nv : Int)) = True := eq_true (by omega)
                have f3' : (0 < nv) = True := eq_true hv0
                cases hsv : sv with
                | true =>
                  subst hsv
                  have HB : Hid (bb = false) := Lib.hid (HBB.out.trans (by (rw [decide_eq_true hk0, decide_eq_false hk1, decide_eq_true hv0]) <;> rfl))
                  clear hk0 hk1 hv0
                  go_wp2_with fail
                  go_meet
                  exact ⟨by rw [HB.out], rfl⟩
                | false =>
                  subst hsv
                  have HB : Hid (bb = true) := Lib.hid (HBB.out.trans (by (rw [decide_eq_true hk0, decide_eq_false hk1, decide_eq_true hv0]) <;> rfl))
                  clear hk0 hk1 hv0
                  go_wp2_with fail
                  go_meet
                  exact ⟨by rw [HB.out], rfl⟩
              · have f3 : ((0 : Int) < (nv : Int)) = False := eq_false (by omega)
                have f3' : (0 < nv) = False := eq_false hv0
                have HB : Hid (bb = false) := Lib.hid (HBB.out.trans (by (rw [decide_eq_true hk0, decide_eq_false hk1, decide_eq_false hv0]) <;> rfl))
                clear hk0 hk1 hv0
                go_wp2_with fail
                go_meet
                exact ⟨by rw [HB.out], rfl⟩
        · have f1 : ((0 : Int) < (nk : Int)) = False := eq_false (by omega)
          have f1' : (0 < nk) = False := eq_false hk0
          cases hsk : sk with
          | true =>
            subst hsk
            have HB : Hid (bb = true) := Lib.hid (HBB.out.trans (by (rw [decide_eq_false hk0]) <;> rfl))
            clear hk0
            go_wp2_with fail
            go_meet
            exact ⟨by rw [HB.out], rfl⟩
          | false =>
            subst hsk
            have f2 : ((250 : Int) < (nk : Int)) = False := eq_false (by omega)
            have f2' : (250 < nk) = False := eq_false (by omega)
            by_cases hv0 : 0 < nv
            · have f3 : ((0 : Int) < (nv : Int)) = True := eq_true (by omega)
              have f3' : (0 < nv) = True := eq_true hv0
              cases hsv : sv with
              | true =>
                subst hsv
                have HB : Hid (bb = false) := Lib.hid (HBB.out.trans (by (rw [decide_eq_false hk0, (decide_eq_false (by omega) : decide (250 < nk) = false), decide_eq_true hv0]) <;> rfl))
                clear hk0 hv0
                go_wp2_with fail
                go_meet
                exact ⟨by rw [HB.out], rfl⟩
              | false =>
                subst hsv
                have HB : Hid (bb = true) := Lib.hid (HBB.out.trans (by (rw [decide_eq_false hk0, (decide_eq_false (by omega) : decide (250 < nk) = false), decide_eq_true hv0]) <;> rfl))
                clear hk0 hv0
                go_wp2_with fail
                go_meet
                exact ⟨by rw [HB.out], rfl⟩
            · have f3 : ((0 : Int) < (nv : Int)) = False := eq_false (by omega)
              have f3' : (0 < nv) = False := eq_false hv0
              have HB : Hid (bb = false) := Lib.hid (HBB.out.trans (by (rw [decide_eq_false hk0, (decide_eq_false (by omega) : decide (250 < nk) = false), decide_eq_false hv0]) <;> rfl))
              clear hk0 hv0
              go_wp2_with fail
              go_meet
              exact ⟨by rw [HB.out], rfl⟩
    case rest =>
      obtain ⟨rfl, rfl⟩ := hcut
      cases hbb : bb with
      | true =>
        subst hbb
        have HPOST : Hid (∀ e w', ReqQ (o : Int) q f 4 oq [] [] 0 0 0 0 0 w e w' → ReqA (rowR o q f bx true oq cas nx nv lx lk lv) w e w') := Lib.hid fun _ _ h => h
        have y3 := kq.frozen 3
        obtain ⟨z0, z1, z2, z3, z4, z5, z6, z7, z8, z9, z10, z11⟩ := box12 kq
        go_upto_region 10 with fail
        have gq := rdr_grown_set Y3 g6 3 (.int .i64 4)
        replace k1 := k1.leftC gq (by omega)
        replace k2 := k2.leftC gq (by omega)
        replace b := b.trans (below_grown gq (by omega) kq.lt)
        replace kq : Blk (Y3.setCell ⟨g6, 3, none⟩ (.int .i64 4)) g6 #[.int .i64 (o : Nat), .bool q, .bool f, .int .i64 4, .int .u32 (oq : Nat), .slice none 0 0, .slice none 0 0, .int .u32 0, .int .u32 0, .int .u64 0, .int .u64 0, .int .u64 0] 26 := kq.set_ 3 _
        clear gq y3 k4 z0 z1 z2 z3 z4 z5 z6 z7 z8 z9 z10 z11 p0 p1 p2 p3 p4 p5 p6 p7 p8 p9 p10 p11 x0 x1 x2 x3 x4 x5 x6
        generalize Y3.setCell ⟨g6, 3, none⟩ (.int .i64 4) = Y4 at kq k1 k2 b ⊢
        obtain ⟨z0, z1, z2, z3, z4, z5, z6, z7, z8, z9, z10, z11⟩ := box12 kq
        obtain ⟨u0, u1, u2, u3, u4, u5, u6, u7, u8, u9, u10, u11⟩ := box12 k2
        have y0 := k2.frozen 0
        have y1 := k2.frozen 1
        have y2 := k2.frozen 2
        have y3 := k2.frozen 3
        have y4 := k2.frozen 4
        have y5 := k2.frozen 5
        have y6 := k2.frozen 6
        have y7 := k2.frozen 7
        have y8 := k2.frozen 8
        have y9 := k2.frozen 9
        have y10 := k2.frozen 10
        have y11 := k2.frozen 11
        have kf := blk_set12 k2 (.int .i64 (o : Nat)) (.bool q) (.bool f) (.int .i64 4) (.int .u32 (oq : Nat)) (.slice none 0 0) (.slice none 0 0) (.int .u32 0) (.int .u32 0) (.int .u64 0) (.int .u64 0) (.int .u64 0)
        have gs := grown_set12 Y4 (w.heap.size + 1) (.int .i64 (o : Nat)) (.bool q) (.bool f) (.int .i64 4) (.int .u32 (oq : Nat)) (.slice none 0 0) (.slice none 0 0) (.int .u32 0) (.int .u32 0) (.int .u64 0) (.int .u64 0) (.int .u64 0)
        have bf := b.trans (below_grown gs (by omega) k2.lt)
        obtain ⟨t0, t1, t2, t3, t4, t5, t6, t7, t8, t9, t10, t11⟩ := box12 kf
        clear kf gs b k1 k2 kq
        go_wp2_with fail
        refine bodyPost_ret (v := .agg #[.int .i64 (o : Nat), .bool q, .bool f, .int .i64 4, .int .u32 (oq : Nat), .slice none 0 0, .slice none 0 0, .int .u32 0, .int .u32 0, .int .u64 0, .int .u64 0, .int .u64 0]) (by simp [results, Try.results56, go_sem, t0, t1, t2, t3, t4, t5, t6, t7, t8, t9, t10, t11]) rfl ?_
        exact HPOST.out _ _ ⟨_, _, _, _, _, _, rfl, Own.nil _ _, Own.nil _ _, bf⟩
      | false =>
        subst hbb
        by_cases hv2 : 512 < nv
        · have f5 : ((512 : Int) < (nv : Int)) = True := eq_true (by omega)
          have f5' : (512 < nv) = True := eq_true hv2
          have HPOST : Hid (∀ e w', ReqQ (o : Int) q f 3 oq [] [] 0 0 0 0 0 w e w' → ReqA (rowR o q f bx false oq cas nx nv lx lk lv) w e w') := Lib.hid fun _ _ h => by unfold rowR; rw [if_neg (by decide), if_pos hv2]; exact h
          clear hv2
          have y3 := kq.frozen 3
          obtain ⟨z0, z1, z2, z3, z4, z5, z6, z7, z8, z9, z10, z11⟩ := box12 kq
          go_upto_region 13 with fail
          have gq := rdr_grown_set Y3 g6 3 (.int .i64 3)
          replace k1 := k1.leftC gq (by omega)
          replace k2 := k2.leftC gq (by omega)
          replace b := b.trans (below_grown gq (by omega) kq.lt)
          replace kq : Blk (Y3.setCell ⟨g6, 3, none⟩ (.int .i64 3)) g6 #[.int .i64 (o : Nat), .bool q, .bool f, .int .i64 3, .int .u32 (oq : Nat), .slice none 0 0, .slice none 0 0, .int .u32 0, .int .u32 0, .int .u64 0, .int .u64 0, .int .u64 0] 26 := kq.set_ 3 _
          clear gq y3 k4 z0 z1 z2 z3 z4 z5 z6 z7 z8 z9 z10 z11 p0 p1 p2 p3 p4 p5 p6 p7 p8 p9 p10 p11 x0 x1 x2 x3 x4 x5 x6
          generalize Y3.setCell ⟨g6, 3, none⟩ (.int .i64 3) = Y4 at kq k1 k2 b ⊢
          obtain ⟨z0, z1, z2, z3, z4, z5, z6, z7, z8, z9, z10, z11⟩ := box12 kq
          obtain ⟨u0, u1, u2, u3, u4, u5, u6, u7, u8, u9, u10, u11⟩ := box12 k2
          have y0 := k2.frozen 0
          have y1 := k2.frozen 1
          have y2 := k2.frozen 2
          have y3 := k2.frozen 3
          have y4 := k2.frozen 4
          have y5 := k2.frozen 5
          have y6 := k2.frozen 6
          have y7 := k2.frozen 7
          have y8 := k2.frozen 8
          have y9 := k2.frozen 9
          have y10 := k2.frozen 10
          have y11 := k2.frozen 11
          have kf := blk_set12 k2 (.int .i64 (o : Nat)) (.bool q) (.bool f) (.int .i64 3) (.int .u32 (oq : Nat)) (.slice none 0 0) (.slice none 0 0) (.int .u32 0) (.int .u32 0) (.int .u64 0) (.int .u64 0) (.int .u64 0)
          have gs := grown_set12 Y4 (w.heap.size + 1) (.int .i64 (o : Nat)) (.bool q) (.bool f) (.int .i64 3) (.int .u32 (oq : Nat)) (.slice none 0 0) (.slice none 0 0) (.int .u32 0) (.int .u32 0) (.int .u64 0) (.int .u64 0) (.int .u64 0)
          have bf := b.trans (below_grown gs (by omega) k2.lt)
          obtain ⟨t0, t1, t2, t3, t4, t5, t6, t7, t8, t9, t10, t11⟩ := box12 kf
          clear kf gs b k1 k2 kq
          go_wp2_with fail
          refine bodyPost_ret (v := .agg #[.int .i64 (o : Nat), .bool q, .bool f, .int .i64 3, .int .u32 (oq : Nat), .slice none 0 0, .slice none 0 0, .int .u32 0, .int .u32 0, .int .u64 0, .int .u64 0, .int .u64 0]) (by simp [results, Try.results56, go_sem, t0, t1, t2, t3, t4, t5, t6, t7, t8, t9, t10, t11]) rfl ?_
          exact HPOST.out _ _ ⟨_, _, _, _, _, _, rfl, Own.nil _ _, Own.nil _ _, bf⟩
        · have f5 : ((512 : Int) < (nv : Int)) = False := eq_false (by omega)
          have f5' : (512 < nv) = False := eq_false hv2
          have HPOST : Hid (∀ e w', ReqQ (o : Int) q f 0 oq lk lv (flOf nx lx) (exOf nx lx) cas (dlOf nx lx) (niOf nx lx) w e w' → ReqA (rowR o q f bx false oq cas nx nv lx lk lv) w e w') := Lib.hid fun _ _ h => by unfold rowR; rw [if_neg (by decide), if_neg hv2]; exact h
          have HV2 : Hid (nv ≤ 512 ∧ nk ≤ 250) := Lib.hid ⟨by omega, HBK.out rfl⟩
          clear hv2
          have y := kq.frozen 9
          obtain ⟨z0, z1, z2, z3, z4, z5, z6, z7, z8, z9, z10, z11⟩ := box12 kq
          go_upto_region 15 with fail
          have gq := rdr_grown_set Y3 g6 9 (.int .u64 (cas : Nat))
          replace k1 := k1.leftC gq (by omega)
          replace k2 := k2.leftC gq (by omega)
          replace b := b.trans (below_grown gq (by omega) kq.lt)
          replace kq : Blk (Y3.setCell ⟨g6, 9, none⟩ (.int .u64 (cas : Nat))) g6 #[.int .i64 (o : Nat), .bool q, .bool f, .int .i64 0, .int .u32 (oq : Nat), .slice none 0 0, .slice none 0 0, .int .u32 0, .int .u32 0, .int .u64 (cas : Nat), .int .u64 0, .int .u64 0] 26 := kq.set_ 9 _
          clear gq y k4 z0 z1 z2 z3 z4 z5 z6 z7 z8 z9 z10 z11 p0 p1 p2 p3 p4 p5 p6 p7 p8 p9 p10 p11 x0 x1 x2 x3 x4 x5 x6 f5 f5'
          generalize Y3.setCell ⟨g6, 9, none⟩ (.int .u64 (cas : Nat)) = Y5 at kq k1 k2 b ⊢
          go_cut [] (fun wx => ∃ (K2 V2 : Option Addr) (ck2 cv2 : Nat), Blk wx g6 #[.int .i64 (o : Nat), .bool q, .bool f, .int .i64 0, .int .u32 (oq : Nat), .slice K2 nk ck2, .slice V2 nv cv2, .int .u32 0, .int .u32 0, .int .u64 (cas : Nat), .int .u64 0, .int .u64 0] 26 ∧ Blk wx w.heap.size #[.int .u8 (mg : Nat), .int .u8 (op : Nat), .int .u16 (kl : Nat), .int .u8 (el : Nat), .int .u8 (ty : Nat), .int .u16 (st : Nat), .int .u32 (bl : Nat), .int .u32 (oq : Nat), .int .u64 (cas : Nat), .slice X nx cx, .slice K nk ck, .slice V nv cv] 61 ∧ Blk wx (w.heap.size + 1) #[.int .i64 0, .bool false, .bool false, .int .i64 0, .int .u32 0, .slice none 0 0, .slice none 0 0, .int .u32 0, .int .u32 0, .int .u64 0, .int .u64 0, .int .u64 0] 26 ∧ Own wx (g6 + 1) K2 nk ck2 lk ∧ Own wx (g6 + 1) V2 nv cv2 lv ∧ Below w.heap.size w wx)
          case first =>
            refine wp_region_noPanic ?_
            refine region_T (fun wx => Blk wx w.heap.size #[.int .u8 (mg : Nat), .int .u8 (op : Nat), .int .u16 (kl : Nat), .int .u8 (el : Nat), .int .u8 (ty : Nat), .int .u16 (st : Nat), .int .u32 (bl : Nat), .int .u32 (oq : Nat), .int .u64 (cas : Nat), .slice X nx cx, .slice K nk ck, .slice V nv cv] 61) 12 (by kernel_rfl) ?_
            have bD : Below Y5.heap.size Y5 Y5.drew := (Below.refl _ _).drew
            have hv2 := HV2.out
            replace k1 := k1.step bD
            replace k2 := k2.step bD
            have k6 := kq.step bD
            replace b := below_step b bD
            have hHeld := k1
            clear bD kq
            generalize Y5.drew = V0 at b hHeld k1 k2 k6 ⊢
            refine takeA (i := 1) (v := ?_) rfl (fun _ _ _ h => h) (Or.inl ⟨by rfl, ?_⟩) hHeld ?_
            rotate_left
            · (intro wx hSw; obtain ⟨a0, a1, a2, a3, a4, a5, a6, a7, a8, a9, a10, a11⟩ := box12 hSw; go_simp; try (with_reducible rfl))
            try simp only [Act.put, List.setIfInBounds_toArray, List.set_cons_zero, List.set_cons_succ]
            refine takeA (i := 2) (v := ?_) rfl (fun _ _ _ h => h) (Or.inl ⟨by rfl, ?_⟩) hHeld ?_
            rotate_left
            · (intro wx hSw; obtain ⟨a0, a1, a2, a3, a4, a5, a6, a7, a8, a9, a10, a11⟩ := box12 hSw; go_simp; try (with_reducible rfl))
            try simp only [Act.put, List.setIfInBounds_toArray, List.set_cons_zero, List.set_cons_succ]
            refine takeA (i := 5) (v := ?_) rfl (fun _ _ _ h => h) (Or.inl ⟨by rfl, ?_⟩) hHeld ?_
            rotate_left
            · (intro wx hSw; obtain ⟨a0, a1, a2, a3, a4, a5, a6, a7, a8, a9, a10, a11⟩ := box12 hSw; go_simp; try (with_reducible rfl))
            try simp only [Act.put, List.setIfInBounds_toArray, List.set_cons_zero, List.set_cons_succ]
            refine takeA (i := 6) (v := ?_) rfl (fun _ _ _ h => h) (Or.inl ⟨by rfl, ?_⟩) hHeld ?_
            rotate_left
            · (intro wx hSw; obtain ⟨a0, a1, a2, a3, a4, a5, a6, a7, a8, a9, a10, a11⟩ := box12 hSw; go_simp; try (with_reducible rfl))
            try simp only [Act.put, List.setIfInBounds_toArray, List.set_cons_zero, List.set_cons_succ]
            refine twoT (i := 0) (j := 4) rfl rfl (by kernel_rfl) (fun KK hK => ?_) (fun KK hK => ?_)
            · go_simp
              have o0 : Own (V0.alloc (.cells #[] 5)) (g6 + 1) (some ⟨V0.heap.size, 0, none⟩) 0 0 [] := Own.emptyK V0 _ _ rfl k6.lt
              have ba := below_a1' (Below.refl V0.heap.size V0) (.cells #[] 5)
              have k1 := k1.alloc (.cells #[] 5)
              have k2 := k2.alloc (.cells #[] 5)
              have k6 := k6.alloc (.cells #[] 5)
              have b := below_step b ba
              generalize hW : V0.alloc (.cells #[] 5) = V1 at o0 k1 k2 k6 b ba ⊢
              clear hW ba
              have hl0 := o0.base.2
              have hHeld := k1
              refine hK.out _ _ (fun _ => hHeld) ?_
              clear hK KK
              try simp only [Act.put, List.setIfInBounds_toArray, List.set_cons_zero, List.set_cons_succ]
              refine twoT (i := 3) (j := 4) rfl rfl (by kernel_rfl) (fun KK hK => ?_) (fun KK hK => ?_)
              · refine step_app8g _ rfl _ _ rfl (g6 + 1) (V0.heap.size) 0 0 [] rfl o0 w.heap.size K nk ck lk rfl (rK.below b) (by omega) k6.lt ?_
                intro g3' c3 V2 o3 gb3 hg3
                have h0 := o0.base
                simp only [Nat.zero_add, List.nil_append] at o3 ⊢
                have b := b.trans (below_grown gb3 (by omega) h0.2)
                have k1 := k1.left gb3 (by omega)
                have k2 := k2.left gb3 (by omega)
                have k6 := k6.left gb3 (by omega)
                have hl3 := o3.base.2
                have hHeld := k1
                refine hK.out _ _ (fun _ => hHeld) ?_
                clear hK KK
                try simp only [Act.put, List.setIfInBounds_toArray, List.set_cons_zero, List.set_cons_succ]
                refine takeA (i := 8) (v := ?_) rfl (fun _ _ _ h => h) (Or.inl ⟨by rfl, ?_⟩) hHeld ?_
                rotate_left
                · (intro wx hSw; obtain ⟨a0, a1, a2, a3, a4, a5, a6, a7, a8, a9, a10, a11⟩ := box12 hSw; go_simp; try (with_reducible rfl))
                try simp only [Act.put, List.setIfInBounds_toArray, List.set_cons_zero, List.set_cons_succ]
                refine oneT (i := 4) rfl (by kernel_rfl) (fun KK hK => ?_)
                go_simp
                have o4 : Own (V2.alloc (.cells #[] 5)) (g6 + 1) (some ⟨V2.heap.size, 0, none⟩) 0 0 [] := Own.emptyK V2 _ _ rfl k6.lt
                have ba := below_a1' (Below.refl V2.heap.size V2) (.cells #[] 5)
                have k1 := k1.alloc (.cells #[] 5)
                have k2 := k2.alloc (.cells #[] 5)
                have k6 := k6.alloc (.cells #[] 5)
                have b := below_step b ba
                have o3 := o3.below ba
                generalize hW : V2.alloc (.cells #[] 5) = V3 at o4 k1 k2 k6 b ba o3 ⊢
                clear hW ba
                have hl4 := o4.base.2
                have hHeld := k1
                refine hK.out _ _ (fun _ => hHeld) ?_
                clear hK KK
                try simp only [Act.put, List.setIfInBounds_toArray, List.set_cons_zero, List.set_cons_succ]
                refine oneT (i := 7) rfl (by kernel_rfl) (fun KK hK => ?_)
                refine step_app8g _ rfl _ _ rfl (g6 + 1) (V2.heap.size) 0 0 [] rfl o4 w.heap.size V nv cv lv rfl (rV.below b) (by omega) k6.lt ?_
                intro g7' c7 V4 o7 gb7 hg7
                have h4 := o4.base
                simp only [Nat.zero_add, List.nil_append] at o7 ⊢
                have b := b.trans (below_grown gb7 (by omega) h4.2)
                have k1 := k1.left gb7 (by omega)
                have k2 := k2.left gb7 (by omega)
                have k6 := k6.left gb7 (by omega)
                have o3 := o3.left gb7 (by have := o3.base; omega)
                have hl7 := o7.base.2
                have hHeld := k1
                refine hK.out _ _ (fun _ => hHeld) ?_
                clear hK KK
                try simp only [Act.put, List.setIfInBounds_toArray, List.set_cons_zero, List.set_cons_succ]
                have y5 := k6.frozen 5
                have y6 := k6.frozen 6
                obtain ⟨z0, z1, z2, z3, z4, z5, z6, z7, z8, z9, z10, z11⟩ := box12 k6
                have ne : w.heap.size ≠ g6 := by omega
                refine oneT (i := 9) rfl (by kernel_rfl) (fun KK hK => ?_)
                go_simp
                have hHeld := k1.far (p := ⟨g6, 5, none⟩) ne (.slice (some ⟨g3', 0, none⟩) nk c3)
                refine hK.out _ _ (fun _ => hHeld) ?_
                clear hK KK
                try simp only [Act.put, List.setIfInBounds_toArray, List.set_cons_zero, List.set_cons_succ]
                refine takeA (i := 10) (v := ?_) rfl (fun _ _ _ h => h) (Or.inl ⟨by rfl, ?_⟩) hHeld ?_
                rotate_left
                · (intro wx hSw; obtain ⟨a0, a1, a2, a3, a4, a5, a6, a7, a8, a9, a10, a11⟩ := box12 hSw; go_simp; try (with_reducible rfl))
                try simp only [Act.put, List.setIfInBounds_toArray, List.set_cons_zero, List.set_cons_succ]
                refine oneT (i := 11) rfl (by kernel_rfl) (fun KK hK => ?_)
                go_simp
                have hHeld := hHeld.far (p := ⟨g6, 6, none⟩) ne (.slice (some ⟨g7', 0, none⟩) nv c7)
                refine hK.out _ _ (fun _ => hHeld) ?_
                clear hK KK
                try simp only [Act.put, List.setIfInBounds_toArray, List.set_cons_zero, List.set_cons_succ]
                refine doneT (by kernel_rfl) ?_ _
                refine NoPanic.normal ?_
                go_wp2_with fail
                go_meet
                have gs := grown_trans (rdr_grown_set V4 g6 5 (.slice (some ⟨g3', 0, none⟩) nk c3)) (rdr_grown_set _ g6 6 (.slice (some ⟨g7', 0, none⟩) nv c7))
                exact ⟨some ⟨g3', 0, none⟩, some ⟨g7', 0, none⟩, c3, c7, (k6.set_ 5 (.slice (some ⟨g3', 0, none⟩) nk c3)).set_ 6 (.slice (some ⟨g7', 0, none⟩) nv c7), hHeld, k2.left gs (by omega), o3.kept gs (by omega), o7.kept gs (by omega), b.trans (below_grown gs (by omega) k6.lt)⟩
              · go_simp
                have o4 : Own (V1.alloc (.cells #[] 5)) (g6 + 1) (some ⟨V1.heap.size, 0, none⟩) 0 0 [] := Own.emptyK V1 _ _ rfl k6.lt
                have ba := below_a1' (Below.refl V1.heap.size V1) (.cells #[] 5)
                have k1 := k1.alloc (.cells #[] 5)
                have k2 := k2.alloc (.cells #[] 5)
                have k6 := k6.alloc (.cells #[] 5)
                have b := below_step b ba
                have o0 := o0.below ba
                generalize hW : V1.alloc (.cells #[] 5) = V2 at o4 k1 k2 k6 b ba o0 ⊢
                clear hW ba
                have hl4 := o4.base.2
                have hHeld := k1
                refine hK.out _ _ (fun _ => hHeld) ?_
                clear hK KK
                try simp only [Act.put, List.setIfInBounds_toArray, List.set_cons_zero, List.set_cons_succ]
                refine oneT (i := 3) rfl (by kernel_rfl) (fun KK hK => ?_)
                refine step_app8g _ rfl _ _ rfl (g6 + 1) (V0.heap.size) 0 0 [] rfl o0 w.heap.size K nk ck lk rfl (rK.below b) (by omega) k6.lt ?_
                intro g3' c3 V3 o3 gb3 hg3
                have h0 := o0.base
                simp only [Nat.zero_add, List.nil_append] at o3 ⊢
                have b := b.trans (below_grown gb3 (by omega) h0.2)
                have k1 := k1.left gb3 (by omega)
                have k2 := k2.left gb3 (by omega)
                have k6 := k6.left gb3 (by omega)
                have o4 := o4.left gb3 (by have := o4.base; omega)
                have hl3 := o3.base.2
                have hHeld := k1
                refine hK.out _ _ (fun _ => hHeld) ?_
                clear hK KK
                try simp only [Act.put, List.setIfInBounds_toArray, List.set_cons_zero, List.set_cons_succ]
                refine takeA (i := 8) (v := ?_) rfl (fun _ _ _ h => h) (Or.inl ⟨by rfl, ?_⟩) hHeld ?_
                rotate_left
                · (intro wx hSw; obtain ⟨a0, a1, a2, a3, a4, a5, a6, a7, a8, a9, a10, a11⟩ := box12 hSw; go_simp; try (with_reducible rfl))
                try simp only [Act.put, List.setIfInBounds_toArray, List.set_cons_zero, List.set_cons_succ]
                refine oneT (i := 7) rfl (by kernel_rfl) (fun KK hK => ?_)
                refine step_app8g _ rfl _ _ rfl (g6 + 1) (V1.heap.size) 0 0 [] rfl o4 w.heap.size V nv cv lv rfl (rV.below b) (by omega) k6.lt ?_
                intro g7' c7 V4 o7 gb7 hg7
                have h4 := o4.base
                simp only [Nat.zero_add, List.nil_append] at o7 ⊢
                have b := b.trans (below_grown gb7 (by omega) h4.2)
                have k1 := k1.left gb7 (by omega)
                have k2 := k2.left gb7 (by omega)
                have k6 := k6.left gb7 (by omega)
                have o3 := o3.left gb7 (by have := o3.base; omega)
                have hl7 := o7.base.2
                have hHeld := k1
                refine hK.out _ _ (fun _ => hHeld) ?_
                clear hK KK
                try simp only [Act.put, List.setIfInBounds_toArray, List.set_cons_zero, List.set_cons_succ]
                have y5 := k6.frozen 5
                have y6 := k6.frozen 6
                obtain ⟨z0, z1, z2, z3, z4, z5, z6, z7, z8, z9, z10, z11⟩ := box12 k6
                have ne : w.heap.size ≠ g6 := by omega
                refine oneT (i := 9) rfl (by kernel_rfl) (fun KK hK => ?_)
                go_simp
                have hHeld := k1.far (p := ⟨g6, 5, none⟩) ne (.slice (some ⟨g3', 0, none⟩) nk c3)
                refine hK.out _ _ (fun _ => hHeld) ?_
                clear hK KK
                try simp only [Act.put, List.setIfInBounds_toArray, List.set_cons_zero, List.set_cons_succ]
                refine takeA (i := 10) (v := ?_) rfl (fun _ _ _ h => h) (Or.inl ⟨by rfl, ?_⟩) hHeld ?_
                rotate_left
                · (intro wx hSw; obtain ⟨a0, a1, a2, a3, a4, a5, a6, a7, a8, a9, a10, a11⟩ := box12 hSw; go_simp; try (with_reducible rfl))
                try simp only [Act.put, List.setIfInBounds_toArray, List.set_cons_zero, List.set_cons_succ]
                refine oneT (i := 11) rfl (by kernel_rfl) (fun KK hK => ?_)
                go_simp
                have hHeld := hHeld.far (p := ⟨g6, 6, none⟩) ne (.slice (some ⟨g7', 0, none⟩) nv c7)
                refine hK.out _ _ (fun _ => hHeld) ?_
                clear hK KK
                try simp only [Act.put, List.setIfInBounds_toArray, List.set_cons_zero, List.set_cons_succ]
                refine doneT (by kernel_rfl) ?_ _
                refine NoPanic.normal ?_
                go_wp2_with fail
                go_meet
                have gs := grown_trans (rdr_grown_set V4 g6 5 (.slice (some ⟨g3', 0, none⟩) nk c3)) (rdr_grown_set _ g6 6 (.slice (some ⟨g7', 0, none⟩) nv c7))
                exact ⟨some ⟨g3', 0, none⟩, some ⟨g7', 0, none⟩, c3, c7, (k6.set_ 5 (.slice (some ⟨g3', 0, none⟩) nk c3)).set_ 6 (.slice (some ⟨g7', 0, none⟩) nv c7), hHeld, k2.left gs (by omega), o3.kept gs (by omega), o7.kept gs (by omega), b.trans (below_grown gs (by omega) k6.lt)⟩
            · go_simp
              have o4 : Own (V0.alloc (.cells #[] 5)) (g6 + 1) (some ⟨V0.heap.size, 0, none⟩) 0 0 [] := Own.emptyK V0 _ _ rfl k6.lt
              have ba := below_a1' (Below.refl V0.heap.size V0) (.cells #[] 5)
              have k1 := k1.alloc (.cells #[] 5)
              have k2 := k2.alloc (.cells #[] 5)
              have k6 := k6.alloc (.cells #[] 5)
              have b := below_step b ba
              generalize hW : V0.alloc (.cells #[] 5) = V1 at o4 k1 k2 k6 b ba ⊢
              clear hW ba
              have hl4 := o4.base.2
              have hHeld := k1
              refine hK.out _ _ (fun _ => hHeld) ?_
              clear hK KK
              try simp only [Act.put, List.setIfInBounds_toArray, List.set_cons_zero, List.set_cons_succ]
              refine oneT (i := 0) rfl (by kernel_rfl) (fun KK hK => ?_)
              go_simp
              have o0 : Own (V1.alloc (.cells #[] 5)) (g6 + 1) (some ⟨V1.heap.size, 0, none⟩) 0 0 [] := Own.emptyK V1 _ _ rfl k6.lt
              have ba := below_a1' (Below.refl V1.heap.size V1) (.cells #[] 5)
              have k1 := k1.alloc (.cells #[] 5)
              have k2 := k2.alloc (.cells #[] 5)
              have k6 := k6.alloc (.cells #[] 5)
              have b := below_step b ba
              have o4 := o4.below ba
              generalize hW : V1.alloc (.cells #[] 5) = V2 at o0 k1 k2 k6 b ba o4 ⊢
              clear hW ba
              have hl0 := o0.base.2
              have hHeld := k1
              refine hK.out _ _ (fun _ => hHeld) ?_
              clear hK KK
              try simp only [Act.put, List.setIfInBounds_toArray, List.set_cons_zero, List.set_cons_succ]
              refine oneT (i := 3) rfl (by kernel_rfl) (fun KK hK => ?_)
              refine step_app8g _ rfl _ _ rfl (g6 + 1) (V1.heap.size) 0 0 [] rfl o0 w.heap.size K nk ck lk rfl (rK.below b) (by omega) k6.lt ?_
              intro g3' c3 V3 o3 gb3 hg3
              have h0 := o0.base
              simp only [Nat.zero_add, List.nil_append] at o3 ⊢
              have b := b.trans (below_grown gb3 (by omega) h0.2)
              have k1 := k1.left gb3 (by omega)
              have k2 := k2.left gb3 (by omega)
              have k6 := k6.left gb3 (by omega)
              have o4 := o4.left gb3 (by have := o4.base; omega)
              have hl3 := o3.base.2
              have hHeld := k1
              refine hK.out _ _ (fun _ => hHeld) ?_
              clear hK KK
              try simp only [Act.put, List.setIfInBounds_toArray, List.set_cons_zero, List.set_cons_succ]
              refine takeA (i := 8) (v := ?_) rfl (fun _ _ _ h => h) (Or.inl ⟨by rfl, ?_⟩) hHeld ?_
              rotate_left
              · (intro wx hSw; obtain ⟨a0, a1, a2, a3, a4, a5, a6, a7, a8, a9, a10, a11⟩ := box12 hSw; go_simp; try (with_reducible rfl))
              try simp only [Act.put, List.setIfInBounds_toArray, List.set_cons_zero, List.set_cons_succ]
              refine oneT (i := 7) rfl (by kernel_rfl) (fun KK hK => ?_)
              refine step_app8g _ rfl _ _ rfl (g6 + 1) (V0.heap.size) 0 0 [] rfl o4 w.heap.size V nv cv lv rfl (rV.below b) (by omega) k6.lt ?_
              intro g7' c7 V4 o7 gb7 hg7
              have h4 := o4.base
              simp only [Nat.zero_add, List.nil_append] at o7 ⊢
              have b := b.trans (below_grown gb7 (by omega) h4.2)
              have k1 := k1.left gb7 (by omega)
              have k2 := k2.left gb7 (by omega)
              have k6 := k6.left gb7 (by omega)
              have o3 := o3.left gb7 (by have := o3.base; omega)
              have hl7 := o7.base.2
              have hHeld := k1
              refine hK.out _ _ (fun _ => hHeld) ?_
              clear hK KK
              try simp only [Act.put, List.setIfInBounds_toArray, List.set_cons_zero, List.set_cons_succ]
              have y5 := k6.frozen 5
              have y6 := k6.frozen 6
              obtain ⟨z0, z1, z2, z3, z4, z5, z6, z7, z8, z9, z10, z11⟩ := box12 k6
              have ne : w.heap.size ≠ g6 := by omega
              refine oneT (i := 9) rfl (by kernel_rfl) (fun KK hK => ?_)
              go_simp
              have hHeld := k1.far (p := ⟨g6, 5, none⟩) ne (.slice (some ⟨g3', 0, none⟩) nk c3)
              refine hK.out _ _ (fun _ => hHeld) ?_
              clear hK KK
              try simp only [Act.put, List.setIfInBounds_toArray, List.set_cons_zero, List.set_cons_succ]
              refine takeA (i := 10) (v := ?_) rfl (fun _ _ _ h => h) (Or.inl ⟨by rfl, ?_⟩) hHeld ?_
              rotate_left
              · (intro wx hSw; obtain ⟨a0, a1, a2, a3, a4, a5, a6, a7, a8, a9, a10, a11⟩ := box12 hSw; go_simp; try (with_reducible rfl))
              try simp only [Act.put, List.setIfInBounds_toArray, List.set_cons_zero, List.set_cons_succ]
              refine oneT (i := 11) rfl (by kernel_rfl) (fun KK hK => ?_)
              go_simp
              have hHeld := hHeld.far (p := ⟨g6, 6, none⟩) ne (.slice (some ⟨g7', 0, none⟩) nv c7)
              refine hK.out _ _ (fun _ => hHeld) ?_
              clear hK KK
              try simp only [Act.put, List.setIfInBounds_toArray, List.set_cons_zero, List.set_cons_succ]
              refine doneT (by kernel_rfl) ?_ _
              refine NoPanic.normal ?_
              go_wp2_with fail
              go_meet
              have gs := grown_trans (rdr_grown_set V4 g6 5 (.slice (some ⟨g3', 0, none⟩) nk c3)) (rdr_grown_set _ g6 6 (.slice (some ⟨g7', 0, none⟩) nv c7))
              exact ⟨some ⟨g3', 0, none⟩, some ⟨g7', 0, none⟩, c3, c7, (k6.set_ 5 (.slice (some ⟨g3', 0, none⟩) nk c3)).set_ 6 (.slice (some ⟨g7', 0, none⟩) nv c7), hHeld, k2.left gs (by omega), o3.kept gs (by omega), o7.kept gs (by omega), b.trans (below_grown gs (by omega) k6.lt)⟩
          case rest =>
            obtain ⟨K2, V2, ck2, cv2, kq, k1, k2, oK, oV, b⟩ := hcut
            have G := World.grownBy.refl wc (some g6)
            obtain ⟨p0, p1, p2, p3, p4, p5, p6, p7, p8, p9, p10, p11⟩ := box12 k1
            have lq := kq.lt
            rcases HN.out rfl with h | h | h | h
            · have e4 : ((nx : Int) == 4) = false := beq_eq_false_iff_ne.2 (by omega)
              have e8 : ((nx : Int) == 8) = false := beq_eq_false_iff_ne.2 (by omega)
              have e20 : ((nx : Int) == 20) = false := beq_eq_false_iff_ne.2 (by omega)
              have EQF : Hid (flOf nx lx = 0 ∧ exOf nx lx = 0 ∧ dlOf nx lx = 0 ∧ niOf nx lx = 0) := Lib.hid (by subst h; exact ⟨rfl, rfl, rfl, rfl⟩)
              have HNX := Lib.hid h
              clear h
              go_upto_region 24 with fail
              obtain ⟨z0, z1, z2, z3, z4, z5, z6, z7, z8, z9, z10, z11⟩ := box12 kq
              obtain ⟨u0, u1, u2, u3, u4, u5, u6, u7, u8, u9, u10, u11⟩ := box12 k2
              have y0 := k2.frozen 0
              have y1 := k2.frozen 1
              have y2 := k2.frozen 2
              have y3 := k2.frozen 3
              have y4 := k2.frozen 4
              have y5 := k2.frozen 5
              have y6 := k2.frozen 6
              have y7 := k2.frozen 7
              have y8 := k2.frozen 8
              have y9 := k2.frozen 9
              have y10 := k2.frozen 10
              have y11 := k2.frozen 11
              have kf := blk_set12 k2 (.int .i64 (o : Nat)) (.bool q) (.bool f) (.int .i64 0) (.int .u32 (oq : Nat)) (.slice K2 nk ck2) (.slice V2 nv cv2) (.int .u32 0) (.int .u32 0) (.int .u64 (cas : Nat)) (.int .u64 0) (.int .u64 0)
              have gs := grown_set12 wc (w.heap.size + 1) (.int .i64 (o : Nat)) (.bool q) (.bool f) (.int .i64 0) (.int .u32 (oq : Nat)) (.slice K2 nk ck2) (.slice V2 nv cv2) (.int .u32 0) (.int .u32 0) (.int .u64 (cas : Nat)) (.int .u64 0) (.int .u64 0)
              have bf := b.trans (below_grown gs (by omega) k2.lt)
              obtain ⟨t0, t1, t2, t3, t4, t5, t6, t7, t8, t9, t10, t11⟩ := box12 kf
              have oKf := ((oK.kept G (by omega)).kept gs (by omega)).more (B' := w.heap.size) (by omega)
              have oVf := ((oV.kept G (by omega)).kept gs (by omega)).more (B' := w.heap.size) (by omega)
              clear kf gs b k1 k2 kq
              go_wp2_with fail
              refine bodyPost_ret (v := .agg #[.int .i64 (o : Nat), .bool q, .bool f, .int .i64 0, .int .u32 (oq : Nat), .slice K2 nk ck2, .slice V2 nv cv2, .int .u32 0, .int .u32 0, .int .u64 (cas : Nat), .int .u64 0, .int .u64 0]) (by simp [results, Try.results56, go_sem, t0, t1, t2, t3, t4, t5, t6, t7, t8, t9, t10, t11]) rfl ?_
              exact HPOST.out _ _ ⟨_, _, _, _, _, _, (by first | (rw [EQF.out.1, EQF.out.2.1, EQF.out.2.2.1, EQF.out.2.2.2]; done) | (rw [EQF.out.1, EQF.out.2.1, EQF.out.2.2.1, EQF.out.2.2.2]; rfl)), oKf, oVf, bf⟩
            · have e4 : ((nx : Int) == 4) = true := beq_iff_eq.2 (by omega)
              have e8 : ((nx : Int) == 8) = false := beq_eq_false_iff_ne.2 (by omega)
              have e20 : ((nx : Int) == 20) = false := beq_eq_false_iff_ne.2 (by omega)
              have EQF : Hid (flOf nx lx = 0 ∧ exOf nx lx = fld lx 0 4 ∧ dlOf nx lx = 0 ∧ niOf nx lx = 0) := Lib.hid (by subst h; exact ⟨rfl, rfl, rfl, rfl⟩)
              have HNX := Lib.hid h
              clear h
              have HNUM := Lib.hid (num4 (l := lx) (by rw [rX.len]; exact HNX.out))
              have HY := HNUM.out
              have y := kq.frozen 8
              obtain ⟨z0, z1, z2, z3, z4, z5, z6, z7, z8, z9, z10, z11⟩ := box12 kq
              go_wp2_with fail
              refine (num20_any X nx cx w.heap.size lx wc (rX.below b)).mono ?_
              rintro e w9 ⟨rfl, rfl⟩
              go_upto_region 24 with fail
              have gq := rdr_grown_set wc g6 8 (.int .u32 (fld lx 0 4 : Nat))
              replace k1 := k1.leftC gq (by omega)
              replace k2 := k2.leftC gq (by omega)
              replace b := b.trans (below_grown gq (by omega) kq.lt)
              replace kq : Blk (wc.setCell ⟨g6, 8, none⟩ (.int .u32 (fld lx 0 4 : Nat))) g6 #[.int .i64 (o : Nat), .bool q, .bool f, .int .i64 0, .int .u32 (oq : Nat), .slice K2 nk ck2, .slice V2 nv cv2, .int .u32 0, .int .u32 (fld lx 0 4 : Nat), .int .u64 (cas : Nat), .int .u64 0, .int .u64 0] 26 := kq.set_ 8 _
              replace G := grown_trans G (rdr_grown_set wc g6 8 (.int .u32 (fld lx 0 4 : Nat)))
              clear gq y HY z0 z1 z2 z3 z4 z5 z6 z7 z8 z9 z10 z11 p0 p1 p2 p3 p4 p5 p6 p7 p8 p9 p10 p11
              generalize wc.setCell ⟨g6, 8, none⟩ (.int .u32 (fld lx 0 4 : Nat)) = Y6 at kq k1 k2 b G ⊢
              obtain ⟨z0, z1, z2, z3, z4, z5, z6, z7, z8, z9, z10, z11⟩ := box12 kq
              obtain ⟨u0, u1, u2, u3, u4, u5, u6, u7, u8, u9, u10, u11⟩ := box12 k2
              have y0 := k2.frozen 0
              have y1 := k2.frozen 1
              have y2 := k2.frozen 2
              have y3 := k2.frozen 3
              have y4 := k2.frozen 4
              have y5 := k2.frozen 5
              have y6 := k2.frozen 6
              have y7 := k2.frozen 7
              have y8 := k2.frozen 8
              have y9 := k2.frozen 9
              have y10 := k2.frozen 10
              have y11 := k2.frozen 11
              have kf := blk_set12 k2 (.int .i64 (o : Nat)) (.bool q) (.bool f) (.int .i64 0) (.int .u32 (oq : Nat)) (.slice K2 nk ck2) (.slice V2 nv cv2) (.int .u32 0) (.int .u32 (fld lx 0 4 : Nat)) (.int .u64 (cas : Nat)) (.int .u64 0) (.int .u64 0)
              have gs := grown_set12 Y6 (w.heap.size + 1) (.int .i64 (o : Nat)) (.bool q) (.bool f) (.int .i64 0) (.int .u32 (oq : Nat)) (.slice K2 nk ck2) (.slice V2 nv cv2) (.int .u32 0) (.int .u32 (fld lx 0 4 : Nat)) (.int .u64 (cas : Nat)) (.int .u64 0) (.int .u64 0)
              have bf := b.trans (below_grown gs (by omega) k2.lt)
              obtain ⟨t0, t1, t2, t3, t4, t5, t6, t7, t8, t9, t10, t11⟩ := box12 kf
              have oKf := ((oK.kept G (by omega)).kept gs (by omega)).more (B' := w.heap.size) (by omega)
              have oVf := ((oV.kept G (by omega)).kept gs (by omega)).more (B' := w.heap.size) (by omega)
              clear kf gs b k1 k2 kq
              go_wp2_with fail
              refine bodyPost_ret (v := .agg #[.int .i64 (o : Nat), .bool q, .bool f, .int .i64 0, .int .u32 (oq : Nat), .slice K2 nk ck2, .slice V2 nv cv2, .int .u32 0, .int .u32 (fld lx 0 4 : Nat), .int .u64 (cas : Nat), .int .u64 0, .int .u64 0]) (by simp [results, Try.results56, go_sem, t0, t1, t2, t3, t4, t5, t6, t7, t8, t9, t10, t11]) rfl ?_
              exact HPOST.out _ _ ⟨_, _, _, _, _, _, (by first | (rw [EQF.out.1, EQF.out.2.1, EQF.out.2.2.1, EQF.out.2.2.2]; done) | (rw [EQF.out.1, EQF.out.2.1, EQF.out.2.2.1, EQF.out.2.2.2]; rfl)), oKf, oVf, bf⟩
            · have e4 : ((nx : Int) == 4) = false := beq_eq_false_iff_ne.2 (by omega)
              have e8 : ((nx : Int) == 8) = true := beq_iff_eq.2 (by omega)
              have e20 : ((nx : Int) == 20) = false := beq_eq_false_iff_ne.2 (by omega)
              have EQF : Hid (flOf nx lx = fld lx 0 4 ∧ exOf nx lx = fld lx 4 4 ∧ dlOf nx lx = 0 ∧ niOf nx lx = 0) := Lib.hid (by subst h; exact ⟨rfl, rfl, rfl, rfl⟩)
              have HNX := Lib.hid h
              clear h
              go_upto_region 21 with fail
              obtain ⟨X4, c4, HS4, hS4⟩ := slc_h rX 4 4 rfl (by have := HNX.out; omega)
              obtain ⟨X8, c8, HS8, hS8⟩ := slc_l rX 4 4 rfl (by have := HNX.out; omega)
              have HW4 := (num8a (l := lx) (by rw [rX.len]; exact HNX.out))
              have HW8 := (num8b (l := lx) (by rw [rX.len]; exact HNX.out))
              have rXc := rX.below b
              refine wp_region_noPanic ?_
              refine region_T (fun wx => Rd wx w.heap.size X nx cx lx) 12 (by kernel_rfl) ?_
              have bD : Below wc.heap.size wc wc.drew := (Below.refl _ _).drew
              replace k1 := k1.step bD
              replace k2 := k2.step bD
              replace kq := kq.step bD
              replace b := below_step b bD
              replace G := grown_below G bD
              have hHeld : Rd wc.drew w.heap.size X nx cx lx := rXc
              clear bD rXc p0 p1 p2 p3 p4 p5 p6 p7 p8 p9 p10 p11
              generalize wc.drew = Y0' at b hHeld k1 k2 kq G ⊢
              refine takeA (i := 0) (v := ?_) rfl (fun _ _ _ h => h) (Or.inl ⟨by rfl, ?_⟩) hHeld ?_
              rotate_left
              · (intro wx hSw; go_simp; try (with_reducible rfl))
              try simp only [Act.put, List.setIfInBounds_toArray, List.set_cons_zero, List.set_cons_succ]
              refine takeA (i := 1) (v := ?_) rfl (fun _ _ _ h => h) (Or.inl ⟨by rfl, ?_⟩) hHeld ?_
              rotate_left
              · (intro wx hSw; go_simp; try (with_reducible rfl))
              try simp only [Act.put, List.setIfInBounds_toArray, List.set_cons_zero, List.set_cons_succ]
              refine takeQ (i := 2) (v := .int .u64 (numQ (lx.take 4) : Nat)) rfl (by kernel_rfl) (by kernel_rfl) (by decide) (by kernel_rfl) (by kernel_rfl) (fun _ _ _ h => h) ⟨by rfl, fun wx hSw => ⟨101, #[.slice X4 (4) c4], ?_, num20_any _ _ _ w.heap.size _ wx (hS4 wx w.heap.size hSw)⟩⟩ hHeld ?_
              · go_simp
              try simp only [Act.put, List.setIfInBounds_toArray, List.set_cons_zero, List.set_cons_succ]
              refine takeA (i := 3) (v := ?_) rfl (fun _ _ _ h => h) (Or.inl ⟨by rfl, ?_⟩) hHeld ?_
              rotate_left
              · (intro wx hSw; go_simp; try (with_reducible rfl))
              try simp only [Act.put, List.setIfInBounds_toArray, List.set_cons_zero, List.set_cons_succ]
              refine takeA (i := 4) (v := ?_) rfl (fun _ _ _ h => h) (Or.inl ⟨by rfl, ?_⟩) hHeld ?_
              rotate_left
              · (intro wx hSw; go_simp; try (with_reducible rfl))
              try simp only [Act.put, List.setIfInBounds_toArray, List.set_cons_zero, List.set_cons_succ]
              refine takeA (i := 5) (v := ?_) rfl (fun _ _ _ h => h) (Or.inl ⟨by rfl, ?_⟩) hHeld ?_
              rotate_left
              · (intro wx hSw; go_simp; try (with_reducible rfl))
              try simp only [Act.put, List.setIfInBounds_toArray, List.set_cons_zero, List.set_cons_succ]
              refine takeQ (i := 6) (v := .int .u64 (numQ (lx.drop 4) : Nat)) rfl (by kernel_rfl) (by kernel_rfl) (by decide) (by kernel_rfl) (by kernel_rfl) (fun _ _ _ h => h) ⟨by rfl, fun wx hSw => ⟨101, #[.slice X8 (nx - 4) c8], ?_, num20_any _ _ _ w.heap.size _ wx (hS8 wx w.heap.size hSw)⟩⟩ hHeld ?_
              · go_simp
              try simp only [Act.put, List.setIfInBounds_toArray, List.set_cons_zero, List.set_cons_succ]
              refine takeA (i := 7) (v := ?_) rfl (fun _ _ _ h => h) (Or.inl ⟨by rfl, ?_⟩) hHeld ?_
              rotate_left
              · (intro wx hSw; go_simp; try (with_reducible rfl))
              try simp only [Act.put, List.setIfInBounds_toArray, List.set_cons_zero, List.set_cons_succ]
              refine takeA (i := 8) (v := ?_) rfl (fun _ _ _ h => h) (Or.inl ⟨by rfl, ?_⟩) hHeld ?_
              rotate_left
              · (intro wx hSw; go_simp; try (with_reducible rfl))
              try simp only [Act.put, List.setIfInBounds_toArray, List.set_cons_zero, List.set_cons_succ]
              have y := kq.frozen 7
              obtain ⟨z0, z1, z2, z3, z4, z5, z6, z7, z8, z9, z10, z11⟩ := box12 kq
              refine oneT (i := 9) rfl (by kernel_rfl) (fun KK hK => ?_)
              go_simp
              have gq := rdr_grown_set Y0' g6 7 (.int .u32 (fld lx 0 4 : Nat))
              replace k1 := k1.leftC gq (by omega)
              replace k2 := k2.leftC gq (by omega)
              replace b := b.trans (below_grown gq (by omega) kq.lt)
              replace kq : Blk (Y0'.setCell ⟨g6, 7, none⟩ (.int .u32 (fld lx 0 4 : Nat))) g6 #[.int .i64 (o : Nat), .bool q, .bool f, .int .i64 0, .int .u32 (oq : Nat), .slice K2 nk ck2, .slice V2 nv cv2, .int .u32 (fld lx 0 4 : Nat), .int .u32 0, .int .u64 (cas : Nat), .int .u64 0, .int .u64 0] 26 := kq.set_ 7 _
              replace G := grown_trans G (rdr_grown_set Y0' g6 7 (.int .u32 (fld lx 0 4 : Nat)))
              replace hHeld := hHeld.setCell (p := ⟨g6, 7, none⟩) (by show w.heap.size ≤ g6; omega) (.int .u32 (fld lx 0 4 : Nat))
              clear gq y z0 z1 z2 z3 z4 z5 z6 z7 z8 z9 z10 z11
              generalize Y0'.setCell ⟨g6, 7, none⟩ (.int .u32 (fld lx 0 4 : Nat)) = Y1' at kq b k1 k2 G hHeld ⊢
              refine hK.out _ _ (fun _ => hHeld) ?_
              clear hK KK
              try simp only [Act.put, List.setIfInBounds_toArray, List.set_cons_zero, List.set_cons_succ]
              refine takeA (i := 10) (v := ?_) rfl (fun _ _ _ h => h) (Or.inl ⟨by rfl, ?_⟩) hHeld ?_
              rotate_left
              · (intro wx hSw; go_simp; try (with_reducible rfl))
              try simp only [Act.put, List.setIfInBounds_toArray, List.set_cons_zero, List.set_cons_succ]
              have y := kq.frozen 8
              obtain ⟨z0, z1, z2, z3, z4, z5, z6, z7, z8, z9, z10, z11⟩ := box12 kq
              refine oneT (i := 11) rfl (by kernel_rfl) (fun KK hK => ?_)
              go_simp
              have gq := rdr_grown_set Y1' g6 8 (.int .u32 (fld lx 4 4 : Nat))
              replace k1 := k1.leftC gq (by omega)
              replace k2 := k2.leftC gq (by omega)
              replace b := b.trans (below_grown gq (by omega) kq.lt)
              replace kq : Blk (Y1'.setCell ⟨g6, 8, none⟩ (.int .u32 (fld lx 4 4 : Nat))) g6 #[.int .i64 (o : Nat), .bool q, .bool f, .int .i64 0, .int .u32 (oq : Nat), .slice K2 nk ck2, .slice V2 nv cv2, .int .u32 (fld lx 0 4 : Nat), .int .u32 (fld lx 4 4 : Nat), .int .u64 (cas : Nat), .int .u64 0, .int .u64 0] 26 := kq.set_ 8 _
              replace G := grown_trans G (rdr_grown_set Y1' g6 8 (.int .u32 (fld lx 4 4 : Nat)))
              replace hHeld := hHeld.setCell (p := ⟨g6, 8, none⟩) (by show w.heap.size ≤ g6; omega) (.int .u32 (fld lx 4 4 : Nat))
              clear gq y z0 z1 z2 z3 z4 z5 z6 z7 z8 z9 z10 z11
              generalize Y1'.setCell ⟨g6, 8, none⟩ (.int .u32 (fld lx 4 4 : Nat)) = Y2' at kq b k1 k2 G hHeld ⊢
              refine hK.out _ _ (fun _ => hHeld) ?_
              clear hK KK
              try simp only [Act.put, List.setIfInBounds_toArray, List.set_cons_zero, List.set_cons_succ]
              refine doneT (by kernel_rfl) ?_ _
              refine NoPanic.normal ?_
              clear hHeld
              clear HS4 HS8 hS4 hS8 HW4 HW8
              obtain ⟨z0, z1, z2, z3, z4, z5, z6, z7, z8, z9, z10, z11⟩ := box12 kq
              obtain ⟨u0, u1, u2, u3, u4, u5, u6, u7, u8, u9, u10, u11⟩ := box12 k2
              have y0 := k2.frozen 0
              have y1 := k2.frozen 1
              have y2 := k2.frozen 2
              have y3 := k2.frozen 3
              have y4 := k2.frozen 4
              have y5 := k2.frozen 5
              have y6 := k2.frozen 6
              have y7 := k2.frozen 7
              have y8 := k2.frozen 8
              have y9 := k2.frozen 9
              have y10 := k2.frozen 10
              have y11 := k2.frozen 11
              have kf := blk_set12 k2 (.int .i64 (o : Nat)) (.bool q) (.bool f) (.int .i64 0) (.int .u32 (oq : Nat)) (.slice K2 nk ck2) (.slice V2 nv cv2) (.int .u32 (fld lx 0 4 : Nat)) (.int .u32 (fld lx 4 4 : Nat)) (.int .u64 (cas : Nat)) (.int .u64 0) (.int .u64 0)
              have gs := grown_set12 Y2' (w.heap.size + 1) (.int .i64 (o : Nat)) (.bool q) (.bool f) (.int .i64 0) (.int .u32 (oq : Nat)) (.slice K2 nk ck2) (.slice V2 nv cv2) (.int .u32 (fld lx 0 4 : Nat)) (.int .u32 (fld lx 4 4 : Nat)) (.int .u64 (cas : Nat)) (.int .u64 0) (.int .u64 0)
              have bf := b.trans (below_grown gs (by omega) k2.lt)
              obtain ⟨t0, t1, t2, t3, t4, t5, t6, t7, t8, t9, t10, t11⟩ := box12 kf
              have oKf := ((oK.kept G (by omega)).kept gs (by omega)).more (B' := w.heap.size) (by omega)
              have oVf := ((oV.kept G (by omega)).kept gs (by omega)).more (B' := w.heap.size) (by omega)
              clear kf gs b k1 k2 kq
              go_wp2_with fail
              refine bodyPost_ret (v := .agg #[.int .i64 (o : Nat), .bool q, .bool f, .int .i64 0, .int .u32 (oq : Nat), .slice K2 nk ck2, .slice V2 nv cv2, .int .u32 (fld lx 0 4 : Nat), .int .u32 (fld lx 4 4 : Nat), .int .u64 (cas : Nat), .int .u64 0, .int .u64 0]) (by simp [results, Try.results56, go_sem, t0, t1, t2, t3, t4, t5, t6, t7, t8, t9, t10, t11]) rfl ?_
              exact HPOST.out _ _ ⟨_, _, _, _, _, _, (by first | (rw [EQF.out.1, EQF.out.2.1, EQF.out.2.2.1, EQF.out.2.2.2]; done) | (rw [EQF.out.1, EQF.out.2.1, EQF.out.2.2.1, EQF.out.2.2.2]; rfl)), oKf, oVf, bf⟩
            · have e4 : ((nx : Int) == 4) = false := beq_eq_false_iff_ne.2 (by omega)
              have e8 : ((nx : Int) == 8) = false := beq_eq_false_iff_ne.2 (by omega)
              have e20 : ((nx : Int) == 20) = true := beq_iff_eq.2 (by omega)
              have EQF : Hid (flOf nx lx = 0 ∧ exOf nx lx = fld lx 16 4 ∧ dlOf nx lx = fld lx 0 8 ∧ niOf nx lx = fld lx 8 8) := Lib.hid (by subst h; exact ⟨rfl, rfl, rfl, rfl⟩)
              have HNX := Lib.hid h
              clear h
              go_upto_region 23 with fail
              obtain ⟨X4, c4, HS4, hS4⟩ := slc_h rX 8 8 rfl (by have := HNX.out; omega)
              obtain ⟨X8, c8, HS8, hS8⟩ := slc_lh rX 8 16 8 16 rfl rfl (by omega) (by have := HNX.out; omega)
              obtain ⟨X9, c9, HS9, hS9⟩ := slc_l rX 16 16 rfl (by have := HNX.out; omega)
              have HW4 := (num20a (l := lx) (by rw [rX.len]; exact HNX.out))
              have HW8 := (num20b (l := lx) (by rw [rX.len]; exact HNX.out))
              have HW9 := (num20c (l := lx) (by rw [rX.len]; exact HNX.out))
              have rXc := rX.below b
              refine wp_region_noPanic ?_
              refine region_T (fun wx => Rd wx w.heap.size X nx cx lx) 16 (by kernel_rfl) ?_
              have bD : Below wc.heap.size wc wc.drew := (Below.refl _ _).drew
              replace k1 := k1.step bD
              replace k2 := k2.step bD
              replace kq := kq.step bD
              replace b := below_step b bD
              replace G := grown_below G bD
              have hHeld : Rd wc.drew w.heap.size X nx cx lx := rXc
              clear bD rXc p0 p1 p2 p3 p4 p5 p6 p7 p8 p9 p10 p11
              generalize wc.drew = Y0' at b hHeld k1 k2 kq G ⊢
              refine takeA (i := 0) (v := ?_) rfl (fun _ _ _ h => h) (Or.inl ⟨by rfl, ?_⟩) hHeld ?_
              rotate_left
              · (intro wx hSw; go_simp; try (with_reducible rfl))
              try simp only [Act.put, List.setIfInBounds_toArray, List.set_cons_zero, List.set_cons_succ]
              refine takeA (i := 1) (v := ?_) rfl (fun _ _ _ h => h) (Or.inl ⟨by rfl, ?_⟩) hHeld ?_
              rotate_left
              · (intro wx hSw; go_simp; try (with_reducible rfl))
              try simp only [Act.put, List.setIfInBounds_toArray, List.set_cons_zero, List.set_cons_succ]
              refine takeQ (i := 2) (v := .int .u64 (numQ (lx.take 8) : Nat)) rfl (by kernel_rfl) (by kernel_rfl) (by decide) (by kernel_rfl) (by kernel_rfl) (fun _ _ _ h => h) ⟨by rfl, fun wx hSw => ⟨101, #[.slice X4 (8) c4], ?_, num20_any _ _ _ w.heap.size _ wx (hS4 wx w.heap.size hSw)⟩⟩ hHeld ?_
              · go_simp
              try simp only [Act.put, List.setIfInBounds_toArray, List.set_cons_zero, List.set_cons_succ]
              refine takeA (i := 3) (v := ?_) rfl (fun _ _ _ h => h) (Or.inl ⟨by rfl, ?_⟩) hHeld ?_
              rotate_left
              · (intro wx hSw; go_simp; try (with_reducible rfl))
              try simp only [Act.put, List.setIfInBounds_toArray, List.set_cons_zero, List.set_cons_succ]
              refine takeA (i := 4) (v := ?_) rfl (fun _ _ _ h => h) (Or.inl ⟨by rfl, ?_⟩) hHeld ?_
              rotate_left
              · (intro wx hSw; go_simp; try (with_reducible rfl))
              try simp only [Act.put, List.setIfInBounds_toArray, List.set_cons_zero, List.set_cons_succ]
              refine takeQ (i := 5) (v := .int .u64 (numQ ((lx.take 16).drop 8) : Nat)) rfl (by kernel_rfl) (by kernel_rfl) (by decide) (by kernel_rfl) (by kernel_rfl) (fun _ _ _ h => h) ⟨by rfl, fun wx hSw => ⟨101, #[.slice X8 (16 - 8) c8], ?_, num20_any _ _ _ w.heap.size _ wx (hS8 wx w.heap.size hSw)⟩⟩ hHeld ?_
              · go_simp
              try simp only [Act.put, List.setIfInBounds_toArray, List.set_cons_zero, List.set_cons_succ]
              refine takeA (i := 6) (v := ?_) rfl (fun _ _ _ h => h) (Or.inl ⟨by rfl, ?_⟩) hHeld ?_
              rotate_left
              · (intro wx hSw; go_simp; try (with_reducible rfl))
              try simp only [Act.put, List.setIfInBounds_toArray, List.set_cons_zero, List.set_cons_succ]
              refine takeA (i := 7) (v := ?_) rfl (fun _ _ _ h => h) (Or.inl ⟨by rfl, ?_⟩) hHeld ?_
              rotate_left
              · (intro wx hSw; go_simp; try (with_reducible rfl))
              try simp only [Act.put, List.setIfInBounds_toArray, List.set_cons_zero, List.set_cons_succ]
              refine takeQ (i := 8) (v := .int .u64 (numQ (lx.drop 16) : Nat)) rfl (by kernel_rfl) (by kernel_rfl) (by decide) (by kernel_rfl) (by kernel_rfl) (fun _ _ _ h => h) ⟨by rfl, fun wx hSw => ⟨101, #[.slice X9 (nx - 16) c9], ?_, num20_any _ _ _ w.heap.size _ wx (hS9 wx w.heap.size hSw)⟩⟩ hHeld ?_
              · go_simp
              try simp only [Act.put, List.setIfInBounds_toArray, List.set_cons_zero, List.set_cons_succ]
              refine takeA (i := 9) (v := ?_) rfl (fun _ _ _ h => h) (Or.inl ⟨by rfl, ?_⟩) hHeld ?_
              rotate_left
              · (intro wx hSw; go_simp; try (with_reducible rfl))
              try simp only [Act.put, List.setIfInBounds_toArray, List.set_cons_zero, List.set_cons_succ]
              refine takeA (i := 10) (v := ?_) rfl (fun _ _ _ h => h) (Or.inl ⟨by rfl, ?_⟩) hHeld ?_
              rotate_left
              · (intro wx hSw; go_simp; try (with_reducible rfl))
              try simp only [Act.put, List.setIfInBounds_toArray, List.set_cons_zero, List.set_cons_succ]
              have y := kq.frozen 10
              obtain ⟨z0, z1, z2, z3, z4, z5, z6, z7, z8, z9, z10, z11⟩ := box12 kq
              refine oneT (i := 11) rfl (by kernel_rfl) (fun KK hK => ?_)
              go_simp
              have gq := rdr_grown_set Y0' g6 10 (.int .u64 (fld lx 0 8 : Nat))
              replace k1 := k1.leftC gq (by omega)
              replace k2 := k2.leftC gq (by omega)
              replace b := b.trans (below_grown gq (by omega) kq.lt)
              replace kq : Blk (Y0'.setCell ⟨g6, 10, none⟩ (.int .u64 (fld lx 0 8 : Nat))) g6 #[.int .i64 (o : Nat), .bool q, .bool f, .int .i64 0, .int .u32 (oq : Nat), .slice K2 nk ck2, .slice V2 nv cv2, .int .u32 0, .int .u32 0, .int .u64 (cas : Nat), .int .u64 (fld lx 0 8 : Nat), .int .u64 0] 26 := kq.set_ 10 _
              replace G := grown_trans G (rdr_grown_set Y0' g6 10 (.int .u64 (fld lx 0 8 : Nat)))
              replace hHeld := hHeld.setCell (p := ⟨g6, 10, none⟩) (by show w.heap.size ≤ g6; omega) (.int .u64 (fld lx 0 8 : Nat))
              clear gq y z0 z1 z2 z3 z4 z5 z6 z7 z8 z9 z10 z11
              generalize Y0'.setCell ⟨g6, 10, none⟩ (.int .u64 (fld lx 0 8 : Nat)) = Y1' at kq b k1 k2 G hHeld ⊢
              refine hK.out _ _ (fun _ => hHeld) ?_
              clear hK KK
              try simp only [Act.put, List.setIfInBounds_toArray, List.set_cons_zero, List.set_cons_succ]
              refine takeA (i := 12) (v := ?_) rfl (fun _ _ _ h => h) (Or.inl ⟨by rfl, ?_⟩) hHeld ?_
              rotate_left
              · (intro wx hSw; go_simp; try (with_reducible rfl))
              try simp only [Act.put, List.setIfInBounds_toArray, List.set_cons_zero, List.set_cons_succ]
              have y := kq.frozen 11
              obtain ⟨z0, z1, z2, z3, z4, z5, z6, z7, z8, z9, z10, z11⟩ := box12 kq
              refine oneT (i := 13) rfl (by kernel_rfl) (fun KK hK => ?_)
              go_simp
              have gq := rdr_grown_set Y1' g6 11 (.int .u64 (fld lx 8 8 : Nat))
              replace k1 := k1.leftC gq (by omega)
              replace k2 := k2.leftC gq (by omega)
              replace b := b.trans (below_grown gq (by omega) kq.lt)
              replace kq : Blk (Y1'.setCell ⟨g6, 11, none⟩ (.int .u64 (fld lx 8 8 : Nat))) g6 #[.int .i64 (o : Nat), .bool q, .bool f, .int .i64 0, .int .u32 (oq : Nat), .slice K2 nk ck2, .slice V2 nv cv2, .int .u32 0, .int .u32 0, .int .u64 (cas : Nat), .int .u64 (fld lx 0 8 : Nat), .int .u64 (fld lx 8 8 : Nat)] 26 := kq.set_ 11 _
              replace G := grown_trans G (rdr_grown_set Y1' g6 11 (.int .u64 (fld lx 8 8 : Nat)))
              replace hHeld := hHeld.setCell (p := ⟨g6, 11, none⟩) (by show w.heap.size ≤ g6; omega) (.int .u64 (fld lx 8 8 : Nat))
              clear gq y z0 z1 z2 z3 z4 z5 z6 z7 z8 z9 z10 z11
              generalize Y1'.setCell ⟨g6, 11, none⟩ (.int .u64 (fld lx 8 8 : Nat)) = Y2' at kq b k1 k2 G hHeld ⊢
              refine hK.out _ _ (fun _ => hHeld) ?_
              clear hK KK
              try simp only [Act.put, List.setIfInBounds_toArray, List.set_cons_zero, List.set_cons_succ]
              refine takeA (i := 14) (v := ?_) rfl (fun _ _ _ h => h) (Or.inl ⟨by rfl, ?_⟩) hHeld ?_
              rotate_left
              · (intro wx hSw; go_simp; try (with_reducible rfl))
              try simp only [Act.put, List.setIfInBounds_toArray, List.set_cons_zero, List.set_cons_succ]
              have y := kq.frozen 8
              obtain ⟨z0, z1, z2, z3, z4, z5, z6, z7, z8, z9, z10, z11⟩ := box12 kq
              refine oneT (i := 15) rfl (by kernel_rfl) (fun KK hK => ?_)
              go_simp
              have gq := rdr_grown_set Y2' g6 8 (.int .u32 (fld lx 16 4 : Nat))
              replace k1 := k1.leftC gq (by omega)
              replace k2 := k2.leftC gq (by omega)
              replace b := b.trans (below_grown gq (by omega) kq.lt)
              replace kq : Blk (Y2'.setCell ⟨g6, 8, none⟩ (.int .u32 (fld lx 16 4 : Nat))) g6 #[.int .i64 (o : Nat), .bool q, .bool f, .int .i64 0, .int .u32 (oq : Nat), .slice K2 nk ck2, .slice V2 nv cv2, .int .u32 0, .int .u32 (fld lx 16 4 : Nat), .int .u64 (cas : Nat), .int .u64 (fld lx 0 8 : Nat), .int .u64 (fld lx 8 8 : Nat)] 26 := kq.set_ 8 _
              replace G := grown_trans G (rdr_grown_set Y2' g6 8 (.int .u32 (fld lx 16 4 : Nat)))
              replace hHeld := hHeld.setCell (p := ⟨g6, 8, none⟩) (by show w.heap.size ≤ g6; omega) (.int .u32 (fld lx 16 4 : Nat))
              clear gq y z0 z1 z2 z3 z4 z5 z6 z7 z8 z9 z10 z11
              generalize Y2'.setCell ⟨g6, 8, none⟩ (.int .u32 (fld lx 16 4 : Nat)) = Y3' at kq b k1 k2 G hHeld ⊢
              refine hK.out _ _ (fun _ => hHeld) ?_
              clear hK KK
              try simp only [Act.put, List.setIfInBounds_toArray, List.set_cons_zero, List.set_cons_succ]
              refine doneT (by kernel_rfl) ?_ _
              refine NoPanic.normal ?_
              clear hHeld
              clear HS4 HS8 hS4 hS8 HW4 HW8 HS9 hS9 HW9
              obtain ⟨z0, z1, z2, z3, z4, z5, z6, z7, z8, z9, z10, z11⟩ := box12 kq
              obtain ⟨u0, u1, u2, u3, u4, u5, u6, u7, u8, u9, u10, u11⟩ := box12 k2
              have y0 := k2.frozen 0
              have y1 := k2.frozen 1
              have y2 := k2.frozen 2
              have y3 := k2.frozen 3
              have y4 := k2.frozen 4
              have y5 := k2.frozen 5
              have y6 := k2.frozen 6
              have y7 := k2.frozen 7
              have y8 := k2.frozen 8
              have y9 := k2.frozen 9
              have y10 := k2.frozen 10
              have y11 := k2.frozen 11
              have kf := blk_set12 k2 (.int .i64 (o : Nat)) (.bool q) (.bool f) (.int .i64 0) (.int .u32 (oq : Nat)) (.slice K2 nk ck2) (.slice V2 nv cv2) (.int .u32 0) (.int .u32 (fld lx 16 4 : Nat)) (.int .u64 (cas : Nat)) (.int .u64 (fld lx 0 8 : Nat)) (.int .u64 (fld lx 8 8 : Nat))
              have gs := grown_set12 Y3' (w.heap.size + 1) (.int .i64 (o : Nat)) (.bool q) (.bool f) (.int .i64 0) (.int .u32 (oq : Nat)) (.slice K2 nk ck2) (.slice V2 nv cv2) (.int .u32 0) (.int .u32 (fld lx 16 4 : Nat)) (.int .u64 (cas : Nat)) (.int .u64 (fld lx 0 8 : Nat)) (.int .u64 (fld lx 8 8 : Nat))
              have bf := b.trans (below_grown gs (by omega) k2.lt)
              obtain ⟨t0, t1, t2, t3, t4, t5, t6, t7, t8, t9, t10, t11⟩ := box12 kf
              have oKf := ((oK.kept G (by omega)).kept gs (by omega)).more (B' := w.heap.size) (by omega)
              have oVf := ((oV.kept G (by omega)).kept gs (by omega)).more (B' := w.heap.size) (by omega)
              clear kf gs b k1 k2 kq
              go_wp2_with fail
              refine bodyPost_ret (v := .agg #[.int .i64 (o : Nat), .bool q, .bool f, .int .i64 0, .int .u32 (oq : Nat), .slice K2 nk ck2, .slice V2 nv cv2, .int .u32 0, .int .u32 (fld lx 16 4 : Nat), .int .u64 (cas : Nat), .int .u64 (fld lx 0 8 : Nat), .int .u64 (fld lx 8 8 : Nat)]) (by simp [results, Try.results56, go_sem, t0, t1, t2, t3, t4, t5, t6, t7, t8, t9, t10, t11]) rfl ?_
              exact HPOST.out _ _ ⟨_, _, _, _, _, _, (by first | (rw [EQF.out.1, EQF.out.2.1, EQF.out.2.2.1, EQF.out.2.2.2]; done) | (rw [EQF.out.1, EQF.out.2.1, EQF.out.2.2.1, EQF.out.2.2.2]; rfl)), oKf, oVf, bf⟩
theorem rqn_any (mg op kl el ty st bl oq cas : Nat) (X K V : Option Addr) (nx cx nk ck nv cv : Nat) (lx lk lv : List UInt8) (w : World) (rX : Rd w w.heap.size X nx cx lx) (rK : Rd w w.heap.size K nk ck lk) (rV : Rd w w.heap.size V nv cv lv) (hop : op < 256) :
    Calls Try.prog 56 #[frV mg op kl el ty st bl oq cas (.slice X nx cx) (.slice K nk ck) (.slice V nv cv)] w (ReqA (reqO op oq cas lx lk lv) w) := by
  have e1 : lx.length = nx := rX.len
  have e2 : lk.length = nk := rK.len
  have e3 : lv.length = nv := rV.len
  cases hr : rowOf op with
  | none => rw [reqO_none hr]; exact rqn_unk mg op kl el ty st bl oq cas X K V nx cx nk ck nv cv lx lk lv w rX rK rV hop hr
  | some r =>
    obtain ⟨o, q, f⟩ := r
    have hs : shapeOf (o : Int) = ((shapeOf (o : Int)).1, (shapeOf (o : Int)).2.1, (shapeOf (o : Int)).2.2) := rfl
    have hbb : badB o (shapeOf o).1 (shapeOf o).2.1 (shapeOf o).2.2 lx lk lv = (!(decide (nx = (shapeOf o).1) || (decide (o = 8) && decide (nx = 4))) || (decide (0 < nk) != (shapeOf o).2.1) || decide (250 < nk) || (decide (0 < nv) && !(shapeOf o).2.2)) := by
      unfold badB
      rw [e1, e2, e3, Bool.not_or]
      simp only [ne_eq, decide_not]
    have h := rqn_row mg op kl el ty st bl oq cas X K V nx cx nk ck nv cv lx lk lv w rX rK rV hop o q f hr _ _ _ hs _ (badB o (shapeOf o).1 (shapeOf o).2.1 (shapeOf o).2.2 lx lk lv) (Lib.hid rfl) (Lib.hid hbb) (Lib.hid (fun hb => by
        rw [hbb] at hb
        simp only [Bool.or_eq_false_iff] at hb
        have := of_decide_eq_false hb.1.2
        omega)) (fun hb => by
        rw [hbb] at hb
        simp only [Bool.or_eq_false_iff, Bool.not_eq_false'] at hb
        rcases Bool.or_eq_true_iff.1 hb.1.1.1 with h | h
        · have h := of_decide_eq_true h
          rcases shape_ext (o : Int) with h' | h' | h' | h' <;> omega
        · have := of_decide_eq_true (Bool.and_eq_true_iff.1 h).2
          omega)
    have e : rowR o q f (decide (nx = (shapeOf (o : Int)).1) || (decide (o = 8) && decide (nx = 4))) (badB o (shapeOf o).1 (shapeOf o).2.1 (shapeOf o).2.2 lx lk lv) oq cas nx nv lx lk lv = reqO op oq cas lx lk lv := by
      unfold rowR reqO
      rw [hr, e1, e3]
    rw [e] at h
    exact h
end Go.Proofs.Ytnghmgbmflcngaa

/- A connection: Next, the other cases. Conditions: typed in each theorem. -/
import Derived.Test.YtnghmgbmflcngaaCnx
import Derived.Deep.DeepCutAuto
namespace Go.Proofs.Ytnghmgbmflcngaa
set_option linter.unusedVariables false
open Go.RowKit
def YesW (B gc gp : Nat) (A : Option Addr) (n c : Nat) (l : List UInt8) (OA : Option Addr) (on oc : Nat) (lo : List UInt8) (wv : Value) (q : RQ) (w : World) (e : Ending) (w' : World) : Prop :=
  ∃ (K : Option Addr) (nk ck : Nat) (V : Option Addr) (nv cv : Nat), e = .returned (.tuple #[reqV q.op q.qt q.fu q.bd q.oq (.slice K nk ck) (.slice V nv cv) q.fl q.ex q.cs q.dl q.ni, .bool true]) ∧ Own w' w.heap.size K nk ck q.lk ∧ Own w' w.heap.size V nv cv q.lv ∧
    CnA w' B gc gp A n c l OA on oc lo wv (some q) ∧ WaitQ w' (fun k => FP gc gp A OA k ∨ obk K = some k ∨ obk V = some k) wv (some q) ∧ Below w.heap.size w w'
set_option maxRecDepth 100000 in
set_option maxHeartbeats 4000000 in
theorem cnext_waits (B gc gp n c on oc : Nat) (A OA : Option Addr) (l lo : List UInt8) (w : World) (wv : Value) (q : RQ) (h : CnA w B gc gp A n c l OA on oc lo wv (some q)) (hl : q.lk.length ≤ 100000000 ∧ q.lv.length ≤ 100000000) : Calls Try.prog 64 #[.pointer (some ⟨gc, 0, none⟩)] w (YesW B gc gp A n c l OA on oc lo wv q w) := by
  obtain ⟨gw, K2, nk2, ck2, V2, nv2, cv2, rfl, kw, hgw, fK, fV⟩ := h.wait
  have HLQ := Lib.hid hl
  have HW0 := Lib.hid (h.wait)
  have HH := Lib.hid h
  clear hl
  have k2 := Blk.new w #[.int .i64 0, .bool false, .bool false, .int .i64 0, .int .u32 0, .slice none 0 0, .slice none 0 0, .int .u32 0, .int .u32 0, .int .u64 0, .int .u64 0, .int .u64 0] 26
  have ba := below_a1' (Below.refl w.heap.size w) (.cells #[.int .i64 0, .bool false, .bool false, .int .i64 0, .int .u32 0, .slice none 0 0, .slice none 0 0, .int .u32 0, .int .u32 0, .int .u64 0, .int .u64 0, .int .u64 0] 26)
  have h0 := h.step ba
  have kw := kw.step ba
  have rK := fK.1.step ba
  have rV := fV.1.step ba
  have HLK := Lib.hid fK.1.len
  have HLV := Lib.hid fV.1.len
  clear h hgw fK fV
  obtain ⟨p0, p1, p2, p3⟩ := box4 h0.box
  go_enter Try.func64, Try.ntmps64
  go_upto_region 12 with fail
  generalize w.alloc (.cells #[.int .i64 0, .bool false, .bool false, .int .i64 0, .int .u32 0, .slice none 0 0, .slice none 0 0, .int .u32 0, .int .u32 0, .int .u64 0, .int .u64 0, .int .u64 0] 26) = W0 at k2 ba h0 kw rK rV p0 p1 p2 p3 ⊢
  have HCO := Lib.hid (ccop_any q.op q.qt q.fu q.bd q.oq q.fl q.ex q.cs q.dl q.ni K2 V2 nk2 ck2 nv2 cv2 q.lk q.lv W0 rK rV (by have := HLQ.out; have := HLK.out; omega) (by have := HLQ.out; have := HLV.out; omega))
  unfold reqV at HCO
  obtain ⟨u0, u1, u2, u3, u4, u5, u6, u7, u8, u9, u10, u11⟩ := box12 kw
  clear rK rV h0
  go_wp2_with fail
  refine HCO.out.mono ?_
  rintro e W4 ⟨K5, c5, V5, c5v, rfl, oK5, oV5, b4⟩
  unfold reqV
  clear HCO kw p0 p1 p2 p3 u0 u1 u2 u3 u4 u5 u6 u7 u8 u9 u10 u11
  have hs0 : w.heap.size + 1 ≤ W0.heap.size := by have := k2.lt; omega
  have k2 := k2.step b4
  have b := below_step ba b4
  have gz := grown_set12 W4 w.heap.size (.int .i64 q.op) (.bool q.qt) (.bool q.fu) (.int .i64 q.bd) (.int .u32 (q.oq : Nat)) (.slice K5 nk2 c5) (.slice V5 nv2 c5v) (.int .u32 (q.fl : Nat)) (.int .u32 (q.ex : Nat)) (.int .u64 (q.cs : Nat)) (.int .u64 (q.dl : Nat)) (.int .u64 (q.ni : Nat))
  have bz := b.trans (below_grown gz (Nat.le_refl _) k2.lt)
  have oK5 := oK5.kept gz (by omega)
  have oV5 := oV5.kept gz (by omega)
  have h5 := HH.out.step bz
  have hw5 := HW0.out.kp (F' := fun k => FP gc gp A OA k ∨ obk K5 = some k ∨ obk V5 = some k) (Kp.of_below bz (fun _ => False)) (fun _ _ e => e.elim) (fun k hk e => by rcases e with e | e | e; exact e; exact absurd hk (by have := (World.ownsRow.lt oK5 k (by rw [obk_eq]; exact e)).1; omega); exact absurd hk (by have := (World.ownsRow.lt oV5 k (by rw [obk_eq]; exact e)).1; omega))
  have HQ := Lib.hid (show YesW B gc gp A n c l OA on oc lo (.pointer (some ⟨gw, 0, none⟩)) q w _ _ from ⟨K5, nk2, c5, V5, nv2, c5v, rfl, oK5.more (by omega), oV5.more (by omega), h5, hw5, bz⟩)
  clear h5 hw5 bz gz oK5 oV5 b b4 ba HH HW0
  obtain ⟨z0, z1, z2, z3, z4, z5, z6, z7, z8, z9, z10, z11⟩ := box12 k2
  have y0 := k2.frozen 0
  have y1 := k2.frozen 1
  have y2 := k2.frozen 2
  have y3 := k2.frozen 3
  have y4 := k2.frozen 4
  have y5 := k2.frozen 5
  have y6 := k2.frozen 6
  have y7 := k2.frozen 7
  have y8 := k2.frozen 8
  have y9 := k2.frozen 9
  have y10 := k2.frozen 10
  have y11 := k2.frozen 11
  have kf := blk_set12 k2 (.int .i64 q.op) (.bool q.qt) (.bool q.fu) (.int .i64 q.bd) (.int .u32 (q.oq : Nat)) (.slice K5 nk2 c5) (.slice V5 nv2 c5v) (.int .u32 (q.fl : Nat)) (.int .u32 (q.ex : Nat)) (.int .u64 (q.cs : Nat)) (.int .u64 (q.dl : Nat)) (.int .u64 (q.ni : Nat))
  obtain ⟨t0, t1, t2, t3, t4, t5, t6, t7, t8, t9, t10, t11⟩ := box12 kf
  clear kf
  go_wp2_with fail
  refine bodyPost_ret (v := .tuple #[.agg #[.int .i64 q.op, .bool q.qt, .bool q.fu, .int .i64 q.bd, .int .u32 (q.oq : Nat), .slice K5 nk2 c5, .slice V5 nv2 c5v, .int .u32 (q.fl : Nat), .int .u32 (q.ex : Nat), .int .u64 (q.cs : Nat), .int .u64 (q.dl : Nat), .int .u64 (q.ni : Nat)], .bool true]) (by simp [results, Try.results64, go_sem, t0, t1, t2, t3, t4, t5, t6, t7, t8, t9, t10, t11]) rfl ?_
  exact HQ.out
def NoQC (B gc gp : Nat) (A : Option Addr) (n c : Nat) (l : List UInt8) (OA : Option Addr) (on oc : Nat) (lo : List UInt8) (w : World) (e : Ending) (w' : World) : Prop := e = .returned (.tuple #[.agg #[.int .i64 0, .bool false, .bool false, .int .i64 0, .int .u32 0, .slice none 0 0, .slice none 0 0, .int .u32 0, .int .u32 0, .int .u64 0, .int .u64 0, .int .u64 0], .bool false]) ∧ CnA w' B gc gp A n c l OA on oc lo (.pointer none) none ∧ Below w.heap.size w w'
set_option maxRecDepth 100000 in
set_option maxHeartbeats 4000000 in
theorem cnext_wait (B gc gp n c on oc : Nat) (A OA : Option Addr) (l lo : List UInt8) (w : World) (h : CnA w B gc gp A n c l OA on oc lo (.pointer none) none) (hx : nxt l = some none) : Calls Try.prog 64 #[.pointer (some ⟨gc, 0, none⟩)] w (NoQC B gc gp A n c l OA on oc lo w) := by
  have HX := Lib.hid hx
  have HH := Lib.hid h
  clear hx
  have k2 := Blk.new w #[.int .i64 0, .bool false, .bool false, .int .i64 0, .int .u32 0, .slice none 0 0, .slice none 0 0, .int .u32 0, .int .u32 0, .int .u64 0, .int .u64 0, .int .u64 0] 26
  have ba := below_a1' (Below.refl w.heap.size w) (.cells #[.int .i64 0, .bool false, .bool false, .int .i64 0, .int .u32 0, .slice none 0 0, .slice none 0 0, .int .u32 0, .int .u32 0, .int .u64 0, .int .u64 0, .int .u64 0] 26)
  have h0 := h.step ba
  obtain ⟨p0, p1, p2, p3⟩ := box4 h0.box
  have HN := Lib.hid (next_wait' gp n c A l (w.alloc (.cells #[.int .i64 0, .bool false, .bool false, .int .i64 0, .int .u32 0, .slice none 0 0, .slice none 0 0, .int .u32 0, .int .u32 0, .int .u64 0, .int .u64 0, .int .u64 0] 26)) h0.prs HX.out)
  clear h0 h
  go_enter Try.func64, Try.ntmps64
  go_upto_region 4 with fail
  generalize w.alloc (.cells #[.int .i64 0, .bool false, .bool false, .int .i64 0, .int .u32 0, .slice none 0 0, .slice none 0 0, .int .u32 0, .int .u32 0, .int .u64 0, .int .u64 0, .int .u64 0] 26) = W0 at k2 ba HN p0 p1 p2 p3 ⊢
  go_wp2_with fail
  refine HN.out.mono ?_
  rintro e w1 ⟨rfl, b1⟩
  clear HN p0 p1 p2 p3
  have k2 := k2.step b1
  have b := below_step ba b1
  clear b1 ba
  have b5 := below_a1' (Below.refl w1.heap.size w1) (.cells #[.int .i64 0, .bool false, .bool false, .int .i64 0, .int .u32 0, .slice none 0 0, .slice none 0 0, .int .u32 0, .int .u32 0, .int .u64 0, .int .u64 0, .int .u64 0] 26)
  have k2 := k2.step b5
  have b := below_step b b5
  clear b5
  go_upto_region 5 with fail
  generalize w1.alloc (.cells #[.int .i64 0, .bool false, .bool false, .int .i64 0, .int .u32 0, .slice none 0 0, .slice none 0 0, .int .u32 0, .int .u32 0, .int .u64 0, .int .u64 0, .int .u64 0] 26) = w2 at k2 b ⊢
  have gz := grown_set12 w2 w.heap.size (.int .i64 0) (.bool false) (.bool false) (.int .i64 0) (.int .u32 0) (.slice none 0 0) (.slice none 0 0) (.int .u32 0) (.int .u32 0) (.int .u64 0) (.int .u64 0) (.int .u64 0)
  have bz := b.trans (below_grown gz (Nat.le_refl _) k2.lt)
  have HQ := Lib.hid (show NoQC B gc gp A n c l OA on oc lo w _ _ from ⟨rfl, HH.out.step bz, bz⟩)
  clear bz gz b HH
  obtain ⟨z0, z1, z2, z3, z4, z5, z6, z7, z8, z9, z10, z11⟩ := box12 k2
  have y0 := k2.frozen 0
  have y1 := k2.frozen 1
  have y2 := k2.frozen 2
  have y3 := k2.frozen 3
  have y4 := k2.frozen 4
  have y5 := k2.frozen 5
  have y6 := k2.frozen 6
  have y7 := k2.frozen 7
  have y8 := k2.frozen 8
  have y9 := k2.frozen 9
  have y10 := k2.frozen 10
  have y11 := k2.frozen 11
  have kf := blk_set12 k2 (.int .i64 0) (.bool false) (.bool false) (.int .i64 0) (.int .u32 0) (.slice none 0 0) (.slice none 0 0) (.int .u32 0) (.int .u32 0) (.int .u64 0) (.int .u64 0) (.int .u64 0)
  obtain ⟨t0, t1, t2, t3, t4, t5, t6, t7, t8, t9, t10, t11⟩ := box12 kf
  clear kf
  go_wp2_with fail
  refine bodyPost_ret (v := .tuple #[.agg #[.int .i64 0, .bool false, .bool false, .int .i64 0, .int .u32 0, .slice none 0 0, .slice none 0 0, .int .u32 0, .int .u32 0, .int .u64 0, .int .u64 0, .int .u64 0], .bool false]) (by simp [results, Try.results64, go_sem, t0, t1, t2, t3, t4, t5, t6, t7, t8, t9, t10, t11]) rfl ?_
  exact HQ.out
set_option maxRecDepth 100000 in
set_option maxHeartbeats 4000000 in
theorem cnext_closed (gc : Nat) (v0 v1 v2 : Value) (w : World) (h : Blk w gc #[v0, v1, v2, .bool true] 160) : Calls Try.prog 64 #[.pointer (some ⟨gc, 0, none⟩)] w (NoQ w) := by
  have kc := h
  have k2 := Blk.new w #[.int .i64 0, .bool false, .bool false, .int .i64 0, .int .u32 0, .slice none 0 0, .slice none 0 0, .int .u32 0, .int .u32 0, .int .u64 0, .int .u64 0, .int .u64 0] 26
  have ba := below_a1' (Below.refl w.heap.size w) (.cells #[.int .i64 0, .bool false, .bool false, .int .i64 0, .int .u32 0, .slice none 0 0, .slice none 0 0, .int .u32 0, .int .u32 0, .int .u64 0, .int .u64 0, .int .u64 0] 26)
  have kc := kc.step ba
  obtain ⟨p0, p1, p2, p3⟩ := box4 kc
  go_enter Try.func64, Try.ntmps64
  go_upto_region 1 with fail
  generalize w.alloc (.cells #[.int .i64 0, .bool false, .bool false, .int .i64 0, .int .u32 0, .slice none 0 0, .slice none 0 0, .int .u32 0, .int .u32 0, .int .u64 0, .int .u64 0, .int .u64 0] 26) = W0 at k2 ba p0 p1 p2 p3 ⊢
  have gz := grown_set12 W0 w.heap.size (.int .i64 0) (.bool false) (.bool false) (.int .i64 0) (.int .u32 0) (.slice none 0 0) (.slice none 0 0) (.int .u32 0) (.int .u32 0) (.int .u64 0) (.int .u64 0) (.int .u64 0)
  have HB := Lib.hid (ba.trans (below_grown gz (Nat.le_refl _) k2.lt))
  clear gz kc
  obtain ⟨z0, z1, z2, z3, z4, z5, z6, z7, z8, z9, z10, z11⟩ := box12 k2
  have y0 := k2.frozen 0
  have y1 := k2.frozen 1
  have y2 := k2.frozen 2
  have y3 := k2.frozen 3
  have y4 := k2.frozen 4
  have y5 := k2.frozen 5
  have y6 := k2.frozen 6
  have y7 := k2.frozen 7
  have y8 := k2.frozen 8
  have y9 := k2.frozen 9
  have y10 := k2.frozen 10
  have y11 := k2.frozen 11
  have kf := blk_set12 k2 (.int .i64 0) (.bool false) (.bool false) (.int .i64 0) (.int .u32 0) (.slice none 0 0) (.slice none 0 0) (.int .u32 0) (.int .u32 0) (.int .u64 0) (.int .u64 0) (.int .u64 0)
  obtain ⟨t0, t1, t2, t3, t4, t5, t6, t7, t8, t9, t10, t11⟩ := box12 kf
  clear kf
  go_wp2_with fail
  refine bodyPost_ret (v := .tuple #[.agg #[.int .i64 0, .bool false, .bool false, .int .i64 0, .int .u32 0, .slice none 0 0, .slice none 0 0, .int .u32 0, .int .u32 0, .int .u64 0, .int .u64 0, .int .u64 0], .bool false]) (by simp [results, Try.results64, go_sem, t0, t1, t2, t3, t4, t5, t6, t7, t8, t9, t10, t11]) rfl ?_
  exact ⟨rfl, HB.out⟩
end Go.Proofs.Ytnghmgbmflcngaa

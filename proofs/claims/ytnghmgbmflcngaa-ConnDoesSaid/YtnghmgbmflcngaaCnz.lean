/- A connection's Next whose request is new memory; a Feed of too much. Conditions: typed in each theorem. -/
import Derived.Test.YtnghmgbmflcngaaCnx
namespace Go.Proofs.Ytnghmgbmflcngaa
set_option linter.unusedVariables false
open Go.RowKit
def YesN (B gc gp : Nat) (A : Option Addr) (N n : Nat) (l : List UInt8) (OA : Option Addr) (on oc : Nat) (lo : List UInt8) (q : RQ) (w : World) (e : Ending) (w' : World) : Prop :=
  ∃ (K : Option Addr) (nk ck : Nat) (V : Option Addr) (nv cv : Nat) (A' : Option Addr) (c' : Nat) (wv : Value), e = .returned (.tuple #[reqV q.op q.qt q.fu q.bd q.oq (.slice K nk ck) (.slice V nv cv) q.fl q.ex q.cs q.dl q.ni, .bool true]) ∧ Own w' w.heap.size K nk ck q.lk ∧ Own w' w.heap.size V nv cv q.lv ∧
    CnA w' B gc gp A' (n - N) c' (l.drop N) OA on oc lo wv (some q) ∧ WaitQ w' (fun k => k < w.heap.size ∨ FP gc gp A' OA k ∨ obk K = some k ∨ obk V = some k) wv (some q) ∧ Kp w w' (FP gc gp A OA) ∧ obk A' = obk A
set_option maxRecDepth 100000 in
set_option maxHeartbeats 4000000 in
theorem cnext_new (B gc gp n c on oc : Nat) (A OA : Option Addr) (l lo : List UInt8) (w : World) (h : CnA w B gc gp A n c l OA on oc lo (.pointer none) none) (q : RQ) (N : Nat) (hx : nxt l = some (some (q, N))) (hl : q.lk.length ≤ 100000000 ∧ q.lv.length ≤ 100000000) : Calls Try.prog 64 #[.pointer (some ⟨gc, 0, none⟩)] w (YesN B gc gp A N n l OA on oc lo q w) := by
  have HX := Lib.hid hx
  have HLQ := Lib.hid hl
  clear hx hl
  have k2 := Blk.new w #[.int .i64 0, .bool false, .bool false, .int .i64 0, .int .u32 0, .slice none 0 0, .slice none 0 0, .int .u32 0, .int .u32 0, .int .u64 0, .int .u64 0, .int .u64 0] 26
  have ba := below_a1' (Below.refl w.heap.size w) (.cells #[.int .i64 0, .bool false, .bool false, .int .i64 0, .int .u32 0, .slice none 0 0, .slice none 0 0, .int .u32 0, .int .u32 0, .int .u64 0, .int .u64 0, .int .u64 0] 26)
  have h0 := h.step ba
  have hgcl := h.box.lt
  have HGC : Hid (gc < w.heap.size) := Lib.hid hgcl
  have HFP : Hid (∀ k, FP gc gp A OA k → k < w.heap.size) := Lib.hid (fun k hk => (h.fp k hk).2)
  clear hgcl h
  obtain ⟨p0, p1, p2, p3⟩ := box4 h0.box
  have HN := Lib.hid (next_yes' gp n c A l (w.alloc (.cells #[.int .i64 0, .bool false, .bool false, .int .i64 0, .int .u32 0, .slice none 0 0, .slice none 0 0, .int .u32 0, .int .u32 0, .int .u64 0, .int .u64 0, .int .u64 0] 26)) h0.prs q N HX.out)
  have HC := Lib.hid h0
  clear h0
  go_enter Try.func64, Try.ntmps64
  go_upto_region 4 with fail
  generalize hW : w.alloc (.cells #[.int .i64 0, .bool false, .bool false, .int .i64 0, .int .u32 0, .slice none 0 0, .slice none 0 0, .int .u32 0, .int .u32 0, .int .u64 0, .int .u64 0, .int .u64 0] 26) = W0 at k2 ba HN HC p0 p1 p2 p3 ⊢
  clear hW
  go_wp2_with fail
  refine HN.out.mono ?_
  rintro e w1 ⟨K2, V2, nk2, ck2, nv2, cv2, X3, cx3, rfl, hp1, oK, oV, g1, ho⟩
  clear HN p0 p1 p2 p3
  have hs0 := ba.size
  have hlt2 := k2.lt
  have hk1 := Kp.of_grown g1
  have h0 := HC.out
  rw [obk_eq, obk_eq] at ho
  have h1 : CnA w1 B gc gp X3 (n - N) cx3 (l.drop N) OA on oc lo (.pointer none) none := ⟨hk1.blk h0.box h0.cp, hp1, h0.out.kp hk1 (fun k e1 e2 => h0.op_ (by rw [← e2]; exact e1)), rfl, h0.bc, h0.bp, h0.cp, (by rw [ho]; exact h0.ac), h0.oc_, h0.op_, (by rw [ho]; exact h0.oa)⟩
  have k2 : Blk w1 w.heap.size #[.int .i64 0, .bool false, .bool false, .int .i64 0, .int .u32 0, .slice none 0 0, .slice none 0 0, .int .u32 0, .int .u32 0, .int .u64 0, .int .u64 0, .int .u64 0] 26 := hk1.blk k2 (fun e => by have := HFP.out gp (Or.inr (Or.inl rfl)); omega)
  have HK1 := Lib.hid hk1
  have HO := Lib.hid ho
  clear hk1 ho g1 HC hp1
  have hs1 : W0.heap.size ≤ w1.heap.size := HK1.out.size
  have rK := oK.rd
  have rV := oV.rd
  have hlK := oK.len
  have hlV := oV.len
  have HOK := Lib.hid oK
  have HOV := Lib.hid oV
  clear oK oV
  unfold reqV
  have kw := Blk.new w1 #[.int .i64 q.op, .bool q.qt, .bool q.fu, .int .i64 q.bd, .int .u32 (q.oq : Nat), .slice K2 nk2 ck2, .slice V2 nv2 cv2, .int .u32 (q.fl : Nat), .int .u32 (q.ex : Nat), .int .u64 (q.cs : Nat), .int .u64 (q.dl : Nat), .int .u64 (q.ni : Nat)] 26
  have b2 := below_a1' (Below.refl w1.heap.size w1) (.cells #[.int .i64 q.op, .bool q.qt, .bool q.fu, .int .i64 q.bd, .int .u32 (q.oq : Nat), .slice K2 nk2 ck2, .slice V2 nv2 cv2, .int .u32 (q.fl : Nat), .int .u32 (q.ex : Nat), .int .u64 (q.cs : Nat), .int .u64 (q.dl : Nat), .int .u64 (q.ni : Nat)] 26)
  have h2 := h1.step b2
  have k2 := k2.step b2
  have rK := rK.step b2
  have rV := rV.step b2
  have HB2 := Lib.hid b2
  clear b2 h1
  go_upto_region 5 with fail
  generalize hW : w1.alloc (.cells #[.int .i64 q.op, .bool q.qt, .bool q.fu, .int .i64 q.bd, .int .u32 (q.oq : Nat), .slice K2 nk2 ck2, .slice V2 nv2 cv2, .int .u32 (q.fl : Nat), .int .u32 (q.ex : Nat), .int .u64 (q.cs : Nat), .int .u64 (q.dl : Nat), .int .u64 (q.ni : Nat)] 26) = W2 at kw h2 k2 rK rV HB2 ⊢
  clear hW
  obtain ⟨p0, p1, p2, p3⟩ := box4 h2.box
  have y1 := h2.box.frozen 1
  go_upto_region 12 with fail
  clear p0 p1 p2 p3 y1
  have hgw : ¬ FP gc gp X3 OA w1.heap.size := fun hf => by have := (HK1.out.size); rcases hf with e | e | e | e; have := HGC.out; omega; have := HFP.out gp (Or.inr (Or.inl rfl)); omega; rw [HO.out] at e; have := HFP.out _ (Or.inr (Or.inr (Or.inl e))); omega; have := HFP.out _ (Or.inr (Or.inr (Or.inr e))); omega
  have hF3 : ∀ k, FP gc gp X3 OA k → k < w.heap.size := fun k hf => by rcases hf with e | e | e | e; exact HFP.out k (Or.inl e); exact HFP.out k (Or.inr (Or.inl e)); rw [HO.out] at e; exact HFP.out k (Or.inr (Or.inr (Or.inl e))); exact HFP.out k (Or.inr (Or.inr (Or.inr e)))
  have HF3 := Lib.hid hF3
  have fK : RdF W2 (fun k => FP gc gp X3 OA k ∨ k ≤ w.heap.size) K2 nk2 ck2 q.lk := ⟨rK, fun k hk => by have h3 := World.ownsRow.lt HOK.out k (by rw [obk_eq]; exact hk); have h4 := HB2.out.size; exact ⟨by omega, fun hf => by rcases hf with hf | hf; have := hF3 k hf; omega; omega⟩⟩
  have fV : RdF W2 (fun k => FP gc gp X3 OA k ∨ k ≤ w.heap.size) V2 nv2 cv2 q.lv := ⟨rV, fun k hk => by have h3 := World.ownsRow.lt HOV.out k (by rw [obk_eq]; exact hk); have h4 := HB2.out.size; exact ⟨by omega, fun hf => by rcases hf with hf | hf; have := hF3 k hf; omega; omega⟩⟩
  have hw2 : WaitQ W2 (fun k => FP gc gp X3 OA k ∨ k ≤ w.heap.size) (.pointer (some ⟨w1.heap.size, 0, none⟩)) (some q) := ⟨w1.heap.size, K2, nk2, ck2, V2, nv2, cv2, rfl, kw, (fun hf => by rcases hf with hf | hf; exact hgw hf; omega), fK, fV⟩
  have g3 := rdr_grown_set W2 gc 1 (.pointer (some ⟨w1.heap.size, 0, none⟩))
  have hk3 := Kp.of_grown g3
  have h3 := h2.set1 (hw2.kp (Kp.refl W2 (fun _ => False)) (fun _ _ e => e.elim) (fun k _ e => Or.inl e))
  have hw3 := hw2.kp hk3 (fun k _ e => Or.inl (Or.inl e)) (fun k _ e => e)
  have k2 := hk3.blk k2 (fun e => by have := HGC.out; omega)
  have kw := hk3.blk kw (fun e => hgw (Or.inl e))
  have rK := (fK.kp hk3 (fun k _ e => Or.inl (Or.inl e)) (fun k _ e => e)).1
  have rV := (fV.kp hk3 (fun k _ e => Or.inl (Or.inl e)) (fun k _ e => e)).1
  have HK3 : Hid (Kp w _ (FP gc gp A OA)) := Lib.hid (((Kp.of_below ba (FP gc gp A OA)).after HK1.out (fun k _ e => Or.inr (Or.inl e))).after ((Kp.of_below HB2.out (FP gc gp A OA)).after hk3 (fun k _ e => Or.inl e)) (fun k _ e => e))
  clear fK fV hw2 h2 g3 hk3 hgw hF3 HB2
  generalize W2.setCell ⟨gc, 1, none⟩ (.pointer (some ⟨w1.heap.size, 0, none⟩)) = W3 at h3 hw3 k2 kw rK rV HK3 ⊢
  have HCO := Lib.hid (ccop_any q.op q.qt q.fu q.bd q.oq q.fl q.ex q.cs q.dl q.ni K2 V2 nk2 ck2 nv2 cv2 q.lk q.lv W3 rK rV (by have := HLQ.out; omega) (by have := HLQ.out; omega))
  unfold reqV at HCO
  obtain ⟨p0, p1, p2, p3⟩ := box4 h3.box
  obtain ⟨u0, u1, u2, u3, u4, u5, u6, u7, u8, u9, u10, u11⟩ := box12 kw
  go_wp2_with fail
  refine HCO.out.mono ?_
  rintro e W4 ⟨K5, c5, V5, c5v, rfl, oK5, oV5, b4⟩
  unfold reqV
  clear HCO kw rK rV p0 p1 p2 p3 u0 u1 u2 u3 u4 u5 u6 u7 u8 u9 u10 u11
  have h4 := h3.step b4
  have hs3 : w.heap.size + 1 ≤ W3.heap.size := by have := k2.lt; omega
  have k2 := k2.step b4
  have hw4 : WaitQ W4 (fun k => FP gc gp X3 OA k ∨ k ≤ w.heap.size ∨ W3.heap.size ≤ k) (.pointer (some ⟨w1.heap.size, 0, none⟩)) (some q) := hw3.kp (Kp.of_below b4 (fun _ => False)) (fun _ _ e => e.elim) (fun k hk e => by rcases e with e | e | e; exact Or.inl e; exact Or.inr e; omega)
  have HK4 := Lib.hid (HK3.out.after (Kp.of_below b4 (FP gc gp A OA)) (fun k _ e => e))
  have gz := grown_set12 W4 w.heap.size (.int .i64 q.op) (.bool q.qt) (.bool q.fu) (.int .i64 q.bd) (.int .u32 (q.oq : Nat)) (.slice K5 nk2 c5) (.slice V5 nv2 c5v) (.int .u32 (q.fl : Nat)) (.int .u32 (q.ex : Nat)) (.int .u64 (q.cs : Nat)) (.int .u64 (q.dl : Nat)) (.int .u64 (q.ni : Nat))
  have hkz := Kp.of_grown gz
  have h5 := h4.off hw4 (fun k e => Or.inl e) hkz (fun k _ e => Or.inr (Or.inl (Nat.le_of_eq e))) (fun k e hf => by have := HF3.out k hf; omega)
  have hw5 := hw4.kp hkz (fun k _ e => Or.inr (Or.inl (Nat.le_of_eq e))) (fun k _ e => e)
  have oK5 := oK5.kept gz (by omega)
  have oV5 := oV5.kept gz (by omega)
  have hE : ∀ k, (k < w.heap.size ∨ FP gc gp X3 OA k ∨ obk K5 = some k ∨ obk V5 = some k) → (FP gc gp X3 OA k ∨ k ≤ w.heap.size ∨ W3.heap.size ≤ k) := fun k e => by rcases e with e | e | e | e; exact Or.inr (Or.inl (Nat.le_of_lt e)); exact Or.inl e; exact Or.inr (Or.inr (World.ownsRow.lt oK5 k (by rw [obk_eq]; exact e)).1); exact Or.inr (Or.inr (World.ownsRow.lt oV5 k (by rw [obk_eq]; exact e)).1)
  have HQ := Lib.hid (show YesN B gc gp A N n l OA on oc lo q w _ _ from ⟨K5, nk2, c5, V5, nv2, c5v, X3, cx3, _, rfl, oK5.more (by omega), oV5.more (by omega), h5, hw5.kp (Kp.refl _ (fun _ => False)) (fun _ _ e => e.elim) (fun k _ e => hE k e), HK4.out.new hkz (by omega), HO.out⟩)
  clear h4 hw4 gz hkz h5 hw5 oK5 oV5 hE h3 hw3 b4
  obtain ⟨z0, z1, z2, z3, z4, z5, z6, z7, z8, z9, z10, z11⟩ := box12 k2
  have y0 := k2.frozen 0
  have y1 := k2.frozen 1
  have y2 := k2.frozen 2
  have y3 := k2.frozen 3
  have y4 := k2.frozen 4
  have y5 := k2.frozen 5
  have y6 := k2.frozen 6
  have y7 := k2.frozen 7
  have y8 := k2.frozen 8
  have y9 := k2.frozen 9
  have y10 := k2.frozen 10
  have y11 := k2.frozen 11
  have kf := blk_set12 k2 (.int .i64 q.op) (.bool q.qt) (.bool q.fu) (.int .i64 q.bd) (.int .u32 (q.oq : Nat)) (.slice K5 nk2 c5) (.slice V5 nv2 c5v) (.int .u32 (q.fl : Nat)) (.int .u32 (q.ex : Nat)) (.int .u64 (q.cs : Nat)) (.int .u64 (q.dl : Nat)) (.int .u64 (q.ni : Nat))
  obtain ⟨t0, t1, t2, t3, t4, t5, t6, t7, t8, t9, t10, t11⟩ := box12 kf
  clear kf
  go_wp2_with fail
  refine bodyPost_ret (v := .tuple #[.agg #[.int .i64 q.op, .bool q.qt, .bool q.fu, .int .i64 q.bd, .int .u32 (q.oq : Nat), .slice K5 nk2 c5, .slice V5 nv2 c5v, .int .u32 (q.fl : Nat), .int .u32 (q.ex : Nat), .int .u64 (q.cs : Nat), .int .u64 (q.dl : Nat), .int .u64 (q.ni : Nat)], .bool true]) (by simp [results, Try.results64, go_sem, t0, t1, t2, t3, t4, t5, t6, t7, t8, t9, t10, t11]) rfl ?_
  exact HQ.out
set_option maxRecDepth 100000 in
set_option maxHeartbeats 1000000 in
theorem cfeed_long (B gc gp n c on oc : Nat) (A OA : Option Addr) (l lo : List UInt8) (wv : Value) (wq : Option RQ) (A2 : Option Addr) (m c2 : Nat) (l2 : List UInt8) (w : World) (h : CnA w B gc gp A n c l OA on oc lo wv wq) (r : Rd w w.heap.size A2 m c2 l2) (hm : 65536 < n + m) (hn : n + m ≤ 9223372036854775807) :
    Calls Try.prog 65 #[.pointer (some ⟨gc, 0, none⟩), .slice A2 m c2] w fun e w' => e = .returned (.int .i64 3) ∧ w = w' := by
  obtain ⟨p0, p1, p2, p3⟩ := box4 h.box
  have HF := Lib.hid (feed_long gp n c A l A2 m c2 w h.prs hm hn)
  clear h r hm hn
  go_enter Try.func65, Try.ntmps65
  go_wp2_with fail
  refine HF.out.mono ?_
  rintro e w1 ⟨rfl, hw⟩
  subst hw
  go_wp2_with fail
  go_ret
  exact ⟨rfl, rfl⟩
end Go.Proofs.Ytnghmgbmflcngaa

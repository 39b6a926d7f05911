/- icehouseref20's parser: Next. Conditions: typed in each theorem. -/
import Derived.Test.YtnghmgbmflcngaaRfd
import Derived.Test.YtnghmgbmflcngaaRqn
import Derived.Test.YtnghmgbmflcngaaZpar
import Derived.Test.YtnghmgbmflcngaaZhld
namespace Go.Proofs.Ytnghmgbmflcngaa
set_option linter.unusedVariables false
open Go.RowKit
def RnNo (A : Option Addr) (n c : Nat) (br : Bool) (er : Int) (w : World) (e : Ending) (w' : World) : Prop := e = .returned (.tuple #[.agg #[.slice A n c, .bool br], .agg #[.int .i64 0, .bool false, .bool false, .int .i64 0, .int .u32 0, .slice none 0 0, .slice none 0 0, .int .u32 0, .int .u32 0, .int .u64 0, .int .u64 0, .int .u64 0], .bool false, .int .i64 er]) ∧ Below w.heap.size w w'
def RnYes (N n : Nat) (l : List UInt8) (q : RQ) (w : World) (e : Ending) (w' : World) : Prop := ∃ (K2 V2 : Option Addr) (nk2 ck2 nv2 cv2 : Nat) (X3 : Option Addr) (cx3 : Nat), e = .returned (.tuple #[.agg #[.slice X3 (n - N) cx3, .bool false], .agg #[.int .i64 q.op, .bool q.qt, .bool q.fu, .int .i64 q.bd, .int .u32 (q.oq : Nat), .slice K2 nk2 ck2, .slice V2 nv2 cv2, .int .u32 (q.fl : Nat), .int .u32 (q.ex : Nat), .int .u64 (q.cs : Nat), .int .u64 (q.dl : Nat), .int .u64 (q.ni : Nat)], .bool true, .int .i64 0]) ∧ Own w' w.heap.size X3 (n - N) cx3 (l.drop N) ∧ Own w' w.heap.size K2 nk2 ck2 q.lk ∧ Own w' w.heap.size V2 nv2 cv2 q.lv ∧ Below w.heap.size w w'
def rgtV (l : List UInt8) : Bool := rightB (fld l 0 1) (fld l 5 1) && (decide (fld l 2 2 + fld l 4 1 ≤ fld l 8 4) && decide (fld l 8 4 ≤ 2048))
theorem rgt_yes {l : List UInt8} : rgtV l = true ↔ rightB (fld l 0 1) (fld l 5 1) = true ∧ fld l 2 2 + fld l 4 1 ≤ fld l 8 4 ∧ fld l 8 4 ≤ 2048 := by
  unfold rgtV
  rw [Bool.and_eq_true, Bool.and_eq_true, decide_eq_true_eq, decide_eq_true_eq]
theorem rgt_may {l : List UInt8} (h : rgtV l = true) : mayB (fld l 0 1) (fld l 2 2) (fld l 4 1) (fld l 8 4) = true := by
  obtain ⟨h1, h2, h3⟩ := rgt_yes.1 h
  unfold rightB at h1
  unfold mayB
  rw [(Bool.and_eq_true_iff.1 h1).1, Bool.true_or, Bool.true_and]
  exact decide_eq_true h2
theorem nx_none {l : List UInt8} (h : nxt l = none) : 24 ≤ l.length ∧ rgtV l = false := by
  have h24 : 24 ≤ l.length := need_24 (by
    rcases nxt_bad h with h | h | h
    · rw [h]; decide
    · rw [h]; decide
    · rw [h.1]; decide)
  refine ⟨h24, ?_⟩
  cases hr : rgtV l with
  | false => rfl
  | true =>
    exfalso
    have hm := rgt_may hr
    obtain ⟨h1, h2, h3⟩ := rgt_yes.1 hr
    have he : needE l = 0 := by unfold needE; rw [if_neg (by omega), if_pos hm, if_neg (by omega)]
    rcases nxt_bad h with h | h | h
    · rw [he] at h; cases h
    · rw [he] at h; cases h
    · rw [h1] at h; cases h.2
theorem nx_wait {l : List UInt8} (h : nxt l = some none) : l.length < 24 ∨ (24 ≤ l.length ∧ rgtV l = true ∧ l.length < 24 + fld l 8 4) := by
  rcases nxt_no h with h | ⟨h1, h2, h3⟩
  · left
    by_cases hl : l.length < 24
    · exact hl
    · exfalso
      unfold needE at h
      rw [if_neg hl] at h
      split at h
      · split at h <;> cases h
      · cases h
  · right
    obtain ⟨h4, h5, h6⟩ := need_00 h1
    exact ⟨h4, rgt_yes.2 ⟨h2, mayB_sum h5, h6⟩, by rw [← needN_of h1]; exact h3⟩
theorem nx_yes {l : List UInt8} {q : RQ} {N : Nat} (h : nxt l = some (some (q, N))) : 24 ≤ l.length ∧ rgtV l = true ∧ N = 24 + fld l 8 4 ∧ N ≤ l.length ∧ q = reqO (fld l 1 1) (fld l 12 4) (fld l 16 8) (fxB l) (fkB l) (fvB l) := by
  obtain ⟨h1, h2, h3, hq, hN⟩ := nxt_yes h
  obtain ⟨h4, h5, h6⟩ := need_00 h1
  exact ⟨h4, rgt_yes.2 ⟨h2, mayB_sum h5, h6⟩, by rw [hN, needN_of h1], by omega, hq⟩
def ReqN20 (q : RQ) (w : World) (e : Ending) (w' : World) : Prop := ∃ (K2 V2 : Option Addr) (nk2 ck2 nv2 cv2 : Nat), e = .returned (.agg #[.int .i64 q.op, .bool q.qt, .bool q.fu, .int .i64 q.bd, .int .u32 (q.oq : Nat), .slice K2 nk2 ck2, .slice V2 nv2 cv2, .int .u32 (q.fl : Nat), .int .u32 (q.ex : Nat), .int .u64 (q.cs : Nat), .int .u64 (q.dl : Nat), .int .u64 (q.ni : Nat)]) ∧ Own w' w.heap.size K2 nk2 ck2 q.lk ∧ Own w' w.heap.size V2 nv2 cv2 q.lv ∧ Below w.heap.size w w'
set_option maxRecDepth 100000 in
set_option maxHeartbeats 8000000 in
theorem rnext_short (A : Option Addr) (n c : Nat) (w : World) (hn : n < 24) : Calls Try.prog 84 #[.agg #[.slice A n c, .bool false]] w (RnNo A n c false 0 w) := by
  have e1 : ((n : Int) < 24) = True := eq_true (by omega)
  clear hn
  have k1 := ((Blk.new w #[.slice A n c, .bool false] 47).alloc (.cells #[.slice none 0 0, .bool false] 47)).alloc (.cells #[.int .i64 0, .bool false, .bool false, .int .i64 0, .int .u32 0, .slice none 0 0, .slice none 0 0, .int .u32 0, .int .u32 0, .int .u64 0, .int .u64 0, .int .u64 0] 26)
  have k2 := (Blk.new (w.alloc (.cells #[.slice A n c, .bool false] 47)) #[.slice none 0 0, .bool false] 47).alloc (.cells #[.int .i64 0, .bool false, .bool false, .int .i64 0, .int .u32 0, .slice none 0 0, .slice none 0 0, .int .u32 0, .int .u32 0, .int .u64 0, .int .u64 0, .int .u64 0] 26)
  have k3 := Blk.new ((w.alloc (.cells #[.slice A n c, .bool false] 47)).alloc (.cells #[.slice none 0 0, .bool false] 47)) #[.int .i64 0, .bool false, .bool false, .int .i64 0, .int .u32 0, .slice none 0 0, .slice none 0 0, .int .u32 0, .int .u32 0, .int .u64 0, .int .u64 0, .int .u64 0] 26
  have b := below_a1' (below_a1' (below_a1' (Below.refl w.heap.size w) (.cells #[.slice A n c, .bool false] 47)) (.cells #[.slice none 0 0, .bool false] 47)) (.cells #[.int .i64 0, .bool false, .bool false, .int .i64 0, .int .u32 0, .slice none 0 0, .slice none 0 0, .int .u32 0, .int .u32 0, .int .u64 0, .int .u64 0, .int .u64 0] 26)
  simp only [World.size_alloc] at k2 k3
  go_enter Try.func84, Try.ntmps84
  go_upto_region 1 with fail
  generalize ((w.alloc (.cells #[.slice A n c, .bool false] 47)).alloc (.cells #[.slice none 0 0, .bool false] 47)).alloc (.cells #[.int .i64 0, .bool false, .bool false, .int .i64 0, .int .u32 0, .slice none 0 0, .slice none 0 0, .int .u32 0, .int .u32 0, .int .u64 0, .int .u64 0, .int .u64 0] 26) = W0 at k1 k2 k3 b ⊢
  obtain ⟨p0, p1⟩ := box2 k1
  obtain ⟨u0, u1⟩ := box2 k2
  have y0 := k2.frozen 0
  have y1 := k2.frozen 1
  have kf2 := blk_set2 k2 (.slice A n c) (.bool false)
  have gs2 := grown_set2 W0 (w.heap.size + 1) (.slice A n c) (.bool false)
  have k3' := k3.leftC gs2 (by omega)
  obtain ⟨v0, v1, v2, v3, v4, v5, v6, v7, v8, v9, v10, v11⟩ := box12 k3'
  have x0 := k3'.frozen 0
  have x1 := k3'.frozen 1
  have x2 := k3'.frozen 2
  have x3 := k3'.frozen 3
  have x4 := k3'.frozen 4
  have x5 := k3'.frozen 5
  have x6 := k3'.frozen 6
  have x7 := k3'.frozen 7
  have x8 := k3'.frozen 8
  have x9 := k3'.frozen 9
  have x10 := k3'.frozen 10
  have x11 := k3'.frozen 11
  have kf3 := blk_set12 k3' (.int .i64 0) (.bool false) (.bool false) (.int .i64 0) (.int .u32 0) (.slice none 0 0) (.slice none 0 0) (.int .u32 0) (.int .u32 0) (.int .u64 0) (.int .u64 0) (.int .u64 0)
  have gs3 := grown_set12 ((W0.setCell ⟨w.heap.size + 1, 0, none⟩ (.slice A n c)).setCell ⟨w.heap.size + 1, 1, none⟩ (.bool false)) (w.heap.size + 2) (.int .i64 0) (.bool false) (.bool false) (.int .i64 0) (.int .u32 0) (.slice none 0 0) (.slice none 0 0) (.int .u32 0) (.int .u32 0) (.int .u64 0) (.int .u64 0) (.int .u64 0)
  have kf2' := kf2.leftC gs3 (by omega)
  have bf := (b.trans (below_grown gs2 (by omega) k2.lt)).trans (below_grown gs3 (by omega) k3'.lt)
  obtain ⟨t0, t1⟩ := box2 kf2'
  obtain ⟨s0, s1, s2, s3, s4, s5, s6, s7, s8, s9, s10, s11⟩ := box12 kf3
  clear kf2 gs2 k3' kf3 gs3 kf2' b k1 k2 k3
  go_wp2_with fail
  refine bodyPost_ret (v := .tuple #[.agg #[.slice A n c, .bool false], .agg #[.int .i64 0, .bool false, .bool false, .int .i64 0, .int .u32 0, .slice none 0 0, .slice none 0 0, .int .u32 0, .int .u32 0, .int .u64 0, .int .u64 0, .int .u64 0], .bool false, .int .i64 0]) (by simp [results, Try.results84, go_sem, t0, t1, s0, s1, s2, s3, s4, s5, s6, s7, s8, s9, s10, s11]) rfl ?_
  exact ⟨rfl, bf⟩
set_option maxRecDepth 100000 in
set_option maxHeartbeats 8000000 in
theorem rnext_bad (A : Option Addr) (n c : Nat) (l : List UInt8) (w : World) (r : Rd w w.heap.size A n c l) (hn : 24 ≤ n) (hr : rgtV l = false) : Calls Try.prog 84 #[.agg #[.slice A n c, .bool false]] w (RnNo none 0 0 true 300 w) := by
  have e24 : ((n : Int) < 24) = False := eq_false (by omega)
  have hF := hdF_of l
  unfold rgtV at hr
  obtain ⟨mg, hmg⟩ : ∃ x, x = fld l 0 1 := ⟨_, rfl⟩
  obtain ⟨op, hop⟩ : ∃ x, x = fld l 1 1 := ⟨_, rfl⟩
  obtain ⟨kl, hkl⟩ : ∃ x, x = fld l 2 2 := ⟨_, rfl⟩
  obtain ⟨el, hel⟩ : ∃ x, x = fld l 4 1 := ⟨_, rfl⟩
  obtain ⟨ty, hty⟩ : ∃ x, x = fld l 5 1 := ⟨_, rfl⟩
  obtain ⟨st, hst⟩ : ∃ x, x = fld l 6 2 := ⟨_, rfl⟩
  obtain ⟨bl, hbl⟩ : ∃ x, x = fld l 8 4 := ⟨_, rfl⟩
  obtain ⟨oq, hoq⟩ : ∃ x, x = fld l 12 4 := ⟨_, rfl⟩
  obtain ⟨cas, hcas⟩ : ∃ x, x = fld l 16 8 := ⟨_, rfl⟩
  rw [← hmg, ← hop, ← hkl, ← hel, ← hty, ← hst, ← hbl, ← hoq, ← hcas] at hF
  rw [← hmg, ← hkl, ← hel, ← hty, ← hbl] at hr
  have HRD : Hid (∀ W, Below w.heap.size w W → Calls Try.prog 118 #[.slice A n c] W (BoxQ (.agg #[.int .u8 (mg : Nat), .int .u8 (op : Nat), .int .u16 (kl : Nat), .int .u8 (el : Nat), .int .u8 (ty : Nat), .int .u16 (st : Nat), .int .u32 (bl : Nat), .int .u32 (oq : Nat), .int .u64 (cas : Nat)]) W)) := Lib.hid (fun W b => by have h := read19_any A n c l W ((r.below b).more b.size) hn; rw [← hmg, ← hop, ← hkl, ← hel, ← hty, ← hst, ← hbl, ← hoq, ← hcas] at h; exact h)
  have HRG : Hid (∀ W, Calls Try.prog 55 #[.agg #[.int .u8 (mg : Nat), .int .u8 (op : Nat), .int .u16 (kl : Nat), .int .u8 (el : Nat), .int .u8 (ty : Nat), .int .u16 (st : Nat), .int .u32 (bl : Nat), .int .u32 (oq : Nat), .int .u64 (cas : Nat)]] W (BoxQ' (.bool false) W)) := Lib.hid (fun W => by have h := rright20 mg op kl el ty st bl oq cas hF W; rw [hr] at h; exact h)
  have HBL := Lib.hid hbl
  clear hr hF hmg hop hkl hel hty hst hbl hoq hcas hn
  have k1 := ((Blk.new w #[.slice A n c, .bool false] 47).alloc (.cells #[.slice none 0 0, .bool false] 47)).alloc (.cells #[.int .i64 0, .bool false, .bool false, .int .i64 0, .int .u32 0, .slice none 0 0, .slice none 0 0, .int .u32 0, .int .u32 0, .int .u64 0, .int .u64 0, .int .u64 0] 26)
  have k2 := (Blk.new (w.alloc (.cells #[.slice A n c, .bool false] 47)) #[.slice none 0 0, .bool false] 47).alloc (.cells #[.int .i64 0, .bool false, .bool false, .int .i64 0, .int .u32 0, .slice none 0 0, .slice none 0 0, .int .u32 0, .int .u32 0, .int .u64 0, .int .u64 0, .int .u64 0] 26)
  have k3 := Blk.new ((w.alloc (.cells #[.slice A n c, .bool false] 47)).alloc (.cells #[.slice none 0 0, .bool false] 47)) #[.int .i64 0, .bool false, .bool false, .int .i64 0, .int .u32 0, .slice none 0 0, .slice none 0 0, .int .u32 0, .int .u32 0, .int .u64 0, .int .u64 0, .int .u64 0] 26
  have b := below_a1' (below_a1' (below_a1' (Below.refl w.heap.size w) (.cells #[.slice A n c, .bool false] 47)) (.cells #[.slice none 0 0, .bool false] 47)) (.cells #[.int .i64 0, .bool false, .bool false, .int .i64 0, .int .u32 0, .slice none 0 0, .slice none 0 0, .int .u32 0, .int .u32 0, .int .u64 0, .int .u64 0, .int .u64 0] 26)
  simp only [World.size_alloc] at k2 k3
  go_enter Try.func84, Try.ntmps84
  go_upto_region 1 with fail
  generalize ((w.alloc (.cells #[.slice A n c, .bool false] 47)).alloc (.cells #[.slice none 0 0, .bool false] 47)).alloc (.cells #[.int .i64 0, .bool false, .bool false, .int .i64 0, .int .u32 0, .slice none 0 0, .slice none 0 0, .int .u32 0, .int .u32 0, .int .u64 0, .int .u64 0, .int .u64 0] 26) = W0 at k1 k2 k3 b ⊢
  obtain ⟨p0, p1⟩ := box2 k1
  go_wp2_with fail
  refine (HRD.out W0 b).mono ?_
  rintro e w1 ⟨rfl, b1⟩
  replace k1 := k1.step b1
  replace k2 := k2.step b1
  replace k3 := k3.step b1
  replace b := below_step b b1
  clear b1 p0 p1
  go_upto_region 6 with fail
  have k6 := Blk.new w1 #[.int .u8 (mg : Nat), .int .u8 (op : Nat), .int .u16 (kl : Nat), .int .u8 (el : Nat), .int .u8 (ty : Nat), .int .u16 (st : Nat), .int .u32 (bl : Nat), .int .u32 (oq : Nat), .int .u64 (cas : Nat)] 59
  have ba := below_a1' (Below.refl w1.heap.size w1) (.cells #[.int .u8 (mg : Nat), .int .u8 (op : Nat), .int .u16 (kl : Nat), .int .u8 (el : Nat), .int .u8 (ty : Nat), .int .u16 (st : Nat), .int .u32 (bl : Nat), .int .u32 (oq : Nat), .int .u64 (cas : Nat)] 59)
  have hg6 := k3.lt
  replace k1 := k1.step ba
  replace k2 := k2.step ba
  replace k3 := k3.step ba
  replace b := below_step b ba
  clear ba
  generalize w1.alloc (.cells #[.int .u8 (mg : Nat), .int .u8 (op : Nat), .int .u16 (kl : Nat), .int .u8 (el : Nat), .int .u8 (ty : Nat), .int .u16 (st : Nat), .int .u32 (bl : Nat), .int .u32 (oq : Nat), .int .u64 (cas : Nat)] 59) = W2 at k1 k2 k3 k6 b ⊢
  generalize w1.heap.size = g6 at k6 hg6 ⊢
  obtain ⟨h0, h1, h2, h3, h4, h5, h6, h7, h8⟩ := box9 k6
  go_wp2_with fail
  refine (HRG.out W2).mono ?_
  rintro e w3 ⟨rfl, b1⟩
  replace k1 := k1.step b1
  replace k2 := k2.step b1
  replace k3 := k3.step b1
  replace k6 := k6.step b1
  replace b := below_step b b1
  clear b1 h0 h1 h2 h3 h4 h5 h6 h7 h8
  clear k6
  obtain ⟨u0, u1⟩ := box2 k2
  have y0 := k2.frozen 0
  have y1 := k2.frozen 1
  have kf2 := blk_set2 k2 (.slice none 0 0) (.bool true)
  have gs2 := grown_set2 w3 (w.heap.size + 1) (.slice none 0 0) (.bool true)
  have k3' := k3.leftC gs2 (by omega)
  obtain ⟨v0, v1, v2, v3, v4, v5, v6, v7, v8, v9, v10, v11⟩ := box12 k3'
  have x0 := k3'.frozen 0
  have x1 := k3'.frozen 1
  have x2 := k3'.frozen 2
  have x3 := k3'.frozen 3
  have x4 := k3'.frozen 4
  have x5 := k3'.frozen 5
  have x6 := k3'.frozen 6
  have x7 := k3'.frozen 7
  have x8 := k3'.frozen 8
  have x9 := k3'.frozen 9
  have x10 := k3'.frozen 10
  have x11 := k3'.frozen 11
  have kf3 := blk_set12 k3' (.int .i64 0) (.bool false) (.bool false) (.int .i64 0) (.int .u32 0) (.slice none 0 0) (.slice none 0 0) (.int .u32 0) (.int .u32 0) (.int .u64 0) (.int .u64 0) (.int .u64 0)
  have gs3 := grown_set12 ((w3.setCell ⟨w.heap.size + 1, 0, none⟩ (.slice none 0 0)).setCell ⟨w.heap.size + 1, 1, none⟩ (.bool true)) (w.heap.size + 2) (.int .i64 0) (.bool false) (.bool false) (.int .i64 0) (.int .u32 0) (.slice none 0 0) (.slice none 0 0) (.int .u32 0) (.int .u32 0) (.int .u64 0) (.int .u64 0) (.int .u64 0)
  have kf2' := kf2.leftC gs3 (by omega)
  have bf := (b.trans (below_grown gs2 (by omega) k2.lt)).trans (below_grown gs3 (by omega) k3'.lt)
  obtain ⟨t0, t1⟩ := box2 kf2'
  obtain ⟨s0, s1, s2, s3, s4, s5, s6, s7, s8, s9, s10, s11⟩ := box12 kf3
  clear kf2 gs2 k3' kf3 gs3 kf2' b k1 k2 k3
  go_wp2_with fail
  refine bodyPost_ret (v := .tuple #[.agg #[.slice none 0 0, .bool true], .agg #[.int .i64 0, .bool false, .bool false, .int .i64 0, .int .u32 0, .slice none 0 0, .slice none 0 0, .int .u32 0, .int .u32 0, .int .u64 0, .int .u64 0, .int .u64 0], .bool false, .int .i64 300]) (by simp [results, Try.results84, go_sem, t0, t1, s0, s1, s2, s3, s4, s5, s6, s7, s8, s9, s10, s11]) rfl ?_
  exact ⟨rfl, bf⟩
set_option maxRecDepth 100000 in
set_option maxHeartbeats 8000000 in
theorem rnext_wait (A : Option Addr) (n c : Nat) (l : List UInt8) (w : World) (r : Rd w w.heap.size A n c l) (hn : 24 ≤ n) (hr : rgtV l = true) (hN : n < 24 + fld l 8 4) : Calls Try.prog 84 #[.agg #[.slice A n c, .bool false]] w (RnNo A n c false 0 w) := by
  have e24 : ((n : Int) < 24) = False := eq_false (by omega)
  have hF := hdF_of l
  unfold rgtV at hr
  obtain ⟨mg, hmg⟩ : ∃ x, x = fld l 0 1 := ⟨_, rfl⟩
  obtain ⟨op, hop⟩ : ∃ x, x = fld l 1 1 := ⟨_, rfl⟩
  obtain ⟨kl, hkl⟩ : ∃ x, x = fld l 2 2 := ⟨_, rfl⟩
  obtain ⟨el, hel⟩ : ∃ x, x = fld l 4 1 := ⟨_, rfl⟩
  obtain ⟨ty, hty⟩ : ∃ x, x = fld l 5 1 := ⟨_, rfl⟩
  obtain ⟨st, hst⟩ : ∃ x, x = fld l 6 2 := ⟨_, rfl⟩
  obtain ⟨bl, hbl⟩ : ∃ x, x = fld l 8 4 := ⟨_, rfl⟩
  obtain ⟨oq, hoq⟩ : ∃ x, x = fld l 12 4 := ⟨_, rfl⟩
  obtain ⟨cas, hcas⟩ : ∃ x, x = fld l 16 8 := ⟨_, rfl⟩
  rw [← hmg, ← hop, ← hkl, ← hel, ← hty, ← hst, ← hbl, ← hoq, ← hcas] at hF
  rw [← hmg, ← hkl, ← hel, ← hty, ← hbl] at hr
  have HRD : Hid (∀ W, Below w.heap.size w W → Calls Try.prog 118 #[.slice A n c] W (BoxQ (.agg #[.int .u8 (mg : Nat), .int .u8 (op : Nat), .int .u16 (kl : Nat), .int .u8 (el : Nat), .int .u8 (ty : Nat), .int .u16 (st : Nat), .int .u32 (bl : Nat), .int .u32 (oq : Nat), .int .u64 (cas : Nat)]) W)) := Lib.hid (fun W b => by have h := read19_any A n c l W ((r.below b).more b.size) hn; rw [← hmg, ← hop, ← hkl, ← hel, ← hty, ← hst, ← hbl, ← hoq, ← hcas] at h; exact h)
  have HRG : Hid (∀ W, Calls Try.prog 55 #[.agg #[.int .u8 (mg : Nat), .int .u8 (op : Nat), .int .u16 (kl : Nat), .int .u8 (el : Nat), .int .u8 (ty : Nat), .int .u16 (st : Nat), .int .u32 (bl : Nat), .int .u32 (oq : Nat), .int .u64 (cas : Nat)]] W (BoxQ' (.bool true) W)) := Lib.hid (fun W => by have h := rright20 mg op kl el ty st bl oq cas hF W; rw [hr] at h; exact h)
  have f2 : bl < 4294967296 := hF.2.2.2.2.2.2.1
  have wb : IntKind.i64.wrap ((bl : Nat) : Int) = (bl : Nat) := IntWalk.i64_in _ (by omega)
  have wb2 : IntKind.i64.wrap ((24 : Int) + (bl : Int)) = (24 : Int) + (bl : Int) := IntWalk.i64_in _ (by omega)
  have eN : ((n : Int) < (24 : Int) + (bl : Int)) = True := eq_true (by omega)
  clear f2 hN
  have HBL := Lib.hid hbl
  clear hr hF hmg hop hkl hel hty hst hbl hoq hcas hn
  have k1 := ((Blk.new w #[.slice A n c, .bool false] 47).alloc (.cells #[.slice none 0 0, .bool false] 47)).alloc (.cells #[.int .i64 0, .bool false, .bool false, .int .i64 0, .int .u32 0, .slice none 0 0, .slice none 0 0, .int .u32 0, .int .u32 0, .int .u64 0, .int .u64 0, .int .u64 0] 26)
  have k2 := (Blk.new (w.alloc (.cells #[.slice A n c, .bool false] 47)) #[.slice none 0 0, .bool false] 47).alloc (.cells #[.int .i64 0, .bool false, .bool false, .int .i64 0, .int .u32 0, .slice none 0 0, .slice none 0 0, .int .u32 0, .int .u32 0, .int .u64 0, .int .u64 0, .int .u64 0] 26)
  have k3 := Blk.new ((w.alloc (.cells #[.slice A n c, .bool false] 47)).alloc (.cells #[.slice none 0 0, .bool false] 47)) #[.int .i64 0, .bool false, .bool false, .int .i64 0, .int .u32 0, .slice none 0 0, .slice none 0 0, .int .u32 0, .int .u32 0, .int .u64 0, .int .u64 0, .int .u64 0] 26
  have b := below_a1' (below_a1' (below_a1' (Below.refl w.heap.size w) (.cells #[.slice A n c, .bool false] 47)) (.cells #[.slice none 0 0, .bool false] 47)) (.cells #[.int .i64 0, .bool false, .bool false, .int .i64 0, .int .u32 0, .slice none 0 0, .slice none 0 0, .int .u32 0, .int .u32 0, .int .u64 0, .int .u64 0, .int .u64 0] 26)
  simp only [World.size_alloc] at k2 k3
  go_enter Try.func84, Try.ntmps84
  go_upto_region 1 with fail
  generalize ((w.alloc (.cells #[.slice A n c, .bool false] 47)).alloc (.cells #[.slice none 0 0, .bool false] 47)).alloc (.cells #[.int .i64 0, .bool false, .bool false, .int .i64 0, .int .u32 0, .slice none 0 0, .slice none 0 0, .int .u32 0, .int .u32 0, .int .u64 0, .int .u64 0, .int .u64 0] 26) = W0 at k1 k2 k3 b ⊢
  obtain ⟨p0, p1⟩ := box2 k1
  go_wp2_with fail
  refine (HRD.out W0 b).mono ?_
  rintro e w1 ⟨rfl, b1⟩
  replace k1 := k1.step b1
  replace k2 := k2.step b1
  replace k3 := k3.step b1
  replace b := below_step b b1
  clear b1 p0 p1
  go_upto_region 6 with fail
  have k6 := Blk.new w1 #[.int .u8 (mg : Nat), .int .u8 (op : Nat), .int .u16 (kl : Nat), .int .u8 (el : Nat), .int .u8 (ty : Nat), .int .u16 (st : Nat), .int .u32 (bl : Nat), .int .u32 (oq : Nat), .int .u64 (cas : Nat)] 59
  have ba := below_a1' (Below.refl w1.heap.size w1) (.cells #[.int .u8 (mg : Nat), .int .u8 (op : Nat), .int .u16 (kl : Nat), .int .u8 (el : Nat), .int .u8 (ty : Nat), .int .u16 (st : Nat), .int .u32 (bl : Nat), .int .u32 (oq : Nat), .int .u64 (cas : Nat)] 59)
  have hg6 := k3.lt
  replace k1 := k1.step ba
  replace k2 := k2.step ba
  replace k3 := k3.step ba
  replace b := below_step b ba
  clear ba
  generalize w1.alloc (.cells #[.int .u8 (mg : Nat), .int .u8 (op : Nat), .int .u16 (kl : Nat), .int .u8 (el : Nat), .int .u8 (ty : Nat), .int .u16 (st : Nat), .int .u32 (bl : Nat), .int .u32 (oq : Nat), .int .u64 (cas : Nat)] 59) = W2 at k1 k2 k3 k6 b ⊢
  generalize w1.heap.size = g6 at k6 hg6 ⊢
  obtain ⟨h0, h1, h2, h3, h4, h5, h6, h7, h8⟩ := box9 k6
  go_wp2_with fail
  refine (HRG.out W2).mono ?_
  rintro e w3 ⟨rfl, b1⟩
  replace k1 := k1.step b1
  replace k2 := k2.step b1
  replace k3 := k3.step b1
  replace k6 := k6.step b1
  replace b := below_step b b1
  clear b1 h0 h1 h2 h3 h4 h5 h6 h7 h8
  obtain ⟨h0, h1, h2, h3, h4, h5, h6, h7, h8⟩ := box9 k6
  obtain ⟨p0, p1⟩ := box2 k1
  obtain ⟨u0, u1⟩ := box2 k2
  have y0 := k2.frozen 0
  have y1 := k2.frozen 1
  have kf2 := blk_set2 k2 (.slice A n c) (.bool false)
  have gs2 := grown_set2 w3 (w.heap.size + 1) (.slice A n c) (.bool false)
  have k3' := k3.leftC gs2 (by omega)
  obtain ⟨v0, v1, v2, v3, v4, v5, v6, v7, v8, v9, v10, v11⟩ := box12 k3'
  have x0 := k3'.frozen 0
  have x1 := k3'.frozen 1
  have x2 := k3'.frozen 2
  have x3 := k3'.frozen 3
  have x4 := k3'.frozen 4
  have x5 := k3'.frozen 5
  have x6 := k3'.frozen 6
  have x7 := k3'.frozen 7
  have x8 := k3'.frozen 8
  have x9 := k3'.frozen 9
  have x10 := k3'.frozen 10
  have x11 := k3'.frozen 11
  have kf3 := blk_set12 k3' (.int .i64 0) (.bool false) (.bool false) (.int .i64 0) (.int .u32 0) (.slice none 0 0) (.slice none 0 0) (.int .u32 0) (.int .u32 0) (.int .u64 0) (.int .u64 0) (.int .u64 0)
  have gs3 := grown_set12 ((w3.setCell ⟨w.heap.size + 1, 0, none⟩ (.slice A n c)).setCell ⟨w.heap.size + 1, 1, none⟩ (.bool false)) (w.heap.size + 2) (.int .i64 0) (.bool false) (.bool false) (.int .i64 0) (.int .u32 0) (.slice none 0 0) (.slice none 0 0) (.int .u32 0) (.int .u32 0) (.int .u64 0) (.int .u64 0) (.int .u64 0)
  have kf2' := kf2.leftC gs3 (by omega)
  have bf := (b.trans (below_grown gs2 (by omega) k2.lt)).trans (below_grown gs3 (by omega) k3'.lt)
  obtain ⟨t0, t1⟩ := box2 kf2'
  obtain ⟨s0, s1, s2, s3, s4, s5, s6, s7, s8, s9, s10, s11⟩ := box12 kf3
  clear k6
  clear kf2 gs2 k3' kf3 gs3 kf2' b k1 k2 k3
  go_wp2_with fail
  refine bodyPost_ret (v := .tuple #[.agg #[.slice A n c, .bool false], .agg #[.int .i64 0, .bool false, .bool false, .int .i64 0, .int .u32 0, .slice none 0 0, .slice none 0 0, .int .u32 0, .int .u32 0, .int .u64 0, .int .u64 0, .int .u64 0], .bool false, .int .i64 0]) (by simp [results, Try.results84, go_sem, t0, t1, s0, s1, s2, s3, s4, s5, s6, s7, s8, s9, s10, s11]) rfl ?_
  exact ⟨rfl, bf⟩
set_option maxRecDepth 100000 in
set_option maxHeartbeats 8000000 in
theorem rnext_yes (A : Option Addr) (n c : Nat) (l : List UInt8) (w : World) (r : Rd w w.heap.size A n c l) (hn : 24 ≤ n) (hr : rgtV l = true) (hN : 24 + fld l 8 4 ≤ n) (hn2 : n ≤ 65536) (q : RQ) (hq : q = reqO (fld l 1 1) (fld l 12 4) (fld l 16 8) (fxB l) (fkB l) (fvB l)) : Calls Try.prog 84 #[.agg #[.slice A n c, .bool false]] w (RnYes (24 + fld l 8 4) n l q w) := by
  have HLN := Lib.hid hn2
  have HQ := Lib.hid hq
  clear hq hn2
  obtain ⟨hr1, hr2, hr3⟩ := rgt_yes.1 hr
  have e24 : ((n : Int) < 24) = False := eq_false (by omega)
  have hF := hdF_of l
  unfold rgtV at hr
  obtain ⟨mg, hmg⟩ : ∃ x, x = fld l 0 1 := ⟨_, rfl⟩
  obtain ⟨op, hop⟩ : ∃ x, x = fld l 1 1 := ⟨_, rfl⟩
  obtain ⟨kl, hkl⟩ : ∃ x, x = fld l 2 2 := ⟨_, rfl⟩
  obtain ⟨el, hel⟩ : ∃ x, x = fld l 4 1 := ⟨_, rfl⟩
  obtain ⟨ty, hty⟩ : ∃ x, x = fld l 5 1 := ⟨_, rfl⟩
  obtain ⟨st, hst⟩ : ∃ x, x = fld l 6 2 := ⟨_, rfl⟩
  obtain ⟨bl, hbl⟩ : ∃ x, x = fld l 8 4 := ⟨_, rfl⟩
  obtain ⟨oq, hoq⟩ : ∃ x, x = fld l 12 4 := ⟨_, rfl⟩
  obtain ⟨cas, hcas⟩ : ∃ x, x = fld l 16 8 := ⟨_, rfl⟩
  rw [← hmg, ← hop, ← hkl, ← hel, ← hty, ← hst, ← hbl, ← hoq, ← hcas] at hF
  rw [← hmg, ← hkl, ← hel, ← hty, ← hbl] at hr
  have HRD : Hid (∀ W, Below w.heap.size w W → Calls Try.prog 118 #[.slice A n c] W (BoxQ (.agg #[.int .u8 (mg : Nat), .int .u8 (op : Nat), .int .u16 (kl : Nat), .int .u8 (el : Nat), .int .u8 (ty : Nat), .int .u16 (st : Nat), .int .u32 (bl : Nat), .int .u32 (oq : Nat), .int .u64 (cas : Nat)]) W)) := Lib.hid (fun W b => by have h := read19_any A n c l W ((r.below b).more b.size) hn; rw [← hmg, ← hop, ← hkl, ← hel, ← hty, ← hst, ← hbl, ← hoq, ← hcas] at h; exact h)
  have HRG : Hid (∀ W, Calls Try.prog 55 #[.agg #[.int .u8 (mg : Nat), .int .u8 (op : Nat), .int .u16 (kl : Nat), .int .u8 (el : Nat), .int .u8 (ty : Nat), .int .u16 (st : Nat), .int .u32 (bl : Nat), .int .u32 (oq : Nat), .int .u64 (cas : Nat)]] W (BoxQ' (.bool true) W)) := Lib.hid (fun W => by have h := rright20 mg op kl el ty st bl oq cas hF W; rw [hr] at h; exact h)
  rw [← hkl, ← hel, ← hbl] at hr2
  rw [← hbl] at hr3
  have hNl := hN
  have f2 : bl < 4294967296 := hF.2.2.2.2.2.2.1
  have wb : IntKind.i64.wrap ((bl : Nat) : Int) = (bl : Nat) := IntWalk.i64_in _ (by omega)
  have wb2 : IntKind.i64.wrap ((24 : Int) + (bl : Int)) = (24 : Int) + (bl : Int) := IntWalk.i64_in _ (by omega)
  have f3 : el < 256 := hF.2.2.2.1
  have f4 : kl < 65536 := hF.2.2.1
  have we : IntKind.i64.wrap ((el : Nat) : Int) = (el : Nat) := IntWalk.i64_in _ (by omega)
  have we2 : IntKind.i64.wrap ((24 : Int) + (el : Int)) = (24 : Int) + (el : Int) := IntWalk.i64_in _ (by omega)
  have wk : IntKind.i64.wrap ((kl : Nat) : Int) = (kl : Nat) := IntWalk.i64_in _ (by omega)
  have wk2 : IntKind.i64.wrap ((24 : Int) + (el : Int) + (kl : Int)) = (24 : Int) + (el : Int) + (kl : Int) := IntWalk.i64_in _ (by omega)
  have hn2 := HLN.out
  have eN : ((n : Int) < (24 : Int) + (bl : Int)) = False := eq_false (by omega)
  obtain ⟨X, cx, HX, hX⟩ := slc_lh r 24 (24 + el) 24 ((24 : Int) + (el : Int)) rfl (by omega) (by omega) (by omega)
  obtain ⟨K, ck, HK, hK⟩ := slc_lh r (24 + el) (24 + el + kl) ((24 : Int) + (el : Int)) ((24 : Int) + (el : Int) + (kl : Int)) (by omega) (by omega) (by omega) (by omega)
  obtain ⟨V, cv, HV, hV⟩ := slc_lh r (24 + el + kl) (24 + bl) ((24 : Int) + (el : Int) + (kl : Int)) ((24 : Int) + (bl : Int)) (by omega) (by omega) (by omega) (by omega)
  obtain ⟨nv, hnv⟩ : ∃ nv, nv = 24 + bl - (24 + el + kl) := ⟨_, rfl⟩
  rw [← hnv] at HV hV
  rw [Nat.add_sub_cancel_left] at HX hX HK hK
  obtain ⟨Y, cy, HY, hY⟩ := slc_l r (24 + bl) ((24 : Int) + (bl : Int)) (by omega) (by omega)
  rw [show (l.take (24 + el)).drop 24 = fxB l from by unfold fxB; rw [List.drop_take, Nat.add_sub_cancel_left, hel]] at hX
  rw [show (l.take (24 + el + kl)).drop (24 + el) = fkB l from by unfold fkB; rw [List.drop_take, Nat.add_sub_cancel_left, List.drop_drop, ← hel, ← hkl]] at hK
  rw [show (l.take (24 + bl)).drop (24 + el + kl) = fvB l from by unfold fvB; rw [← hel, ← hkl, ← hbl, List.drop_take, List.drop_take, List.drop_drop, Nat.add_assoc, show 24 + bl - (24 + (el + kl)) = bl - (el + kl) from by omega]] at hV
  have HRQ : Hid (∀ W, Below w.heap.size w W → Calls Try.prog 56 #[.agg #[.int .u8 (mg : Nat), .int .u8 (op : Nat), .int .u16 (kl : Nat), .int .u8 (el : Nat), .int .u8 (ty : Nat), .int .u16 (st : Nat), .int .u32 (bl : Nat), .int .u32 (oq : Nat), .int .u64 (cas : Nat), .slice X el cx, .slice K kl ck, .slice V nv cv]] W (ReqN20 q W)) := Lib.hid (fun W bW => by have h := rqn_any mg op kl el ty st bl oq cas X K V el cx kl ck nv cv (fxB l) (fkB l) (fvB l) W ((hX _ _ (r.below bW)).more bW.size) ((hK _ _ (r.below bW)).more bW.size) ((hV _ _ (r.below bW)).more bW.size) (by rw [hop]; exact fld_lt l 1 1); rw [hop, hoq, hcas, ← HQ.out] at h; rw [← hop, ← hoq, ← hcas] at h; exact h)
  have HYR := Lib.hid (fun W (bW : Below w.heap.size w W) => (hY _ _ (r.below bW)).more bW.size)
  clear f2 f3 f4 hnv hX hK hV hY hn2
  clear hr1 hr2 hr3 hNl
  have HBL := Lib.hid hbl
  clear hr hF hmg hop hkl hel hty hst hbl hoq hcas hn
  have k1 := ((Blk.new w #[.slice A n c, .bool false] 47).alloc (.cells #[.slice none 0 0, .bool false] 47)).alloc (.cells #[.int .i64 0, .bool false, .bool false, .int .i64 0, .int .u32 0, .slice none 0 0, .slice none 0 0, .int .u32 0, .int .u32 0, .int .u64 0, .int .u64 0, .int .u64 0] 26)
  have k2 := (Blk.new (w.alloc (.cells #[.slice A n c, .bool false] 47)) #[.slice none 0 0, .bool false] 47).alloc (.cells #[.int .i64 0, .bool false, .bool false, .int .i64 0, .int .u32 0, .slice none 0 0, .slice none 0 0, .int .u32 0, .int .u32 0, .int .u64 0, .int .u64 0, .int .u64 0] 26)
  have k3 := Blk.new ((w.alloc (.cells #[.slice A n c, .bool false] 47)).alloc (.cells #[.slice none 0 0, .bool false] 47)) #[.int .i64 0, .bool false, .bool false, .int .i64 0, .int .u32 0, .slice none 0 0, .slice none 0 0, .int .u32 0, .int .u32 0, .int .u64 0, .int .u64 0, .int .u64 0] 26
  have b := below_a1' (below_a1' (below_a1' (Below.refl w.heap.size w) (.cells #[.slice A n c, .bool false] 47)) (.cells #[.slice none 0 0, .bool false] 47)) (.cells #[.int .i64 0, .bool false, .bool false, .int .i64 0, .int .u32 0, .slice none 0 0, .slice none 0 0, .int .u32 0, .int .u32 0, .int .u64 0, .int .u64 0, .int .u64 0] 26)
  simp only [World.size_alloc] at k2 k3
  go_enter Try.func84, Try.ntmps84
  go_upto_region 1 with fail
  generalize ((w.alloc (.cells #[.slice A n c, .bool false] 47)).alloc (.cells #[.slice none 0 0, .bool false] 47)).alloc (.cells #[.int .i64 0, .bool false, .bool false, .int .i64 0, .int .u32 0, .slice none 0 0, .slice none 0 0, .int .u32 0, .int .u32 0, .int .u64 0, .int .u64 0, .int .u64 0] 26) = W0 at k1 k2 k3 b ⊢
  obtain ⟨p0, p1⟩ := box2 k1
  go_wp2_with fail
  refine (HRD.out W0 b).mono ?_
  rintro e w1 ⟨rfl, b1⟩
  replace k1 := k1.step b1
  replace k2 := k2.step b1
  replace k3 := k3.step b1
  replace b := below_step b b1
  clear b1 p0 p1
  go_upto_region 6 with fail
  have k6 := Blk.new w1 #[.int .u8 (mg : Nat), .int .u8 (op : Nat), .int .u16 (kl : Nat), .int .u8 (el : Nat), .int .u8 (ty : Nat), .int .u16 (st : Nat), .int .u32 (bl : Nat), .int .u32 (oq : Nat), .int .u64 (cas : Nat)] 59
  have ba := below_a1' (Below.refl w1.heap.size w1) (.cells #[.int .u8 (mg : Nat), .int .u8 (op : Nat), .int .u16 (kl : Nat), .int .u8 (el : Nat), .int .u8 (ty : Nat), .int .u16 (st : Nat), .int .u32 (bl : Nat), .int .u32 (oq : Nat), .int .u64 (cas : Nat)] 59)
  have hg6 := k3.lt
  replace k1 := k1.step ba
  replace k2 := k2.step ba
  replace k3 := k3.step ba
  replace b := below_step b ba
  clear ba
  generalize w1.alloc (.cells #[.int .u8 (mg : Nat), .int .u8 (op : Nat), .int .u16 (kl : Nat), .int .u8 (el : Nat), .int .u8 (ty : Nat), .int .u16 (st : Nat), .int .u32 (bl : Nat), .int .u32 (oq : Nat), .int .u64 (cas : Nat)] 59) = W2 at k1 k2 k3 k6 b ⊢
  generalize w1.heap.size = g6 at k6 hg6 ⊢
  obtain ⟨h0, h1, h2, h3, h4, h5, h6, h7, h8⟩ := box9 k6
  go_wp2_with fail
  refine (HRG.out W2).mono ?_
  rintro e w3 ⟨rfl, b1⟩
  replace k1 := k1.step b1
  replace k2 := k2.step b1
  replace k3 := k3.step b1
  replace k6 := k6.step b1
  replace b := below_step b b1
  clear b1 h0 h1 h2 h3 h4 h5 h6 h7 h8
  obtain ⟨h0, h1, h2, h3, h4, h5, h6, h7, h8⟩ := box9 k6
  obtain ⟨p0, p1⟩ := box2 k1
  go_upto_region 13 with fail
  clear h0 h1 h2 h3 h4 h5 h6 h7 h8 p0 p1
  refine wp_region_noPanic ?_
  refine region_T (fun wx => Blk wx w.heap.size #[.slice A n c, .bool false] 47 ∧ Blk wx g6 #[.int .u8 (mg : Nat), .int .u8 (op : Nat), .int .u16 (kl : Nat), .int .u8 (el : Nat), .int .u8 (ty : Nat), .int .u16 (st : Nat), .int .u32 (bl : Nat), .int .u32 (oq : Nat), .int .u64 (cas : Nat)] 59) 18 (by kernel_rfl) ?_
  have bD : Below w3.heap.size w3 w3.drew := (Below.refl _ _).drew
  replace k1 := k1.step bD
  replace k2 := k2.step bD
  replace k3 := k3.step bD
  replace k6 := k6.step bD
  replace b := below_step b bD
  clear bD
  have hHeld := And.intro k1 k6
  generalize w3.drew = Y0 at b k1 k2 k3 k6 hHeld ⊢
  refine takeA (i := 0) (v := ?_) rfl (fun _ _ _ h => h) (Or.inl ⟨by rfl, ?_⟩) hHeld ?_
  rotate_left
  · (intro wx hSw; obtain ⟨sa, sb⟩ := hSw; obtain ⟨i0, i1⟩ := box2 sa; obtain ⟨a0, a1, a2, a3, a4, a5, a6, a7, a8⟩ := box9 sb; go_simp; try (with_reducible rfl))
  try simp only [Act.put, List.setIfInBounds_toArray, List.set_cons_zero, List.set_cons_succ]
  refine takeA (i := 1) (v := ?_) rfl (fun _ _ _ h => h) (Or.inl ⟨by rfl, ?_⟩) hHeld ?_
  rotate_left
  · (intro wx hSw; obtain ⟨sa, sb⟩ := hSw; obtain ⟨i0, i1⟩ := box2 sa; obtain ⟨a0, a1, a2, a3, a4, a5, a6, a7, a8⟩ := box9 sb; go_simp; try (with_reducible rfl))
  try simp only [Act.put, List.setIfInBounds_toArray, List.set_cons_zero, List.set_cons_succ]
  refine takeA (i := 2) (v := ?_) rfl (fun _ _ _ h => h) (Or.inl ⟨by rfl, ?_⟩) hHeld ?_
  rotate_left
  · (intro wx hSw; obtain ⟨sa, sb⟩ := hSw; obtain ⟨i0, i1⟩ := box2 sa; obtain ⟨a0, a1, a2, a3, a4, a5, a6, a7, a8⟩ := box9 sb; go_simp; try (with_reducible rfl))
  try simp only [Act.put, List.setIfInBounds_toArray, List.set_cons_zero, List.set_cons_succ]
  refine takeA (i := 3) (v := ?_) rfl (fun _ _ _ h => h) (Or.inl ⟨by rfl, ?_⟩) hHeld ?_
  rotate_left
  · (intro wx hSw; obtain ⟨sa, sb⟩ := hSw; obtain ⟨i0, i1⟩ := box2 sa; obtain ⟨a0, a1, a2, a3, a4, a5, a6, a7, a8⟩ := box9 sb; go_simp; try (with_reducible rfl))
  try simp only [Act.put, List.setIfInBounds_toArray, List.set_cons_zero, List.set_cons_succ]
  refine takeA (i := 4) (v := ?_) rfl (fun _ _ _ h => h) (Or.inl ⟨by rfl, ?_⟩) hHeld ?_
  rotate_left
  · (intro wx hSw; obtain ⟨sa, sb⟩ := hSw; obtain ⟨i0, i1⟩ := box2 sa; obtain ⟨a0, a1, a2, a3, a4, a5, a6, a7, a8⟩ := box9 sb; go_simp; try (with_reducible rfl))
  try simp only [Act.put, List.setIfInBounds_toArray, List.set_cons_zero, List.set_cons_succ]
  refine takeA (i := 5) (v := ?_) rfl (fun _ _ _ h => h) (Or.inl ⟨by rfl, ?_⟩) hHeld ?_
  rotate_left
  · (intro wx hSw; obtain ⟨sa, sb⟩ := hSw; obtain ⟨i0, i1⟩ := box2 sa; obtain ⟨a0, a1, a2, a3, a4, a5, a6, a7, a8⟩ := box9 sb; go_simp; try (with_reducible rfl))
  try simp only [Act.put, List.setIfInBounds_toArray, List.set_cons_zero, List.set_cons_succ]
  refine takeA (i := 6) (v := ?_) rfl (fun _ _ _ h => h) (Or.inl ⟨by rfl, ?_⟩) hHeld ?_
  rotate_left
  · (intro wx hSw; obtain ⟨sa, sb⟩ := hSw; obtain ⟨i0, i1⟩ := box2 sa; obtain ⟨a0, a1, a2, a3, a4, a5, a6, a7, a8⟩ := box9 sb; go_simp; try (with_reducible rfl))
  try simp only [Act.put, List.setIfInBounds_toArray, List.set_cons_zero, List.set_cons_succ]
  refine takeA (i := 7) (v := ?_) rfl (fun _ _ _ h => h) (Or.inl ⟨by rfl, ?_⟩) hHeld ?_
  rotate_left
  · (intro wx hSw; obtain ⟨sa, sb⟩ := hSw; obtain ⟨i0, i1⟩ := box2 sa; obtain ⟨a0, a1, a2, a3, a4, a5, a6, a7, a8⟩ := box9 sb; go_simp; try (with_reducible rfl))
  try simp only [Act.put, List.setIfInBounds_toArray, List.set_cons_zero, List.set_cons_succ]
  refine takeA (i := 8) (v := ?_) rfl (fun _ _ _ h => h) (Or.inl ⟨by rfl, ?_⟩) hHeld ?_
  rotate_left
  · (intro wx hSw; obtain ⟨sa, sb⟩ := hSw; obtain ⟨i0, i1⟩ := box2 sa; obtain ⟨a0, a1, a2, a3, a4, a5, a6, a7, a8⟩ := box9 sb; go_simp; try (with_reducible rfl))
  try simp only [Act.put, List.setIfInBounds_toArray, List.set_cons_zero, List.set_cons_succ]
  refine takeA (i := 9) (v := ?_) rfl (fun _ _ _ h => h) (Or.inl ⟨by rfl, ?_⟩) hHeld ?_
  rotate_left
  · (intro wx hSw; obtain ⟨sa, sb⟩ := hSw; obtain ⟨i0, i1⟩ := box2 sa; obtain ⟨a0, a1, a2, a3, a4, a5, a6, a7, a8⟩ := box9 sb; go_simp; try (with_reducible rfl))
  try simp only [Act.put, List.setIfInBounds_toArray, List.set_cons_zero, List.set_cons_succ]
  refine takeA (i := 10) (v := ?_) rfl (fun _ _ _ h => h) (Or.inl ⟨by rfl, ?_⟩) hHeld ?_
  rotate_left
  · (intro wx hSw; obtain ⟨sa, sb⟩ := hSw; obtain ⟨i0, i1⟩ := box2 sa; obtain ⟨a0, a1, a2, a3, a4, a5, a6, a7, a8⟩ := box9 sb; go_simp; try (with_reducible rfl))
  try simp only [Act.put, List.setIfInBounds_toArray, List.set_cons_zero, List.set_cons_succ]
  refine takeA (i := 11) (v := ?_) rfl (fun _ _ _ h => h) (Or.inl ⟨by rfl, ?_⟩) hHeld ?_
  rotate_left
  · (intro wx hSw; obtain ⟨sa, sb⟩ := hSw; obtain ⟨i0, i1⟩ := box2 sa; obtain ⟨a0, a1, a2, a3, a4, a5, a6, a7, a8⟩ := box9 sb; go_simp; try (with_reducible rfl))
  try simp only [Act.put, List.setIfInBounds_toArray, List.set_cons_zero, List.set_cons_succ]
  refine takeA (i := 12) (v := ?_) rfl (fun _ _ _ h => h) (Or.inl ⟨by rfl, ?_⟩) hHeld ?_
  rotate_left
  · (intro wx hSw; obtain ⟨sa, sb⟩ := hSw; obtain ⟨i0, i1⟩ := box2 sa; obtain ⟨a0, a1, a2, a3, a4, a5, a6, a7, a8⟩ := box9 sb; go_simp; try (with_reducible rfl))
  try simp only [Act.put, List.setIfInBounds_toArray, List.set_cons_zero, List.set_cons_succ]
  refine takeA (i := 13) (v := ?_) rfl (fun _ _ _ h => h) (Or.inl ⟨by rfl, ?_⟩) hHeld ?_
  rotate_left
  · (intro wx hSw; obtain ⟨sa, sb⟩ := hSw; obtain ⟨i0, i1⟩ := box2 sa; obtain ⟨a0, a1, a2, a3, a4, a5, a6, a7, a8⟩ := box9 sb; go_simp; try (with_reducible rfl))
  try simp only [Act.put, List.setIfInBounds_toArray, List.set_cons_zero, List.set_cons_succ]
  refine takeA (i := 14) (v := ?_) rfl (fun _ _ _ h => h) (Or.inl ⟨by rfl, ?_⟩) hHeld ?_
  rotate_left
  · (intro wx hSw; obtain ⟨sa, sb⟩ := hSw; obtain ⟨i0, i1⟩ := box2 sa; obtain ⟨a0, a1, a2, a3, a4, a5, a6, a7, a8⟩ := box9 sb; go_simp; try (with_reducible rfl))
  try simp only [Act.put, List.setIfInBounds_toArray, List.set_cons_zero, List.set_cons_succ]
  refine takeA (i := 15) (v := ?_) rfl (fun _ _ _ h => h) (Or.inl ⟨by rfl, ?_⟩) hHeld ?_
  rotate_left
  · (intro wx hSw; obtain ⟨sa, sb⟩ := hSw; obtain ⟨i0, i1⟩ := box2 sa; obtain ⟨a0, a1, a2, a3, a4, a5, a6, a7, a8⟩ := box9 sb; go_simp; try (with_reducible rfl))
  try simp only [Act.put, List.setIfInBounds_toArray, List.set_cons_zero, List.set_cons_succ]
  refine oneT (i := 16) rfl (by kernel_rfl) (fun KK hK => ?_)
  go_simp
  have ba := below_a1' (Below.refl Y0.heap.size Y0) (.cells #[.int .u8 0, .int .u8 0, .int .u16 0, .int .u8 0, .int .u8 0, .int .u16 0, .int .u32 0, .int .u32 0, .int .u64 0, .slice none 0 0, .slice none 0 0, .slice none 0 0] 61)
  have k10 := Blk.new Y0 #[.int .u8 0, .int .u8 0, .int .u16 0, .int .u8 0, .int .u8 0, .int .u16 0, .int .u32 0, .int .u32 0, .int .u64 0, .slice none 0 0, .slice none 0 0, .slice none 0 0] 61
  have hg10 := k6.lt
  have hg10' := k3.lt
  replace k1 := k1.step ba
  replace k2 := k2.step ba
  replace k3 := k3.step ba
  replace k6 := k6.step ba
  replace b := below_step b ba
  clear ba hHeld
  generalize Y0.alloc (.cells #[.int .u8 0, .int .u8 0, .int .u16 0, .int .u8 0, .int .u8 0, .int .u16 0, .int .u32 0, .int .u32 0, .int .u64 0, .slice none 0 0, .slice none 0 0, .slice none 0 0] 61) = Y1 at b k1 k2 k3 k6 k10 ⊢
  generalize Y0.heap.size = g10 at k10 hg10 hg10' ⊢
  refine hK.out _ _ (fun _ => ⟨k1, k6⟩) ?_
  clear hK KK
  try simp only [Act.put, List.setIfInBounds_toArray, List.set_cons_zero, List.set_cons_succ]
  obtain ⟨u0, u1, u2, u3, u4, u5, u6, u7, u8, u9, u10, u11⟩ := box12 k10
  have y0 := k10.frozen 0
  have y1 := k10.frozen 1
  have y2 := k10.frozen 2
  have y3 := k10.frozen 3
  have y4 := k10.frozen 4
  have y5 := k10.frozen 5
  have y6 := k10.frozen 6
  have y7 := k10.frozen 7
  have y8 := k10.frozen 8
  have y9 := k10.frozen 9
  have y10 := k10.frozen 10
  have y11 := k10.frozen 11
  refine oneT (i := 17) rfl (by kernel_rfl) (fun KK hK => ?_)
  go_simp
  have gs := grown_set12 Y1 g10 (.int .u8 (mg : Nat)) (.int .u8 (op : Nat)) (.int .u16 (kl : Nat)) (.int .u8 (el : Nat)) (.int .u8 (ty : Nat)) (.int .u16 (st : Nat)) (.int .u32 (bl : Nat)) (.int .u32 (oq : Nat)) (.int .u64 (cas : Nat)) (.slice X el cx) (.slice K kl ck) (.slice V nv cv)
  have kf := blk_set12 k10 (.int .u8 (mg : Nat)) (.int .u8 (op : Nat)) (.int .u16 (kl : Nat)) (.int .u8 (el : Nat)) (.int .u8 (ty : Nat)) (.int .u16 (st : Nat)) (.int .u32 (bl : Nat)) (.int .u32 (oq : Nat)) (.int .u64 (cas : Nat)) (.slice X el cx) (.slice K kl ck) (.slice V nv cv)
  replace k1 := k1.leftC gs (by omega)
  replace k2 := k2.leftC gs (by omega)
  replace k3 := k3.leftC gs (by omega)
  replace k6 := k6.leftC gs (by omega)
  replace b := b.trans (below_grown gs (by omega) k10.lt)
  clear gs k10 u0 u1 u2 u3 u4 u5 u6 u7 u8 u9 u10 u11 y0 y1 y2 y3 y4 y5 y6 y7 y8 y9 y10 y11
  generalize (((((((((((Y1.setCell ⟨g10, 0, none⟩ (.int .u8 (mg : Nat))).setCell ⟨g10, 1, none⟩ (.int .u8 (op : Nat))).setCell ⟨g10, 2, none⟩ (.int .u16 (kl : Nat))).setCell ⟨g10, 3, none⟩ (.int .u8 (el : Nat))).setCell ⟨g10, 4, none⟩ (.int .u8 (ty : Nat))).setCell ⟨g10, 5, none⟩ (.int .u16 (st : Nat))).setCell ⟨g10, 6, none⟩ (.int .u32 (bl : Nat))).setCell ⟨g10, 7, none⟩ (.int .u32 (oq : Nat))).setCell ⟨g10, 8, none⟩ (.int .u64 (cas : Nat))).setCell ⟨g10, 9, none⟩ (.slice X el cx)).setCell ⟨g10, 10, none⟩ (.slice K kl ck)).setCell ⟨g10, 11, none⟩ (.slice V nv cv) = Y2 at b k1 k2 k3 k6 kf ⊢
  refine hK.out _ _ (fun _ => ⟨k1, k6⟩) ?_
  clear hK KK
  try simp only [Act.put, List.setIfInBounds_toArray, List.set_cons_zero, List.set_cons_succ]
  refine doneT (by kernel_rfl) ?_ _
  refine NoPanic.normal ?_
  clear k6
  obtain ⟨h0, h1, h2, h3, h4, h5, h6, h7, h8, h9, h10, h11⟩ := box12 kf
  go_wp2_with fail
  refine (HRQ.out Y2 b).mono ?_
  rintro e w5 ⟨K2, V2, nk2, ck2, nv2, cv2, rfl, oK, oV, b1⟩
  have hB5 : w.heap.size + 3 ≤ Y2.heap.size := k3.lt
  replace k1 := k1.step b1
  replace k2 := k2.step b1
  replace k3 := k3.step b1
  replace b := below_step b b1
  replace oK := oK.more hB5
  replace oV := oV.more hB5
  clear b1 hB5 kf h0 h1 h2 h3 h4 h5 h6 h7 h8 h9 h10 h11
  go_upto_region 15 with fail
  have k11 := Blk.new w5 #[.int .i64 q.op, .bool q.qt, .bool q.fu, .int .i64 q.bd, .int .u32 (q.oq : Nat), .slice K2 nk2 ck2, .slice V2 nv2 cv2, .int .u32 (q.fl : Nat), .int .u32 (q.ex : Nat), .int .u64 (q.cs : Nat), .int .u64 (q.dl : Nat), .int .u64 (q.ni : Nat)] 26
  have bw := below_a1' (Below.refl w5.heap.size w5) (.cells #[.int .i64 q.op, .bool q.qt, .bool q.fu, .int .i64 q.bd, .int .u32 (q.oq : Nat), .slice K2 nk2 ck2, .slice V2 nv2 cv2, .int .u32 (q.fl : Nat), .int .u32 (q.ex : Nat), .int .u64 (q.cs : Nat), .int .u64 (q.dl : Nat), .int .u64 (q.ni : Nat)] 26)
  have hg11 := k3.lt
  replace k1 := k1.step bw
  replace k2 := k2.step bw
  replace k3 := k3.step bw
  replace b := below_step b bw
  generalize w5.alloc (.cells #[.int .i64 q.op, .bool q.qt, .bool q.fu, .int .i64 q.bd, .int .u32 (q.oq : Nat), .slice K2 nk2 ck2, .slice V2 nv2 cv2, .int .u32 (q.fl : Nat), .int .u32 (q.ex : Nat), .int .u64 (q.cs : Nat), .int .u64 (q.dl : Nat), .int .u64 (q.ni : Nat)] 26) = W6 at b k1 k2 k3 k11 bw ⊢
  have z0' : (W6.alloc (.cells #[] 5)).cell? ⟨w.heap.size, 0, none⟩ = some (.slice A n c) := (box2 (k1.alloc _)).1
  have lt11 := k11.lt
  have o0 : Own (W6.alloc (.cells #[] 5)) (w5.heap.size + 1) (some ⟨W6.heap.size, 0, none⟩) 0 0 [] := Own.emptyK W6 _ _ rfl lt11
  have k1a := k1.alloc (.cells #[] 5)
  have k2a := k2.alloc (.cells #[] 5)
  have k3a := k3.alloc (.cells #[] 5)
  have k11a := k11.alloc (.cells #[] 5)
  have ba := below_a1' b (.cells #[] 5)
  have bwa := below_a1 bw (Nat.le_refl _) (.cells #[] 5)
  have ra := HYR.out _ ba
  have lb := HLN.out
  go_wp2_with (at_builtin; refine wpList_app8 _ rfl _ _ rfl (w5.heap.size + 1) (some ⟨W6.heap.size, 0, none⟩) 0 0 [] rfl o0 _ Y (n - (24 + bl)) cy (l.drop (24 + bl)) rfl ra (by omega) (by rw [World.size_alloc]; omega) ?_)
  intro A3 c3 w7 o3 b3
  clear z0' o0 ra
  replace k1 : Blk w7 w.heap.size #[.slice A n c, .bool false] 47 := (b3.block _ (by omega)).trans k1a
  replace k2 : Blk w7 (w.heap.size + 1) #[.slice none 0 0, .bool false] 47 := (b3.block _ (by omega)).trans k2a
  replace k3 : Blk w7 (w.heap.size + 2) #[.int .i64 0, .bool false, .bool false, .int .i64 0, .int .u32 0, .slice none 0 0, .slice none 0 0, .int .u32 0, .int .u32 0, .int .u64 0, .int .u64 0, .int .u64 0] 26 := (b3.block _ (by omega)).trans k3a
  replace k11 : Blk w7 w5.heap.size #[.int .i64 q.op, .bool q.qt, .bool q.fu, .int .i64 q.bd, .int .u32 (q.oq : Nat), .slice K2 nk2 ck2, .slice V2 nv2 cv2, .int .u32 (q.fl : Nat), .int .u32 (q.ex : Nat), .int .u64 (q.cs : Nat), .int .u64 (q.dl : Nat), .int .u64 (q.ni : Nat)] 26 := (b3.block _ (by omega)).trans k11a
  replace oK := Own.below oK (bwa.trans (b3.mono (by omega)))
  replace oV := Own.below oV (bwa.trans (b3.mono (by omega)))
  replace b := ba.trans (b3.mono (by omega))
  clear k1a k2a k3a k11a bw bwa ba b3 lt11
  obtain ⟨z0, z1⟩ := box2 k1
  have x0 := k1.frozen 0
  go_upto_region 16 with fail
  have gq := rdr_grown_set w7 w.heap.size 0 (.slice A3 (n - (24 + bl)) c3)
  replace b := b.trans (below_grown gq (Nat.le_refl _) k1.lt)
  replace k1 : Blk (w7.setCell ⟨w.heap.size, 0, none⟩ (.slice A3 (n - (24 + bl)) c3)) w.heap.size #[.slice A3 (n - (24 + bl)) c3, .bool false] 47 := k1.set_ 0 _
  replace k2 := k2.leftC gq (by omega)
  replace k3 := k3.leftC gq (by omega)
  replace k11 := k11.leftC gq (by omega)
  replace o3 := o3.kept gq (by omega)
  replace oK := oK.kept gq (by omega)
  replace oV := oV.kept gq (by omega)
  clear gq z0 z1 x0
  generalize w7.setCell ⟨w.heap.size, 0, none⟩ (.slice A3 (n - (24 + bl)) c3) = W8 at k1 k2 k3 k11 o3 oK oV b ⊢
  refine wp_region_noPanic ?_
  refine region_T (fun wx => Blk wx w.heap.size #[.slice A3 (n - (24 + bl)) c3, .bool false] 47 ∧ Blk wx w5.heap.size #[.int .i64 q.op, .bool q.qt, .bool q.fu, .int .i64 q.bd, .int .u32 (q.oq : Nat), .slice K2 nk2 ck2, .slice V2 nv2 cv2, .int .u32 (q.fl : Nat), .int .u32 (q.ex : Nat), .int .u64 (q.cs : Nat), .int .u64 (q.dl : Nat), .int .u64 (q.ni : Nat)] 26) 6 (by kernel_rfl) ?_
  have bD : Below W8.heap.size W8 W8.drew := (Below.refl _ _).drew
  replace k1 := k1.step bD
  replace k2 := k2.step bD
  replace k3 := k3.step bD
  replace k11 := k11.step bD
  replace o3 := Own.step o3 bD
  replace oK := Own.step oK bD
  replace oV := Own.step oV bD
  replace b := below_step b bD
  clear bD
  have hHeld := And.intro k1 k11
  generalize W8.drew = Y0' at b k1 k2 k3 k11 o3 oK oV hHeld ⊢
  refine takeA (i := 0) (v := ?_) rfl (fun _ _ _ h => h) (Or.inl ⟨by rfl, ?_⟩) hHeld ?_
  rotate_left
  · (intro wx hSw; obtain ⟨sa, sb⟩ := hSw; obtain ⟨i0, i1⟩ := box2 sa; obtain ⟨a0, a1, a2, a3, a4, a5, a6, a7, a8, a9, a10, a11⟩ := box12 sb; go_simp; try (with_reducible rfl))
  try simp only [Act.put, List.setIfInBounds_toArray, List.set_cons_zero, List.set_cons_succ]
  refine takeA (i := 1) (v := ?_) rfl (fun _ _ _ h => h) (Or.inl ⟨by rfl, ?_⟩) hHeld ?_
  rotate_left
  · (intro wx hSw; obtain ⟨sa, sb⟩ := hSw; obtain ⟨i0, i1⟩ := box2 sa; obtain ⟨a0, a1, a2, a3, a4, a5, a6, a7, a8, a9, a10, a11⟩ := box12 sb; go_simp; try (with_reducible rfl))
  try simp only [Act.put, List.setIfInBounds_toArray, List.set_cons_zero, List.set_cons_succ]
  obtain ⟨u0, u1⟩ := box2 k2
  have y0 := k2.frozen 0
  have y1 := k2.frozen 1
  refine oneT (i := 2) rfl (by kernel_rfl) (fun KK hK => ?_)
  go_simp
  have gs := grown_set2 Y0' (w.heap.size + 1) (.slice A3 (n - (24 + bl)) c3) (.bool false)
  replace b := b.trans (below_grown gs (by omega) k2.lt)
  replace k2 := blk_set2 k2 (.slice A3 (n - (24 + bl)) c3) (.bool false)
  replace k1 := k1.leftC gs (by omega)
  replace k3 := k3.leftC gs (by omega)
  replace k11 := k11.leftC gs (by omega)
  replace o3 := o3.kept gs (by omega)
  replace oK := oK.kept gs (by omega)
  replace oV := oV.kept gs (by omega)
  clear gs u0 u1 y0 y1 hHeld
  generalize (Y0'.setCell ⟨w.heap.size + 1, 0, none⟩ (.slice A3 (n - (24 + bl)) c3)).setCell ⟨w.heap.size + 1, 1, none⟩ (.bool false) = Y1' at b k1 k2 k3 k11 o3 oK oV ⊢
  have hHeld := And.intro k1 k11
  refine hK.out _ _ (fun _ => hHeld) ?_
  clear hK KK
  try simp only [Act.put, List.setIfInBounds_toArray, List.set_cons_zero, List.set_cons_succ]
  obtain ⟨u0, u1, u2, u3, u4, u5, u6, u7, u8, u9, u10, u11⟩ := box12 k3
  have y0 := k3.frozen 0
  have y1 := k3.frozen 1
  have y2 := k3.frozen 2
  have y3 := k3.frozen 3
  have y4 := k3.frozen 4
  have y5 := k3.frozen 5
  have y6 := k3.frozen 6
  have y7 := k3.frozen 7
  have y8 := k3.frozen 8
  have y9 := k3.frozen 9
  have y10 := k3.frozen 10
  have y11 := k3.frozen 11
  refine oneT (i := 3) rfl (by kernel_rfl) (fun KK hK => ?_)
  go_simp
  have gs := grown_set12 Y1' (w.heap.size + 2) (.int .i64 q.op) (.bool q.qt) (.bool q.fu) (.int .i64 q.bd) (.int .u32 (q.oq : Nat)) (.slice K2 nk2 ck2) (.slice V2 nv2 cv2) (.int .u32 (q.fl : Nat)) (.int .u32 (q.ex : Nat)) (.int .u64 (q.cs : Nat)) (.int .u64 (q.dl : Nat)) (.int .u64 (q.ni : Nat))
  replace b := b.trans (below_grown gs (by omega) k3.lt)
  replace k3 := blk_set12 k3 (.int .i64 q.op) (.bool q.qt) (.bool q.fu) (.int .i64 q.bd) (.int .u32 (q.oq : Nat)) (.slice K2 nk2 ck2) (.slice V2 nv2 cv2) (.int .u32 (q.fl : Nat)) (.int .u32 (q.ex : Nat)) (.int .u64 (q.cs : Nat)) (.int .u64 (q.dl : Nat)) (.int .u64 (q.ni : Nat))
  replace k1 := k1.leftC gs (by omega)
  replace k2 := k2.leftC gs (by omega)
  replace k11 := k11.leftC gs (by omega)
  replace o3 := o3.kept gs (by omega)
  replace oK := oK.kept gs (by omega)
  replace oV := oV.kept gs (by omega)
  clear gs hHeld u0 u1 u2 u3 u4 u5 u6 u7 u8 u9 u10 u11 y0 y1 y2 y3 y4 y5 y6 y7 y8 y9 y10 y11
  generalize (((((((((((Y1'.setCell ⟨w.heap.size + 2, 0, none⟩ (.int .i64 q.op)).setCell ⟨w.heap.size + 2, 1, none⟩ (.bool q.qt)).setCell ⟨w.heap.size + 2, 2, none⟩ (.bool q.fu)).setCell ⟨w.heap.size + 2, 3, none⟩ (.int .i64 q.bd)).setCell ⟨w.heap.size + 2, 4, none⟩ (.int .u32 (q.oq : Nat))).setCell ⟨w.heap.size + 2, 5, none⟩ (.slice K2 nk2 ck2)).setCell ⟨w.heap.size + 2, 6, none⟩ (.slice V2 nv2 cv2)).setCell ⟨w.heap.size + 2, 7, none⟩ (.int .u32 (q.fl : Nat))).setCell ⟨w.heap.size + 2, 8, none⟩ (.int .u32 (q.ex : Nat))).setCell ⟨w.heap.size + 2, 9, none⟩ (.int .u64 (q.cs : Nat))).setCell ⟨w.heap.size + 2, 10, none⟩ (.int .u64 (q.dl : Nat))).setCell ⟨w.heap.size + 2, 11, none⟩ (.int .u64 (q.ni : Nat)) = Y2' at b k1 k2 k3 k11 o3 oK oV ⊢
  have hHeld := And.intro k1 k11
  refine hK.out _ _ (fun _ => hHeld) ?_
  clear hK KK
  try simp only [Act.put, List.setIfInBounds_toArray, List.set_cons_zero, List.set_cons_succ]
  refine oneT (i := 4) rfl (by kernel_rfl) (fun KK hK => ?_)
  go_simp
  refine hK.out _ _ (fun _ => hHeld) ?_
  clear hK KK
  try simp only [Act.put, List.setIfInBounds_toArray, List.set_cons_zero, List.set_cons_succ]
  refine oneT (i := 5) rfl (by kernel_rfl) (fun KK hK => ?_)
  go_simp
  refine hK.out _ _ (fun _ => hHeld) ?_
  clear hK KK
  try simp only [Act.put, List.setIfInBounds_toArray, List.set_cons_zero, List.set_cons_succ]
  refine doneT (by kernel_rfl) ?_ _
  refine NoPanic.normal ?_
  obtain ⟨t0, t1⟩ := box2 k2
  obtain ⟨s0, s1, s2, s3, s4, s5, s6, s7, s8, s9, s10, s11⟩ := box12 k3
  clear hHeld k1 k2 k3 k11
  replace o3 := o3.more (B' := w.heap.size) (by omega)
  replace oK := oK.more (B' := w.heap.size) (by omega)
  replace oV := oV.more (B' := w.heap.size) (by omega)
  go_wp2_with fail
  refine bodyPost_ret (v := .tuple #[.agg #[.slice A3 (n - (24 + bl)) c3, .bool false], .agg #[.int .i64 q.op, .bool q.qt, .bool q.fu, .int .i64 q.bd, .int .u32 (q.oq : Nat), .slice K2 nk2 ck2, .slice V2 nv2 cv2, .int .u32 (q.fl : Nat), .int .u32 (q.ex : Nat), .int .u64 (q.cs : Nat), .int .u64 (q.dl : Nat), .int .u64 (q.ni : Nat)], .bool true, .int .i64 0]) (by simp [results, Try.results84, go_sem, t0, t1, s0, s1, s2, s3, s4, s5, s6, s7, s8, s9, s10, s11]) rfl ?_
  unfold RnYes
  rw [← HBL.out]
  exact ⟨K2, V2, nk2, ck2, nv2, cv2, A3, c3, rfl, o3, oK, oV, b⟩
end Go.Proofs.Ytnghmgbmflcngaa

/- Parser.Next on bytes. Conditions: typed in each theorem. -/
import Derived.Test.YtnghmgbmflcngaaPrp
import Derived.Test.YtnghmgbmflcngaaSlc
namespace Go.Proofs.Ytnghmgbmflcngaa
set_option linter.unusedVariables false
open Go.RowKit

/-- Is a header that of a request's frame? -/
def rightB (mg ty : Nat) : Bool := mg == 128 && ty == 0
set_option maxRecDepth 100000 in
set_option maxHeartbeats 3000000 in
theorem pright_any (mg op kl el ty st bl oq cas : Nat) (w : World) : Calls Try.prog 98 #[.agg #[.int .u8 (mg : Nat), .int .u8 (op : Nat), .int .u16 (kl : Nat), .int .u8 (el : Nat), .int .u8 (ty : Nat), .int .u16 (st : Nat), .int .u32 (bl : Nat), .int .u32 (oq : Nat), .int .u64 (cas : Nat)]] w (BoxQ' (.bool (rightB mg ty)) w) := by
  unfold rightB
  by_cases h : mg = 128
  · have e1 : ((mg : Int) == 128) = true := beq_iff_eq.2 (by omega)
    by_cases h2 : ty = 0
    · have e2 : ((ty : Int) == 0) = true := beq_iff_eq.2 (by omega)
      have HR : Hid ((mg == 128 && ty == 0) = true) := Lib.hid (by subst h; subst h2; rfl)
      clear h h2
      go_enter Try.func98, Try.ntmps98
      go_wp2_with fail
      go_ret
      exact ⟨by rw [HR.out]; rfl, below_a1' (Below.refl _ _) _⟩
    · have e2 : ((ty : Int) == 0) = false := beq_eq_false_iff_ne.2 (by omega)
      have HR : Hid ((mg == 128 && ty == 0) = false) := Lib.hid (by rw [Bool.and_eq_false_iff]; right; exact beq_eq_false_iff_ne.2 h2)
      clear h h2
      go_enter Try.func98, Try.ntmps98
      go_wp2_with fail
      go_ret
      exact ⟨by rw [HR.out]; rfl, below_a1' (Below.refl _ _) _⟩
  · have e1 : ((mg : Int) == 128) = false := beq_eq_false_iff_ne.2 (by omega)
    have HR : Hid ((mg == 128 && ty == 0) = false) := Lib.hid (by rw [Bool.and_eq_false_iff]; left; exact beq_eq_false_iff_ne.2 h)
    clear h
    go_enter Try.func98, Try.ntmps98
    go_wp2_with fail
    go_ret
    exact ⟨by rw [HR.out]; rfl, below_a1' (Below.refl _ _) _⟩
/-- Next on what is no request: the parser is broken from then on. -/
def NextBad (g : Nat) (w : World) (e : Ending) (w' : World) : Prop := e = .returned (.tuple #[.agg #[.int .i64 0, .bool false, .bool false, .int .i64 0, .int .u32 0, .slice none 0 0, .slice none 0 0, .int .u32 0, .int .u32 0, .int .u64 0, .int .u64 0, .int .u64 0], .bool false, .int .i64 300]) ∧ PrsA w' g none 0 0 [] true ∧ w.grownBy w' (some g)
def GhP (mg op kl el ty st bl oq cas : Nat) (er : Int) (w : World) (e : Ending) (w' : World) : Prop := e = .returned (.tuple #[.agg #[.int .u8 (mg : Nat), .int .u8 (op : Nat), .int .u16 (kl : Nat), .int .u8 (el : Nat), .int .u8 (ty : Nat), .int .u16 (st : Nat), .int .u32 (bl : Nat), .int .u32 (oq : Nat), .int .u64 (cas : Nat)], .int .i64 er]) ∧ Below w.heap.size w w'
theorem needN_of {l : List UInt8} (h : needE l = 0) : needN l = 24 + fld l 8 4 := by unfold needN; rw [if_pos h]
theorem need_290 {l : List UInt8} (h : needE l = 290) : 24 ≤ l.length ∧ mayB (fld l 0 1) (fld l 2 2) (fld l 4 1) (fld l 8 4) = false := by
  unfold needE at h
  split at h
  · cases h
  · split at h
    · split at h <;> cases h
    · rename_i h1 h2
      exact ⟨by omega, by simpa using h2⟩
theorem need_3 {l : List UInt8} (h : needE l = 3) : 24 ≤ l.length ∧ mayB (fld l 0 1) (fld l 2 2) (fld l 4 1) (fld l 8 4) = true ∧ 2048 < fld l 8 4 := by
  unfold needE at h
  split at h
  · cases h
  · split at h
    · split at h
      · exact ⟨by omega, by assumption, by assumption⟩
      · cases h
    · cases h
theorem needE_cases (l : List UInt8) : needE l = 9 ∨ needE l = 290 ∨ needE l = 3 ∨ needE l = 0 := by
  unfold needE
  split
  · exact Or.inl rfl
  · split
    · split
      · exact Or.inr (Or.inr (Or.inl rfl))
      · exact Or.inr (Or.inr (Or.inr rfl))
    · exact Or.inr (Or.inl rfl)
theorem needE_take {l : List UInt8} {N : Nat} (h : 24 ≤ N) (hn : N ≤ l.length) : needE (l.take N) = needE l := by
  unfold needE
  rw [List.length_take, Nat.min_eq_left hn, fld_take (by omega), fld_take (by omega), fld_take (by omega), fld_take (by omega)]
  have h1 : (N < 24) = (l.length < 24) := by rw [eq_iff_iff]; omega
  simp only [h1]
theorem que_own (A : Option Addr) (c k : Nat) : (Value.slice (if c = k then A else A.map (·.add k)) 0 0).ownBlock = (Value.slice A 0 0).ownBlock := by
  split
  · rfl
  · cases A with
    | none => rfl
    | some a => show some (a.add k).block = some a.block; rw [block_add]
/-- A queue cut: s[k:]. -/
theorem slc_que {w : World} {B n c : Nat} {A : Option Addr} {l : List UInt8} (h : Que w B A n c l) (i : Nat) (I : Int) (hI : I = (i : Nat)) (hi : i ≤ n) : ∃ X cx, (∀ wx, (Instr.slice 23 (.slice A n c) (some (.int .i64 I)) none none).run Try.prog wx = .ok (.slice X (n - i) cx) wx) ∧ (∀ w' B', Que w' B' A n c l → Que w' B' X (n - i) cx (l.drop i)) ∧ (Value.slice X 0 0).ownBlock = (Value.slice A 0 0).ownBlock := by
  have hc := h.rd.cap
  have hcut : ∀ w' B', Que w' B' A n c l → _ := fun w' B' h' => h'.cut (k := i) hi
  refine ⟨_, _, fun wx => ?_, hcut, que_own A c i⟩
  rw [run_slice_l (P := Try.prog) wx _ A n c un8 .i64 I (by omega) (by omega), sz8 _ el8]
  simp [Result.andThen, sliced, hI]
theorem Que.keptO {w w' : World} {B n c : Nat} {A : Option Addr} {l : List UInt8} {row : Option Nat} (h : Que w B A n c l) (hg : w.grownBy w' row) (hne : ∀ k, (Value.slice A n c).ownBlock = some k → row ≠ some k) : Que w' B A n c l := by
  refine ⟨h.1, ?_⟩
  rcases h.2 with h' | ⟨g, i, cur, hv, hgb, hh, r⟩
  · exact .inl h'
  · exact .inr ⟨g, i, cur, hv, hgb, (hg.block g (Array.getElem?_eq_some_iff.1 hh).1 (fun e => hne g (by rw [hv]; rfl) e.symm)).trans hh, r⟩
/-- Bytes do not lie in a box that holds none. -/
theorem rd_off {w : World} {B n c g i : Nat} {A : Option Addr} {l : List UInt8} {v0 v1 u : Value} {T : TypeId} (r : Rd w B A n c l) (kb : Blk w g #[v0, v1] T) (h0 : ∀ x, v0 ≠ cb x) (h1 : ∀ x, v1 ≠ cb x) : Rd (w.setCell ⟨g, i, none⟩ u) B A n c l := by
  obtain ⟨a1, a2, a3, a4, a5, a6⟩ := r
  refine ⟨a1, a2, a3, a4, a5, fun ad j v hA hu => ?_⟩
  have hc := a6 ad j v hA hu
  by_cases e : (ad.add j).block = g
  · exfalso
    rw [cbs_get?] at hu
    obtain ⟨x, hx, rfl⟩ := Option.map_eq_some_iff.1 hu
    have hb : w.heap[(ad.add j).block]? = some (.cells #[v0, v1] T (0, 0)) := by rw [e]; exact kb
    unfold World.cell? at hc
    rw [hb] at hc
    simp only at hc
    split at hc
    · cases hc
    · generalize (ad.add j).off = o at hc
      match o, hc with
      | 0, hc => exact h0 x (by simpa using hc)
      | 1, hc => exact h1 x (by simpa using hc)
      | k + 2, hc => simp at hc
  · exact (World.cell?_setCell_far w _ _ u (fun e' => e e'.symm)).trans hc
def GtP (mg op kl el ty st bl oq cas nx nk nv N : Nat) (lx lk lv : List UInt8) (w : World) (e : Ending) (w' : World) : Prop := ∃ (X : Option Addr) (cx : Nat) (K : Option Addr) (ck : Nat) (V : Option Addr) (cv : Nat), e = .returned (.tuple #[.agg #[.int .u8 (mg : Nat), .int .u8 (op : Nat), .int .u16 (kl : Nat), .int .u8 (el : Nat), .int .u8 (ty : Nat), .int .u16 (st : Nat), .int .u32 (bl : Nat), .int .u32 (oq : Nat), .int .u64 (cas : Nat), .slice X nx cx, .slice K nk ck, .slice V nv cv], .int .i64 (N : Nat), .int .i64 0]) ∧
  Rd w' w'.heap.size X nx cx lx ∧ Rd w' w'.heap.size K nk ck lk ∧ Rd w' w'.heap.size V nv cv lv ∧ Below w.heap.size w w'
/-- The lists of the frame that bytes begin with. -/
def fxB (l : List UInt8) : List UInt8 := (l.drop 24).take (fld l 4 1)
def fkB (l : List UInt8) : List UInt8 := ((l.drop 24).drop (fld l 4 1)).take (fld l 2 2)
def fvB (l : List UInt8) : List UInt8 := ((l.drop 24).take (fld l 8 4)).drop (fld l 4 1 + fld l 2 2)
theorem lists_take {l : List UInt8} {N : Nat} (hN : N = 24 + fld l 8 4) (hm : fld l 2 2 + fld l 4 1 ≤ fld l 8 4) : fxB (l.take N) = fxB l ∧ fkB (l.take N) = fkB l ∧ fvB (l.take N) = fvB l := by
  unfold fxB fkB fvB
  rw [fld_take (by omega), fld_take (by omega), fld_take (by omega)]
  have e : (l.take N).drop 24 = (l.drop 24).take (fld l 8 4) := by rw [List.drop_take, show N - 24 = fld l 8 4 by omega]
  rw [e]
  refine ⟨?_, ?_, ?_⟩
  · rw [List.take_take, Nat.min_eq_left (by omega)]
  · rw [List.drop_take, List.take_take, Nat.min_eq_left (by omega)]
  · rw [List.take_take, Nat.min_self]
def ReqN (op' : Int) (qt' fu' : Bool) (bd' : Int) (oq' : Nat) (lk lv : List UInt8) (fl' ex' cs' dl' ini' : Nat) (w : World) (e : Ending) (w' : World) : Prop :=
  ∃ (K2 V2 : Option Addr) (nk2 ck2 nv2 cv2 : Nat), e = .returned (.agg #[.int .i64 op', .bool qt', .bool fu', .int .i64 bd', .int .u32 (oq' : Nat), .slice K2 nk2 ck2, .slice V2 nv2 cv2, .int .u32 (fl' : Nat), .int .u32 (ex' : Nat), .int .u64 (cs' : Nat), .int .u64 (dl' : Nat), .int .u64 (ini' : Nat)]) ∧ Own w' w.heap.size K2 nk2 ck2 lk ∧ Own w' w.heap.size V2 nv2 cv2 lv ∧ Below w.heap.size w w'
/-- Next on a request's frame: what it tells, and what is left. -/
def NextOk (g N n : Nat) (A : Option Addr) (l : List UInt8) (op' : Int) (qt' fu' : Bool) (bd' : Int) (oq' : Nat) (lk' lv' : List UInt8) (fl' ex' cs' dl' ini' : Nat) (w : World) (e : Ending) (w' : World) : Prop :=
  ∃ (K2 V2 : Option Addr) (nk2 ck2 nv2 cv2 : Nat) (X3 : Option Addr) (cx3 : Nat), e = .returned (.tuple #[reqV op' qt' fu' bd' oq' (.slice K2 nk2 ck2) (.slice V2 nv2 cv2) fl' ex' cs' dl' ini', .bool true, .int .i64 0]) ∧ PrsA w' g X3 (n - N) cx3 (l.drop N) false ∧
    Own w' w.heap.size K2 nk2 ck2 lk' ∧ Own w' w.heap.size V2 nv2 cv2 lv' ∧ w.grownBy w' (some g) ∧ (Value.slice X3 0 0).ownBlock = (Value.slice A 0 0).ownBlock
set_option maxRecDepth 100000 in
set_option maxHeartbeats 3000000 in
theorem next_bad_m (g n c : Nat) (A : Option Addr) (l : List UInt8) (w : World) (h : PrsA w g A n c l false) (hn : needE l = 290) : Calls Try.prog 49 #[.pointer (some ⟨g, 0, none⟩)] w (NextBad g w) := by
  have HC : Hid (∀ W, Rd W W.heap.size A n c l → Calls Try.prog 96 #[.slice A n c] W (NeedQ (needN l : Nat) 290 W)) := Lib.hid (fun W r => hn ▸ need_any A n c l W r)
  have hh := need_290 hn
  have HGH : Hid (∀ W, Rd W W.heap.size A n c l → Calls Try.prog 97 #[.slice A n c] W fun e w' => e = .returned (.tuple #[.agg #[.int .u8 0, .int .u8 0, .int .u16 0, .int .u8 0, .int .u8 0, .int .u16 0, .int .u32 0, .int .u32 0, .int .u64 0], .int .i64 290]) ∧ Below W.heap.size W w') := Lib.hid (fun W r => gh_bad A n c l W r (by rw [← r.len]; exact hh.1) hh.2)
  clear hh hn
  have k2 := Blk.new w #[.int .i64 0, .bool false, .bool false, .int .i64 0, .int .u32 0, .slice none 0 0, .slice none 0 0, .int .u32 0, .int .u32 0, .int .u64 0, .int .u64 0, .int .u64 0] 26
  have b := below_a1' (Below.refl w.heap.size w) (.cells #[.int .i64 0, .bool false, .bool false, .int .i64 0, .int .u32 0, .slice none 0 0, .slice none 0 0, .int .u32 0, .int .u32 0, .int .u64 0, .int .u64 0, .int .u64 0] 26)
  have kb := h.1.step b
  have hq := h.2.below b
  have hlt := h.lt
  have ho := h.2.owner
  clear h
  go_enter Try.func49, Try.ntmps49
  go_upto_region 1 with fail
  generalize w.alloc (.cells #[.int .i64 0, .bool false, .bool false, .int .i64 0, .int .u32 0, .slice none 0 0, .slice none 0 0, .int .u32 0, .int .u32 0, .int .u64 0, .int .u64 0, .int .u64 0] 26) = W0 at k2 b kb hq ⊢
  obtain ⟨p0, p1⟩ := box2 kb
  go_wp2_with fail
  refine (HC.out W0 hq.rd).mono ?_
  rintro e w1 ⟨rfl, bb⟩
  replace k2 := k2.step bb
  replace kb := kb.step bb
  replace hq := Que.below hq bb
  replace b := below_step b bb
  clear bb p0 p1
  obtain ⟨p0, p1⟩ := box2 kb
  go_wp2_with fail
  refine (HGH.out w1 hq.rd).mono ?_
  rintro e w2 ⟨rfl, bb⟩
  replace k2 := k2.step bb
  replace kb := kb.step bb
  replace hq := Que.below hq bb
  replace b := below_step b bb
  clear bb p0 p1
  obtain ⟨p0, p1⟩ := box2 kb
  go_upto_region 9 with fail
  have k7 := Blk.new w2 #[.int .u8 0, .int .u8 0, .int .u16 0, .int .u8 0, .int .u8 0, .int .u16 0, .int .u32 0, .int .u32 0, .int .u64 0] 59
  have bb := below_a1' (Below.refl w2.heap.size w2) (.cells #[.int .u8 0, .int .u8 0, .int .u16 0, .int .u8 0, .int .u8 0, .int .u16 0, .int .u32 0, .int .u32 0, .int .u64 0] 59)
  have hg7 := kb.lt
  replace k2 := k2.step bb
  replace kb := kb.step bb
  replace hq := Que.below hq bb
  replace b := below_step b bb
  clear bb p0 p1
  generalize w2.alloc (.cells #[.int .u8 0, .int .u8 0, .int .u16 0, .int .u8 0, .int .u8 0, .int .u16 0, .int .u32 0, .int .u32 0, .int .u64 0] 59) = W7 at k2 b kb hq k7 ⊢
  generalize w2.heap.size = g7 at k7 hg7 ⊢
  obtain ⟨p0, p1⟩ := box2 kb
  obtain ⟨d0, d1, d2, d3, d4, d5, d6, d7, d8⟩ := box9 k7
  have ya := kb.frozen 0
  have yb := kb.frozen 1
  go_upto_region 11 with fail
  have gq := grown_trans (rdr_grown_set W7 g 1 (.bool true)) (rdr_grown_set _ g 0 (.slice none 0 0))
  have kq : Blk ((W7.setCell ⟨g, 1, none⟩ (.bool true)).setCell ⟨g, 0, none⟩ (.slice none 0 0)) g #[.slice none 0 0, .bool true] 127 := (kb.set_ 1 _).set_ 0 _
  have G := grown_trans (grown_of_below (row := some g) b) gq
  replace k2 := k2.leftC gq (by omega)
  clear ya yb p0 p1 gq kb hq b k7 d0 d1 d2 d3 d4 d5 d6 d7 d8
  generalize (W7.setCell ⟨g, 1, none⟩ (.bool true)).setCell ⟨g, 0, none⟩ (.slice none 0 0) = W11 at kq k2 G ⊢
  obtain ⟨u0, u1, u2, u3, u4, u5, u6, u7, u8, u9, u10, u11⟩ := box12 k2
  have y0 := k2.frozen 0
  have y1 := k2.frozen 1
  have y2 := k2.frozen 2
  have y3 := k2.frozen 3
  have y4 := k2.frozen 4
  have y5 := k2.frozen 5
  have y6 := k2.frozen 6
  have y7 := k2.frozen 7
  have y8 := k2.frozen 8
  have y9 := k2.frozen 9
  have y10 := k2.frozen 10
  have y11 := k2.frozen 11
  have kf := blk_set12 k2 (.int .i64 0) (.bool false) (.bool false) (.int .i64 0) (.int .u32 0) (.slice none 0 0) (.slice none 0 0) (.int .u32 0) (.int .u32 0) (.int .u64 0) (.int .u64 0) (.int .u64 0)
  have gs := grown_set12 W11 w.heap.size (.int .i64 0) (.bool false) (.bool false) (.int .i64 0) (.int .u32 0) (.slice none 0 0) (.slice none 0 0) (.int .u32 0) (.int .u32 0) (.int .u64 0) (.int .u64 0) (.int .u64 0)
  have kqf := kq.leftC gs (by omega)
  have Gf := grown_far G gs (Nat.le_refl _)
  clear kq G
  obtain ⟨t0, t1, t2, t3, t4, t5, t6, t7, t8, t9, t10, t11⟩ := box12 kf
  clear kf gs k2
  go_wp2_with fail
  refine bodyPost_ret (v := .tuple #[.agg #[.int .i64 0, .bool false, .bool false, .int .i64 0, .int .u32 0, .slice none 0 0, .slice none 0 0, .int .u32 0, .int .u32 0, .int .u64 0, .int .u64 0, .int .u64 0], .bool false, .int .i64 300]) (by simp [results, Try.results49, go_sem, t0, t1, t2, t3, t4, t5, t6, t7, t8, t9, t10, t11]) rfl ?_
  exact ⟨rfl, ⟨kqf, Que.nil _ _⟩, Gf⟩
set_option maxRecDepth 100000 in
set_option maxHeartbeats 3000000 in
theorem next_bad_l (g n c : Nat) (A : Option Addr) (l : List UInt8) (w : World) (h : PrsA w g A n c l false) (hn : needE l = 3) : Calls Try.prog 49 #[.pointer (some ⟨g, 0, none⟩)] w (NextBad g w) := by
  have HC : Hid (∀ W, Rd W W.heap.size A n c l → Calls Try.prog 96 #[.slice A n c] W (NeedQ (needN l : Nat) 3 W)) := Lib.hid (fun W r => hn ▸ need_any A n c l W r)
  have hh := need_3 hn
  obtain ⟨mg, emg⟩ : ∃ x, x = fld l 0 1 := ⟨_, rfl⟩
  obtain ⟨op, eop⟩ : ∃ x, x = fld l 1 1 := ⟨_, rfl⟩
  obtain ⟨kl, ekl⟩ : ∃ x, x = fld l 2 2 := ⟨_, rfl⟩
  obtain ⟨el, eel⟩ : ∃ x, x = fld l 4 1 := ⟨_, rfl⟩
  obtain ⟨ty, ety⟩ : ∃ x, x = fld l 5 1 := ⟨_, rfl⟩
  obtain ⟨st, est⟩ : ∃ x, x = fld l 6 2 := ⟨_, rfl⟩
  obtain ⟨bl, ebl⟩ : ∃ x, x = fld l 8 4 := ⟨_, rfl⟩
  obtain ⟨oq, eoq⟩ : ∃ x, x = fld l 12 4 := ⟨_, rfl⟩
  obtain ⟨cas, ecas⟩ : ∃ x, x = fld l 16 8 := ⟨_, rfl⟩
  have HGH : Hid (∀ W, Rd W W.heap.size A n c l → Calls Try.prog 97 #[.slice A n c] W (GhP mg op kl el ty st bl oq cas 0 W)) := Lib.hid (fun W r => by rw [emg, eop, ekl, eel, ety, est, ebl, eoq, ecas]; exact gh_ok A n c l W r (by rw [← r.len]; exact hh.1) hh.2.1)
  clear hh hn emg eop ekl eel ety est ebl eoq ecas
  have k2 := Blk.new w #[.int .i64 0, .bool false, .bool false, .int .i64 0, .int .u32 0, .slice none 0 0, .slice none 0 0, .int .u32 0, .int .u32 0, .int .u64 0, .int .u64 0, .int .u64 0] 26
  have b := below_a1' (Below.refl w.heap.size w) (.cells #[.int .i64 0, .bool false, .bool false, .int .i64 0, .int .u32 0, .slice none 0 0, .slice none 0 0, .int .u32 0, .int .u32 0, .int .u64 0, .int .u64 0, .int .u64 0] 26)
  have kb := h.1.step b
  have hq := h.2.below b
  have hlt := h.lt
  have ho := h.2.owner
  clear h
  go_enter Try.func49, Try.ntmps49
  go_upto_region 1 with fail
  generalize w.alloc (.cells #[.int .i64 0, .bool false, .bool false, .int .i64 0, .int .u32 0, .slice none 0 0, .slice none 0 0, .int .u32 0, .int .u32 0, .int .u64 0, .int .u64 0, .int .u64 0] 26) = W0 at k2 b kb hq ⊢
  obtain ⟨p0, p1⟩ := box2 kb
  go_wp2_with fail
  refine (HC.out W0 hq.rd).mono ?_
  rintro e w1 ⟨rfl, bb⟩
  replace k2 := k2.step bb
  replace kb := kb.step bb
  replace hq := Que.below hq bb
  replace b := below_step b bb
  clear bb p0 p1
  obtain ⟨p0, p1⟩ := box2 kb
  go_wp2_with fail
  refine (HGH.out w1 hq.rd).mono ?_
  rintro e w2 ⟨rfl, bb⟩
  replace k2 := k2.step bb
  replace kb := kb.step bb
  replace hq := Que.below hq bb
  replace b := below_step b bb
  clear bb p0 p1
  obtain ⟨p0, p1⟩ := box2 kb
  go_upto_region 9 with fail
  have k7 := Blk.new w2 #[.int .u8 (mg : Nat), .int .u8 (op : Nat), .int .u16 (kl : Nat), .int .u8 (el : Nat), .int .u8 (ty : Nat), .int .u16 (st : Nat), .int .u32 (bl : Nat), .int .u32 (oq : Nat), .int .u64 (cas : Nat)] 59
  have bb := below_a1' (Below.refl w2.heap.size w2) (.cells #[.int .u8 (mg : Nat), .int .u8 (op : Nat), .int .u16 (kl : Nat), .int .u8 (el : Nat), .int .u8 (ty : Nat), .int .u16 (st : Nat), .int .u32 (bl : Nat), .int .u32 (oq : Nat), .int .u64 (cas : Nat)] 59)
  have hg7 := kb.lt
  replace k2 := k2.step bb
  replace kb := kb.step bb
  replace hq := Que.below hq bb
  replace b := below_step b bb
  clear bb p0 p1
  generalize w2.alloc (.cells #[.int .u8 (mg : Nat), .int .u8 (op : Nat), .int .u16 (kl : Nat), .int .u8 (el : Nat), .int .u8 (ty : Nat), .int .u16 (st : Nat), .int .u32 (bl : Nat), .int .u32 (oq : Nat), .int .u64 (cas : Nat)] 59) = W7 at k2 b kb hq k7 ⊢
  generalize w2.heap.size = g7 at k7 hg7 ⊢
  obtain ⟨p0, p1⟩ := box2 kb
  obtain ⟨d0, d1, d2, d3, d4, d5, d6, d7, d8⟩ := box9 k7
  have ya := kb.frozen 0
  have yb := kb.frozen 1
  go_upto_region 11 with fail
  have gq := grown_trans (rdr_grown_set W7 g 1 (.bool true)) (rdr_grown_set _ g 0 (.slice none 0 0))
  have kq : Blk ((W7.setCell ⟨g, 1, none⟩ (.bool true)).setCell ⟨g, 0, none⟩ (.slice none 0 0)) g #[.slice none 0 0, .bool true] 127 := (kb.set_ 1 _).set_ 0 _
  have G := grown_trans (grown_of_below (row := some g) b) gq
  replace k2 := k2.leftC gq (by omega)
  clear ya yb p0 p1 gq kb hq b k7 d0 d1 d2 d3 d4 d5 d6 d7 d8
  generalize (W7.setCell ⟨g, 1, none⟩ (.bool true)).setCell ⟨g, 0, none⟩ (.slice none 0 0) = W11 at kq k2 G ⊢
  obtain ⟨u0, u1, u2, u3, u4, u5, u6, u7, u8, u9, u10, u11⟩ := box12 k2
  have y0 := k2.frozen 0
  have y1 := k2.frozen 1
  have y2 := k2.frozen 2
  have y3 := k2.frozen 3
  have y4 := k2.frozen 4
  have y5 := k2.frozen 5
  have y6 := k2.frozen 6
  have y7 := k2.frozen 7
  have y8 := k2.frozen 8
  have y9 := k2.frozen 9
  have y10 := k2.frozen 10
  have y11 := k2.frozen 11
  have kf := blk_set12 k2 (.int .i64 0) (.bool false) (.bool false) (.int .i64 0) (.int .u32 0) (.slice none 0 0) (.slice none 0 0) (.int .u32 0) (.int .u32 0) (.int .u64 0) (.int .u64 0) (.int .u64 0)
  have gs := grown_set12 W11 w.heap.size (.int .i64 0) (.bool false) (.bool false) (.int .i64 0) (.int .u32 0) (.slice none 0 0) (.slice none 0 0) (.int .u32 0) (.int .u32 0) (.int .u64 0) (.int .u64 0) (.int .u64 0)
  have kqf := kq.leftC gs (by omega)
  have Gf := grown_far G gs (Nat.le_refl _)
  clear kq G
  obtain ⟨t0, t1, t2, t3, t4, t5, t6, t7, t8, t9, t10, t11⟩ := box12 kf
  clear kf gs k2
  go_wp2_with fail
  refine bodyPost_ret (v := .tuple #[.agg #[.int .i64 0, .bool false, .bool false, .int .i64 0, .int .u32 0, .slice none 0 0, .slice none 0 0, .int .u32 0, .int .u32 0, .int .u64 0, .int .u64 0, .int .u64 0], .bool false, .int .i64 300]) (by simp [results, Try.results49, go_sem, t0, t1, t2, t3, t4, t5, t6, t7, t8, t9, t10, t11]) rfl ?_
  exact ⟨rfl, ⟨kqf, Que.nil _ _⟩, Gf⟩
set_option maxRecDepth 100000 in
set_option maxHeartbeats 3000000 in
theorem next_bad_r (g n c : Nat) (A : Option Addr) (l : List UInt8) (w : World) (h : PrsA w g A n c l false) (hn : needE l = 0) (hr : rightB (fld l 0 1) (fld l 5 1) = false) : Calls Try.prog 49 #[.pointer (some ⟨g, 0, none⟩)] w (NextBad g w) := by
  have HC : Hid (∀ W, Rd W W.heap.size A n c l → Calls Try.prog 96 #[.slice A n c] W (NeedQ (needN l : Nat) 0 W)) := Lib.hid (fun W r => hn ▸ need_any A n c l W r)
  have hh := need_0 hn
  obtain ⟨mg, emg⟩ : ∃ x, x = fld l 0 1 := ⟨_, rfl⟩
  obtain ⟨op, eop⟩ : ∃ x, x = fld l 1 1 := ⟨_, rfl⟩
  obtain ⟨kl, ekl⟩ : ∃ x, x = fld l 2 2 := ⟨_, rfl⟩
  obtain ⟨el, eel⟩ : ∃ x, x = fld l 4 1 := ⟨_, rfl⟩
  obtain ⟨ty, ety⟩ : ∃ x, x = fld l 5 1 := ⟨_, rfl⟩
  obtain ⟨st, est⟩ : ∃ x, x = fld l 6 2 := ⟨_, rfl⟩
  obtain ⟨bl, ebl⟩ : ∃ x, x = fld l 8 4 := ⟨_, rfl⟩
  obtain ⟨oq, eoq⟩ : ∃ x, x = fld l 12 4 := ⟨_, rfl⟩
  obtain ⟨cas, ecas⟩ : ∃ x, x = fld l 16 8 := ⟨_, rfl⟩
  have HGH : Hid (∀ W, Rd W W.heap.size A n c l → Calls Try.prog 97 #[.slice A n c] W (GhP mg op kl el ty st bl oq cas 0 W)) := Lib.hid (fun W r => by rw [emg, eop, ekl, eel, ety, est, ebl, eoq, ecas]; exact gh_ok A n c l W r (by rw [← r.len]; exact hh.1) hh.2.1)
  have HRT : Hid (∀ W, Calls Try.prog 98 #[.agg #[.int .u8 (mg : Nat), .int .u8 (op : Nat), .int .u16 (kl : Nat), .int .u8 (el : Nat), .int .u8 (ty : Nat), .int .u16 (st : Nat), .int .u32 (bl : Nat), .int .u32 (oq : Nat), .int .u64 (cas : Nat)]] W (BoxQ' (.bool false) W)) := Lib.hid (fun W => by have h := pright_any mg op kl el ty st bl oq cas W; rw [emg, ety, hr, ← emg, ← ety] at h; exact h)
  clear hh hn hr emg eop ekl eel ety est ebl eoq ecas
  have k2 := Blk.new w #[.int .i64 0, .bool false, .bool false, .int .i64 0, .int .u32 0, .slice none 0 0, .slice none 0 0, .int .u32 0, .int .u32 0, .int .u64 0, .int .u64 0, .int .u64 0] 26
  have b := below_a1' (Below.refl w.heap.size w) (.cells #[.int .i64 0, .bool false, .bool false, .int .i64 0, .int .u32 0, .slice none 0 0, .slice none 0 0, .int .u32 0, .int .u32 0, .int .u64 0, .int .u64 0, .int .u64 0] 26)
  have kb := h.1.step b
  have hq := h.2.below b
  have hlt := h.lt
  have ho := h.2.owner
  clear h
  go_enter Try.func49, Try.ntmps49
  go_upto_region 1 with fail
  generalize w.alloc (.cells #[.int .i64 0, .bool false, .bool false, .int .i64 0, .int .u32 0, .slice none 0 0, .slice none 0 0, .int .u32 0, .int .u32 0, .int .u64 0, .int .u64 0, .int .u64 0] 26) = W0 at k2 b kb hq ⊢
  obtain ⟨p0, p1⟩ := box2 kb
  go_wp2_with fail
  refine (HC.out W0 hq.rd).mono ?_
  rintro e w1 ⟨rfl, bb⟩
  replace k2 := k2.step bb
  replace kb := kb.step bb
  replace hq := Que.below hq bb
  replace b := below_step b bb
  clear bb p0 p1
  obtain ⟨p0, p1⟩ := box2 kb
  go_wp2_with fail
  refine (HGH.out w1 hq.rd).mono ?_
  rintro e w2 ⟨rfl, bb⟩
  replace k2 := k2.step bb
  replace kb := kb.step bb
  replace hq := Que.below hq bb
  replace b := below_step b bb
  clear bb p0 p1
  obtain ⟨p0, p1⟩ := box2 kb
  go_upto_region 9 with fail
  have k7 := Blk.new w2 #[.int .u8 (mg : Nat), .int .u8 (op : Nat), .int .u16 (kl : Nat), .int .u8 (el : Nat), .int .u8 (ty : Nat), .int .u16 (st : Nat), .int .u32 (bl : Nat), .int .u32 (oq : Nat), .int .u64 (cas : Nat)] 59
  have bb := below_a1' (Below.refl w2.heap.size w2) (.cells #[.int .u8 (mg : Nat), .int .u8 (op : Nat), .int .u16 (kl : Nat), .int .u8 (el : Nat), .int .u8 (ty : Nat), .int .u16 (st : Nat), .int .u32 (bl : Nat), .int .u32 (oq : Nat), .int .u64 (cas : Nat)] 59)
  have hg7 := kb.lt
  replace k2 := k2.step bb
  replace kb := kb.step bb
  replace hq := Que.below hq bb
  replace b := below_step b bb
  clear bb p0 p1
  generalize w2.alloc (.cells #[.int .u8 (mg : Nat), .int .u8 (op : Nat), .int .u16 (kl : Nat), .int .u8 (el : Nat), .int .u8 (ty : Nat), .int .u16 (st : Nat), .int .u32 (bl : Nat), .int .u32 (oq : Nat), .int .u64 (cas : Nat)] 59) = W7 at k2 b kb hq k7 ⊢
  generalize w2.heap.size = g7 at k7 hg7 ⊢
  obtain ⟨p0, p1⟩ := box2 kb
  obtain ⟨d0, d1, d2, d3, d4, d5, d6, d7, d8⟩ := box9 k7
  go_wp2_with fail
  refine (HRT.out W7).mono ?_
  rintro e w8 ⟨rfl, bb⟩
  replace k2 := k2.step bb
  replace kb := kb.step bb
  replace hq := Que.below hq bb
  replace b := below_step b bb
  clear bb p0 p1 d0 d1 d2 d3 d4 d5 d6 d7 d8
  obtain ⟨p0, p1⟩ := box2 kb
  have ya := kb.frozen 0
  have yb := kb.frozen 1
  go_upto_region 11 with fail
  have gq := grown_trans (rdr_grown_set w8 g 1 (.bool true)) (rdr_grown_set _ g 0 (.slice none 0 0))
  have kq : Blk ((w8.setCell ⟨g, 1, none⟩ (.bool true)).setCell ⟨g, 0, none⟩ (.slice none 0 0)) g #[.slice none 0 0, .bool true] 127 := (kb.set_ 1 _).set_ 0 _
  have G := grown_trans (grown_of_below (row := some g) b) gq
  replace k2 := k2.leftC gq (by omega)
  clear ya yb p0 p1 gq kb hq b k7
  generalize (w8.setCell ⟨g, 1, none⟩ (.bool true)).setCell ⟨g, 0, none⟩ (.slice none 0 0) = W11 at kq k2 G ⊢
  obtain ⟨u0, u1, u2, u3, u4, u5, u6, u7, u8, u9, u10, u11⟩ := box12 k2
  have y0 := k2.frozen 0
  have y1 := k2.frozen 1
  have y2 := k2.frozen 2
  have y3 := k2.frozen 3
  have y4 := k2.frozen 4
  have y5 := k2.frozen 5
  have y6 := k2.frozen 6
  have y7 := k2.frozen 7
  have y8 := k2.frozen 8
  have y9 := k2.frozen 9
  have y10 := k2.frozen 10
  have y11 := k2.frozen 11
  have kf := blk_set12 k2 (.int .i64 0) (.bool false) (.bool false) (.int .i64 0) (.int .u32 0) (.slice none 0 0) (.slice none 0 0) (.int .u32 0) (.int .u32 0) (.int .u64 0) (.int .u64 0) (.int .u64 0)
  have gs := grown_set12 W11 w.heap.size (.int .i64 0) (.bool false) (.bool false) (.int .i64 0) (.int .u32 0) (.slice none 0 0) (.slice none 0 0) (.int .u32 0) (.int .u32 0) (.int .u64 0) (.int .u64 0) (.int .u64 0)
  have kqf := kq.leftC gs (by omega)
  have Gf := grown_far G gs (Nat.le_refl _)
  clear kq G
  obtain ⟨t0, t1, t2, t3, t4, t5, t6, t7, t8, t9, t10, t11⟩ := box12 kf
  clear kf gs k2
  go_wp2_with fail
  refine bodyPost_ret (v := .tuple #[.agg #[.int .i64 0, .bool false, .bool false, .int .i64 0, .int .u32 0, .slice none 0 0, .slice none 0 0, .int .u32 0, .int .u32 0, .int .u64 0, .int .u64 0, .int .u64 0], .bool false, .int .i64 300]) (by simp [results, Try.results49, go_sem, t0, t1, t2, t3, t4, t5, t6, t7, t8, t9, t10, t11]) rfl ?_
  exact ⟨rfl, ⟨kqf, Que.nil _ _⟩, Gf⟩
set_option maxRecDepth 100000 in
set_option maxHeartbeats 3000000 in
theorem next_wait (g n c : Nat) (A : Option Addr) (l : List UInt8) (w : World) (h : PrsA w g A n c l false) (hn : needE l = 0) (hr : rightB (fld l 0 1) (fld l 5 1) = true) (hN : n < needN l) : Calls Try.prog 49 #[.pointer (some ⟨g, 0, none⟩)] w (NextNo 0 w) := by
  have hh := need_0 hn
  have eN : needN l = 24 + fld l 8 4 := by unfold needN; rw [if_pos hn]
  have HC : Hid (∀ W, Rd W W.heap.size A n c l → Calls Try.prog 96 #[.slice A n c] W (NeedQ (needN l : Nat) 0 W)) := Lib.hid (fun W r => by have h := need_any A n c l W r; rw [hn] at h; exact h)
  obtain ⟨mg, emg⟩ : ∃ x, x = fld l 0 1 := ⟨_, rfl⟩
  obtain ⟨op, eop⟩ : ∃ x, x = fld l 1 1 := ⟨_, rfl⟩
  obtain ⟨kl, ekl⟩ : ∃ x, x = fld l 2 2 := ⟨_, rfl⟩
  obtain ⟨el, eel⟩ : ∃ x, x = fld l 4 1 := ⟨_, rfl⟩
  obtain ⟨ty, ety⟩ : ∃ x, x = fld l 5 1 := ⟨_, rfl⟩
  obtain ⟨st, est⟩ : ∃ x, x = fld l 6 2 := ⟨_, rfl⟩
  obtain ⟨bl, ebl⟩ : ∃ x, x = fld l 8 4 := ⟨_, rfl⟩
  obtain ⟨oq, eoq⟩ : ∃ x, x = fld l 12 4 := ⟨_, rfl⟩
  obtain ⟨cas, ecas⟩ : ∃ x, x = fld l 16 8 := ⟨_, rfl⟩
  have HGH : Hid (∀ W, Rd W W.heap.size A n c l → Calls Try.prog 97 #[.slice A n c] W (GhP mg op kl el ty st bl oq cas 0 W)) := Lib.hid (fun W r => by rw [emg, eop, ekl, eel, ety, est, ebl, eoq, ecas]; exact gh_ok A n c l W r (by rw [← r.len]; exact hh.1) hh.2.1)
  have HRT : Hid (∀ W, Calls Try.prog 98 #[.agg #[.int .u8 (mg : Nat), .int .u8 (op : Nat), .int .u16 (kl : Nat), .int .u8 (el : Nat), .int .u8 (ty : Nat), .int .u16 (st : Nat), .int .u32 (bl : Nat), .int .u32 (oq : Nat), .int .u64 (cas : Nat)]] W (BoxQ' (.bool true) W)) := Lib.hid (fun W => by have h := pright_any mg op kl el ty st bl oq cas W; rw [emg, ety, hr, ← emg, ← ety] at h; exact h)
  clear hh hn hr eN emg eop ekl eel ety est ebl eoq ecas
  generalize needN l = N at *
  have L1 : ((n : Int) < (N : Int)) = True := eq_true (by omega)
  have L1' : (n < N) = True := eq_true hN
  clear hN
  have k2 := Blk.new w #[.int .i64 0, .bool false, .bool false, .int .i64 0, .int .u32 0, .slice none 0 0, .slice none 0 0, .int .u32 0, .int .u32 0, .int .u64 0, .int .u64 0, .int .u64 0] 26
  have b := below_a1' (Below.refl w.heap.size w) (.cells #[.int .i64 0, .bool false, .bool false, .int .i64 0, .int .u32 0, .slice none 0 0, .slice none 0 0, .int .u32 0, .int .u32 0, .int .u64 0, .int .u64 0, .int .u64 0] 26)
  have kb := h.1.step b
  have hq := h.2.below b
  have hlt := h.lt
  have ho := h.2.owner
  clear h
  go_enter Try.func49, Try.ntmps49
  go_upto_region 1 with fail
  generalize w.alloc (.cells #[.int .i64 0, .bool false, .bool false, .int .i64 0, .int .u32 0, .slice none 0 0, .slice none 0 0, .int .u32 0, .int .u32 0, .int .u64 0, .int .u64 0, .int .u64 0] 26) = W0 at k2 b kb hq ⊢
  obtain ⟨p0, p1⟩ := box2 kb
  go_wp2_with fail
  refine (HC.out W0 hq.rd).mono ?_
  rintro e w1 ⟨rfl, bb⟩
  replace k2 := k2.step bb
  replace kb := kb.step bb
  replace hq := Que.below hq bb
  replace b := below_step b bb
  clear bb p0 p1
  obtain ⟨p0, p1⟩ := box2 kb
  go_wp2_with fail
  refine (HGH.out w1 hq.rd).mono ?_
  rintro e w2 ⟨rfl, bb⟩
  replace k2 := k2.step bb
  replace kb := kb.step bb
  replace hq := Que.below hq bb
  replace b := below_step b bb
  clear bb p0 p1
  obtain ⟨p0, p1⟩ := box2 kb
  go_upto_region 9 with fail
  have k7 := Blk.new w2 #[.int .u8 (mg : Nat), .int .u8 (op : Nat), .int .u16 (kl : Nat), .int .u8 (el : Nat), .int .u8 (ty : Nat), .int .u16 (st : Nat), .int .u32 (bl : Nat), .int .u32 (oq : Nat), .int .u64 (cas : Nat)] 59
  have bb := below_a1' (Below.refl w2.heap.size w2) (.cells #[.int .u8 (mg : Nat), .int .u8 (op : Nat), .int .u16 (kl : Nat), .int .u8 (el : Nat), .int .u8 (ty : Nat), .int .u16 (st : Nat), .int .u32 (bl : Nat), .int .u32 (oq : Nat), .int .u64 (cas : Nat)] 59)
  have hg7 := kb.lt
  replace k2 := k2.step bb
  replace kb := kb.step bb
  replace hq := Que.below hq bb
  replace b := below_step b bb
  clear bb p0 p1
  generalize w2.alloc (.cells #[.int .u8 (mg : Nat), .int .u8 (op : Nat), .int .u16 (kl : Nat), .int .u8 (el : Nat), .int .u8 (ty : Nat), .int .u16 (st : Nat), .int .u32 (bl : Nat), .int .u32 (oq : Nat), .int .u64 (cas : Nat)] 59) = W7 at k2 b kb hq k7 ⊢
  generalize w2.heap.size = g7 at k7 hg7 ⊢
  obtain ⟨p0, p1⟩ := box2 kb
  obtain ⟨d0, d1, d2, d3, d4, d5, d6, d7, d8⟩ := box9 k7
  go_wp2_with fail
  refine (HRT.out W7).mono ?_
  rintro e w8 ⟨rfl, bb⟩
  replace k2 := k2.step bb
  replace kb := kb.step bb
  replace hq := Que.below hq bb
  replace b := below_step b bb
  clear bb p0 p1 d0 d1 d2 d3 d4 d5 d6 d7 d8
  obtain ⟨p0, p1⟩ := box2 kb
  obtain ⟨u0, u1, u2, u3, u4, u5, u6, u7, u8, u9, u10, u11⟩ := box12 k2
  have y0 := k2.frozen 0
  have y1 := k2.frozen 1
  have y2 := k2.frozen 2
  have y3 := k2.frozen 3
  have y4 := k2.frozen 4
  have y5 := k2.frozen 5
  have y6 := k2.frozen 6
  have y7 := k2.frozen 7
  have y8 := k2.frozen 8
  have y9 := k2.frozen 9
  have y10 := k2.frozen 10
  have y11 := k2.frozen 11
  have kf := blk_set12 k2 (.int .i64 0) (.bool false) (.bool false) (.int .i64 0) (.int .u32 0) (.slice none 0 0) (.slice none 0 0) (.int .u32 0) (.int .u32 0) (.int .u64 0) (.int .u64 0) (.int .u64 0)
  have gs := grown_set12 w8 w.heap.size (.int .i64 0) (.bool false) (.bool false) (.int .i64 0) (.int .u32 0) (.slice none 0 0) (.slice none 0 0) (.int .u32 0) (.int .u32 0) (.int .u64 0) (.int .u64 0) (.int .u64 0)
  have bf := b.trans (below_grown gs (Nat.le_refl _) k2.lt)
  clear b kb
  obtain ⟨t0, t1, t2, t3, t4, t5, t6, t7, t8, t9, t10, t11⟩ := box12 kf
  clear kf gs k2
  go_wp2_with fail
  refine bodyPost_ret (v := .tuple #[.agg #[.int .i64 0, .bool false, .bool false, .int .i64 0, .int .u32 0, .slice none 0 0, .slice none 0 0, .int .u32 0, .int .u32 0, .int .u64 0, .int .u64 0, .int .u64 0], .bool false, .int .i64 0]) (by simp [results, Try.results49, go_sem, t0, t1, t2, t3, t4, t5, t6, t7, t8, t9, t10, t11]) rfl ?_
  exact ⟨rfl, bf⟩
set_option maxRecDepth 100000 in
set_option maxHeartbeats 3000000 in
theorem next_ok (g n c : Nat) (A : Option Addr) (l : List UInt8) (w : World) (h : PrsA w g A n c l false) (hn : needE l = 0) (hr : rightB (fld l 0 1) (fld l 5 1) = true) (hN : needN l ≤ n) (op' : Int) (qt' fu' : Bool) (bd' : Int) (oq' : Nat) (lk' lv' : List UInt8) (fl' ex' cs' dl' ini' : Nat) (hreq : ∀ (W : World) (X K V : Option Addr) (cx ck cv : Nat), Rd W W.heap.size X (fld l 4 1) cx (fxB l) → Rd W W.heap.size K (fld l 2 2) ck (fkB l) → Rd W W.heap.size V (fld l 8 4 - (fld l 4 1 + fld l 2 2)) cv (fvB l) → Calls Try.prog 90 #[frV (fld l 0 1) (fld l 1 1) (fld l 2 2) (fld l 4 1) (fld l 5 1) (fld l 6 2) (fld l 8 4) (fld l 12 4) (fld l 16 8) (.slice X (fld l 4 1) cx) (.slice K (fld l 2 2) ck) (.slice V (fld l 8 4 - (fld l 4 1 + fld l 2 2)) cv)] W (ReqQ op' qt' fu' bd' oq' lk' lv' fl' ex' cs' dl' ini' W)) : Calls Try.prog 49 #[.pointer (some ⟨g, 0, none⟩)] w (NextOk g (needN l) n A l op' qt' fu' bd' oq' lk' lv' fl' ex' cs' dl' ini' w) := by
  have hh := need_0 hn
  have eN : needN l = 24 + fld l 8 4 := by unfold needN; rw [if_pos hn]
  have HC : Hid (∀ W, Rd W W.heap.size A n c l → Calls Try.prog 96 #[.slice A n c] W (NeedQ (needN l : Nat) 0 W)) := Lib.hid (fun W r => by have h := need_any A n c l W r; rw [hn] at h; exact h)
  have hle := mayB_le hh.2.1
  have hlen := h.2.len
  have htk := lists_take eN hle
  obtain ⟨X1, cx1, HX1, hX1⟩ := slc_h h.2.rd (needN l) (needN l : Nat) rfl hN
  obtain ⟨X3, cx3, HX3, hX3, hXo⟩ := slc_que h.2 (needN l) (needN l : Nat) rfl hN
  have hGET : ∀ W, Rd W W.heap.size A n c l → Calls Try.prog 51 #[.slice X1 (needN l) cx1] W (GtP (fld l 0 1) (fld l 1 1) (fld l 2 2) (fld l 4 1) (fld l 5 1) (fld l 6 2) (fld l 8 4) (fld l 12 4) (fld l 16 8) (fld l 4 1) (fld l 2 2) (fld l 8 4 - (fld l 4 1 + fld l 2 2)) (needN l) (fxB l) (fkB l) (fvB l) W) := fun W r => by
    have hnt := needE_take (l := l) (N := needN l) (by omega) (by omega)
    have e2 : fld (l.take (needN l)) 8 4 = fld l 8 4 := fld_take (by omega)
    have h := get_ok X1 (needN l) cx1 (l.take (needN l)) W (hX1 _ _ r) (by rw [hnt]; exact hn) (by have := needN_of (hnt.trans hn); omega)
    unfold GetOk at h
    change Calls _ _ _ _ (fun e w' => ∃ X cx K ck V cv, _ ∧ Rd w' w'.heap.size X _ cx (fxB (l.take (needN l))) ∧ Rd w' w'.heap.size K _ ck (fkB (l.take (needN l))) ∧ Rd w' w'.heap.size V _ cv (fvB (l.take (needN l))) ∧ _) at h
    rw [htk.1, htk.2.1, htk.2.2] at h
    simp only [fld_take (l := l) (n := needN l) (o := 0) (k := 1) (by omega), fld_take (l := l) (n := needN l) (o := 1) (k := 1) (by omega), fld_take (l := l) (n := needN l) (o := 2) (k := 2) (by omega), fld_take (l := l) (n := needN l) (o := 4) (k := 1) (by omega), fld_take (l := l) (n := needN l) (o := 5) (k := 1) (by omega), fld_take (l := l) (n := needN l) (o := 6) (k := 2) (by omega), fld_take (l := l) (n := needN l) (o := 8) (k := 4) (by omega), fld_take (l := l) (n := needN l) (o := 12) (k := 4) (by omega), fld_take (l := l) (n := needN l) (o := 16) (k := 8) (by omega), ← eN] at h
    exact h
  obtain ⟨mg, emg⟩ : ∃ x, x = fld l 0 1 := ⟨_, rfl⟩
  obtain ⟨op, eop⟩ : ∃ x, x = fld l 1 1 := ⟨_, rfl⟩
  obtain ⟨kl, ekl⟩ : ∃ x, x = fld l 2 2 := ⟨_, rfl⟩
  obtain ⟨el, eel⟩ : ∃ x, x = fld l 4 1 := ⟨_, rfl⟩
  obtain ⟨ty, ety⟩ : ∃ x, x = fld l 5 1 := ⟨_, rfl⟩
  obtain ⟨st, est⟩ : ∃ x, x = fld l 6 2 := ⟨_, rfl⟩
  obtain ⟨bl, ebl⟩ : ∃ x, x = fld l 8 4 := ⟨_, rfl⟩
  obtain ⟨oq, eoq⟩ : ∃ x, x = fld l 12 4 := ⟨_, rfl⟩
  obtain ⟨cas, ecas⟩ : ∃ x, x = fld l 16 8 := ⟨_, rfl⟩
  have HGH : Hid (∀ W, Rd W W.heap.size A n c l → Calls Try.prog 97 #[.slice A n c] W (GhP mg op kl el ty st bl oq cas 0 W)) := Lib.hid (fun W r => by rw [emg, eop, ekl, eel, ety, est, ebl, eoq, ecas]; exact gh_ok A n c l W r (by rw [← r.len]; exact hh.1) hh.2.1)
  have HRT : Hid (∀ W, Calls Try.prog 98 #[.agg #[.int .u8 (mg : Nat), .int .u8 (op : Nat), .int .u16 (kl : Nat), .int .u8 (el : Nat), .int .u8 (ty : Nat), .int .u16 (st : Nat), .int .u32 (bl : Nat), .int .u32 (oq : Nat), .int .u64 (cas : Nat)]] W (BoxQ' (.bool true) W)) := Lib.hid (fun W => by have h := pright_any mg op kl el ty st bl oq cas W; rw [emg, ety, hr, ← emg, ← ety] at h; exact h)
  generalize hnv : fld l 8 4 - (fld l 4 1 + fld l 2 2) = nv at hGET hreq
  rw [← emg, ← eop, ← ekl, ← eel, ← ety, ← est, ← ebl, ← eoq, ← ecas] at hGET hreq
  obtain ⟨nx, enx⟩ : ∃ x, x = el := ⟨_, rfl⟩
  obtain ⟨nk, enk⟩ : ∃ x, x = kl := ⟨_, rfl⟩
  generalize fxB l = lx at hGET hreq
  generalize fkB l = lk at hGET hreq
  generalize fvB l = lv at hGET hreq
  have HGET : Hid (∀ W, Rd W W.heap.size A n c l → Calls Try.prog 51 #[.slice X1 (needN l) cx1] W (GtP mg op kl el ty st bl oq cas nx nk nv (needN l) lx lk lv W)) := Lib.hid (by rw [enx, enk]; exact hGET)
  have HREQ : Hid (∀ (W : World) (X K V : Option Addr) (cx ck cv : Nat), Rd W W.heap.size X nx cx lx → Rd W W.heap.size K nk ck lk → Rd W W.heap.size V nv cv lv → Calls Try.prog 90 #[.agg #[.int .u8 (mg : Nat), .int .u8 (op : Nat), .int .u16 (kl : Nat), .int .u8 (el : Nat), .int .u8 (ty : Nat), .int .u16 (st : Nat), .int .u32 (bl : Nat), .int .u32 (oq : Nat), .int .u64 (cas : Nat), .slice X nx cx, .slice K nk ck, .slice V nv cv]] W (ReqN op' qt' fu' bd' oq' lk' lv' fl' ex' cs' dl' ini' W)) := Lib.hid (by rw [enx, enk]; exact hreq)
  clear hGET hreq hnv enx enk htk hle hlen
  clear hh hn hr eN emg eop ekl eel ety est ebl eoq ecas
  generalize needN l = N at *
  have L1 : ((n : Int) < (N : Int)) = False := eq_false (by omega)
  have L1' : (n < N) = False := eq_false (by omega)
  have HQ3 := Lib.hid hX3
  have HXO := Lib.hid hXo
  have HOX := Lib.hid (hX3 _ _ h.2).owner
  clear hN hX1 hX3 hXo
  have k2 := Blk.new w #[.int .i64 0, .bool false, .bool false, .int .i64 0, .int .u32 0, .slice none 0 0, .slice none 0 0, .int .u32 0, .int .u32 0, .int .u64 0, .int .u64 0, .int .u64 0] 26
  have b := below_a1' (Below.refl w.heap.size w) (.cells #[.int .i64 0, .bool false, .bool false, .int .i64 0, .int .u32 0, .slice none 0 0, .slice none 0 0, .int .u32 0, .int .u32 0, .int .u64 0, .int .u64 0, .int .u64 0] 26)
  have kb := h.1.step b
  have hq := h.2.below b
  have hlt := h.lt
  have ho := h.2.owner
  clear h
  go_enter Try.func49, Try.ntmps49
  go_upto_region 1 with fail
  generalize w.alloc (.cells #[.int .i64 0, .bool false, .bool false, .int .i64 0, .int .u32 0, .slice none 0 0, .slice none 0 0, .int .u32 0, .int .u32 0, .int .u64 0, .int .u64 0, .int .u64 0] 26) = W0 at k2 b kb hq ⊢
  obtain ⟨p0, p1⟩ := box2 kb
  go_wp2_with fail
  refine (HC.out W0 hq.rd).mono ?_
  rintro e w1 ⟨rfl, bb⟩
  replace k2 := k2.step bb
  replace kb := kb.step bb
  replace hq := Que.below hq bb
  replace b := below_step b bb
  clear bb p0 p1
  obtain ⟨p0, p1⟩ := box2 kb
  go_wp2_with fail
  refine (HGH.out w1 hq.rd).mono ?_
  rintro e w2 ⟨rfl, bb⟩
  replace k2 := k2.step bb
  replace kb := kb.step bb
  replace hq := Que.below hq bb
  replace b := below_step b bb
  clear bb p0 p1
  obtain ⟨p0, p1⟩ := box2 kb
  go_upto_region 9 with fail
  have k7 := Blk.new w2 #[.int .u8 (mg : Nat), .int .u8 (op : Nat), .int .u16 (kl : Nat), .int .u8 (el : Nat), .int .u8 (ty : Nat), .int .u16 (st : Nat), .int .u32 (bl : Nat), .int .u32 (oq : Nat), .int .u64 (cas : Nat)] 59
  have bb := below_a1' (Below.refl w2.heap.size w2) (.cells #[.int .u8 (mg : Nat), .int .u8 (op : Nat), .int .u16 (kl : Nat), .int .u8 (el : Nat), .int .u8 (ty : Nat), .int .u16 (st : Nat), .int .u32 (bl : Nat), .int .u32 (oq : Nat), .int .u64 (cas : Nat)] 59)
  have hg7 := kb.lt
  replace k2 := k2.step bb
  replace kb := kb.step bb
  replace hq := Que.below hq bb
  replace b := below_step b bb
  clear bb p0 p1
  generalize w2.alloc (.cells #[.int .u8 (mg : Nat), .int .u8 (op : Nat), .int .u16 (kl : Nat), .int .u8 (el : Nat), .int .u8 (ty : Nat), .int .u16 (st : Nat), .int .u32 (bl : Nat), .int .u32 (oq : Nat), .int .u64 (cas : Nat)] 59) = W7 at k2 b kb hq k7 ⊢
  generalize w2.heap.size = g7 at k7 hg7 ⊢
  obtain ⟨p0, p1⟩ := box2 kb
  obtain ⟨d0, d1, d2, d3, d4, d5, d6, d7, d8⟩ := box9 k7
  go_wp2_with fail
  refine (HRT.out W7).mono ?_
  rintro e w8 ⟨rfl, bb⟩
  replace k2 := k2.step bb
  replace kb := kb.step bb
  replace hq := Que.below hq bb
  replace b := below_step b bb
  clear bb p0 p1 d0 d1 d2 d3 d4 d5 d6 d7 d8
  obtain ⟨p0, p1⟩ := box2 kb
  go_wp2_with fail
  refine (HGET.out w8 hq.rd).mono ?_
  rintro e w9 ⟨X, cx, K, ck, V, cv, rfl, rX, rK, rV, bb⟩
  replace k2 := k2.step bb
  replace kb := kb.step bb
  replace hq := Que.below hq bb
  replace b := below_step b bb
  clear bb p0 p1 k7
  obtain ⟨p0, p1⟩ := box2 kb
  go_upto_region 15 with fail
  have k9 := Blk.new w9 #[.int .u8 (mg : Nat), .int .u8 (op : Nat), .int .u16 (kl : Nat), .int .u8 (el : Nat), .int .u8 (ty : Nat), .int .u16 (st : Nat), .int .u32 (bl : Nat), .int .u32 (oq : Nat), .int .u64 (cas : Nat), .slice X nx cx, .slice K nk ck, .slice V nv cv] 61
  have bb := below_a1' (Below.refl w9.heap.size w9) (.cells #[.int .u8 (mg : Nat), .int .u8 (op : Nat), .int .u16 (kl : Nat), .int .u8 (el : Nat), .int .u8 (ty : Nat), .int .u16 (st : Nat), .int .u32 (bl : Nat), .int .u32 (oq : Nat), .int .u64 (cas : Nat), .slice X nx cx, .slice K nk ck, .slice V nv cv] 61)
  have hg9 := kb.lt
  have h29 := k2.lt
  replace k2 := k2.step bb
  replace kb := kb.step bb
  replace hq := Que.below hq bb
  replace b := below_step b bb
  replace rX := rX.step bb
  replace rK := rK.step bb
  replace rV := rV.step bb
  clear bb p0 p1
  generalize w9.alloc (.cells #[.int .u8 (mg : Nat), .int .u8 (op : Nat), .int .u16 (kl : Nat), .int .u8 (el : Nat), .int .u8 (ty : Nat), .int .u16 (st : Nat), .int .u32 (bl : Nat), .int .u32 (oq : Nat), .int .u64 (cas : Nat), .slice X nx cx, .slice K nk ck, .slice V nv cv] 61) = W9 at k2 b kb hq k9 rX rK rV ⊢
  generalize w9.heap.size = g9 at k9 hg9 h29 ⊢
  obtain ⟨p0, p1⟩ := box2 kb
  have ya := kb.frozen 0
  go_upto_region 18 with fail
  have gq := rdr_grown_set W9 g 0 (.slice X3 (n - N) cx3)
  have kq : Blk (W9.setCell ⟨g, 0, none⟩ (.slice X3 (n - N) cx3)) g #[.slice X3 (n - N) cx3, .bool false] 127 := kb.set_ 0 _
  have hq3 : Que (W9.setCell ⟨g, 0, none⟩ (.slice X3 (n - N) cx3)) (g + 1) X3 (n - N) cx3 (l.drop N) := (HQ3.out _ _ hq).kept gq (fun k hk => by injection hk with hk; omega)
  have G := grown_trans (grown_of_below (row := some g) b) gq
  replace k2 := k2.leftC gq (by omega)
  replace k9 := k9.leftC gq (by omega)
  have hn0 : ∀ x : UInt8, Value.slice A n c ≠ cb x := fun x h => by cases h
  have hn1 : ∀ x : UInt8, Value.bool false ≠ cb x := fun x h => by cases h
  replace rX := (rd_off (i := 0) (u := .slice X3 (n - N) cx3) rX kb hn0 hn1).more gq.size
  replace rK := (rd_off (i := 0) (u := .slice X3 (n - N) cx3) rK kb hn0 hn1).more gq.size
  replace rV := (rd_off (i := 0) (u := .slice X3 (n - N) cx3) rV kb hn0 hn1).more gq.size
  clear hn0 hn1 gq kb hq b ya p0 p1
  generalize W9.setCell ⟨g, 0, none⟩ (.slice X3 (n - N) cx3) = W18 at kq hq3 G k2 k9 rX rK rV ⊢
  obtain ⟨z0, z1, z2, z3, z4, z5, z6, z7, z8, z9, z10, z11⟩ := box12 k9
  go_wp2_with fail
  have hl2 := k2.lt
  refine (HREQ.out W18 X K V cx ck cv rX rK rV).mono ?_
  rintro e w19 ⟨K2, V2, nk2, ck2, nv2, cv2, rfl, oK2, oV2, bb⟩
  replace k2 := k2.step bb
  replace kq := kq.step bb
  replace hq3 := Que.below hq3 bb
  replace G := grown_below G bb
  clear bb rX rK rV k9 z0 z1 z2 z3 z4 z5 z6 z7 z8 z9 z10 z11
  obtain ⟨u0, u1, u2, u3, u4, u5, u6, u7, u8, u9, u10, u11⟩ := box12 k2
  have y0 := k2.frozen 0
  have y1 := k2.frozen 1
  have y2 := k2.frozen 2
  have y3 := k2.frozen 3
  have y4 := k2.frozen 4
  have y5 := k2.frozen 5
  have y6 := k2.frozen 6
  have y7 := k2.frozen 7
  have y8 := k2.frozen 8
  have y9 := k2.frozen 9
  have y10 := k2.frozen 10
  have y11 := k2.frozen 11
  have kf := blk_set12 k2 (.int .i64 op') (.bool qt') (.bool fu') (.int .i64 bd') (.int .u32 (oq' : Nat)) (.slice K2 nk2 ck2) (.slice V2 nv2 cv2) (.int .u32 (fl' : Nat)) (.int .u32 (ex' : Nat)) (.int .u64 (cs' : Nat)) (.int .u64 (dl' : Nat)) (.int .u64 (ini' : Nat))
  have gs := grown_set12 w19 w.heap.size (.int .i64 op') (.bool qt') (.bool fu') (.int .i64 bd') (.int .u32 (oq' : Nat)) (.slice K2 nk2 ck2) (.slice V2 nv2 cv2) (.int .u32 (fl' : Nat)) (.int .u32 (ex' : Nat)) (.int .u64 (cs' : Nat)) (.int .u64 (dl' : Nat)) (.int .u64 (ini' : Nat))
  have hox := HOX.out
  have kqf := kq.leftC gs (by omega)
  have hqf := hq3.keptO gs (fun k hk e => by injection e with e; have := (hox k hk).2; omega)
  have oKf := (oK2.kept gs (by omega)).more (B' := w.heap.size) (by omega)
  have oVf := (oV2.kept gs (by omega)).more (B' := w.heap.size) (by omega)
  have Gf := grown_far G gs (Nat.le_refl _)
  obtain ⟨t0, t1, t2, t3, t4, t5, t6, t7, t8, t9, t10, t11⟩ := box12 kf
  clear kf gs k2 kq hq3 G hox
  go_wp2_with fail
  refine bodyPost_ret (v := .tuple #[.agg #[.int .i64 op', .bool qt', .bool fu', .int .i64 bd', .int .u32 (oq' : Nat), .slice K2 nk2 ck2, .slice V2 nv2 cv2, .int .u32 (fl' : Nat), .int .u32 (ex' : Nat), .int .u64 (cs' : Nat), .int .u64 (dl' : Nat), .int .u64 (ini' : Nat)], .bool true, .int .i64 0]) (by simp [results, Try.results49, go_sem, t0, t1, t2, t3, t4, t5, t6, t7, t8, t9, t10, t11]) rfl ?_
  exact ⟨K2, V2, nk2, ck2, nv2, cv2, X3, cx3, rfl, ⟨kqf, hqf⟩, oKf, oVf, Gf, HXO.out⟩
end Go.Proofs.Ytnghmgbmflcngaa

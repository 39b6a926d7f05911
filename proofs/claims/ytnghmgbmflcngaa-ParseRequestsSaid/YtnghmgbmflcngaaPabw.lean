/- ParseBad: the walk by cases. Conditions: typed in each theorem. -/
import Derived.Test.YtnghmgbmflcngaaQrq
import Derived.Test.YtnghmgbmflcngaaWk20
namespace Go.Proofs.Ytnghmgbmflcngaa
set_option linter.unusedVariables false
open Go.ChangeShapes Go.WideShapes Go.ChangeAt Go.RowKit

theorem reqO_bd {op oq cas : Nat} {lx lk lv : List UInt8} (h : (reqO op oq cas lx lk lv).bd ≠ 0) : ((reqO op oq cas lx lk lv).bd = 129 ∨ (reqO op oq cas lx lk lv).bd = 4 ∨ (reqO op oq cas lx lk lv).bd = 3) ∧ (reqO op oq cas lx lk lv).lk = [] ∧ (reqO op oq cas lx lk lv).lv = [] ∧ (reqO op oq cas lx lk lv).cs = 0 := by
  cases hr : rowOf op with
  | none => rw [reqO_none hr]; exact ⟨.inl rfl, rfl, rfl, rfl⟩
  | some r =>
    obtain ⟨o, q, f⟩ := r
    cases hb : badB o (shapeOf o).1 (shapeOf o).2.1 (shapeOf o).2.2 lx lk lv with
    | true => rw [reqO_bad hr hb]; exact ⟨.inr (.inl rfl), rfl, rfl, rfl⟩
    | false =>
      by_cases hv : 512 < lv.length
      · rw [reqO_large hr hb hv]; exact ⟨.inr (.inr rfl), rfl, rfl, rfl⟩
      · rw [reqO_good hr hb (by omega)] at h; exact absurd rfl h
theorem reqO_oq {op oq cas : Nat} {lx lk lv : List UInt8} : (reqO op oq cas lx lk lv).oq = oq := by
  unfold reqO
  split
  · rfl
  · split
    · rfl
    · split <;> rfl
theorem reqO_cs {op oq cas : Nat} {lx lk lv : List UInt8} : (reqO op oq cas lx lk lv).cs ≤ cas := by
  unfold reqO
  split
  · exact Nat.zero_le _
  · split
    · exact Nat.zero_le _
    · split
      · exact Nat.zero_le _
      · exact Nat.le_refl _
/-- What 'short' gives, written out. -/
def ShortP (B mg op kl el ty st bl oq cas mx mk mv : Nat) (ux uk uv : List UInt8) (w : World) (e : Ending) (w' : World) : Prop := ∃ X2 cx2 K2 ck2 V2 cv2, e = .returned (.agg #[.int .u8 (mg : Nat), .int .u8 (op : Nat), .int .u16 (kl : Nat), .int .u8 (el : Nat), .int .u8 (ty : Nat), .int .u16 (st : Nat), .int .u32 (bl : Nat), .int .u32 (oq : Nat), .int .u64 (cas : Nat), .slice X2 mx cx2, .slice K2 mk ck2, .slice V2 mv cv2]) ∧ Rd w' B X2 mx cx2 ux ∧ Rd w' B K2 mk ck2 uk ∧ Rd w' B V2 mv cv2 uv ∧ Below w.heap.size w w'
/-- What parse.Frame gives, written out. -/
def FrmP (q : RQ) (c bl nx nk nv oq cs : Nat) (w : World) (e : Ending) (w' : World) : Prop := ∃ X5 cx5 K5 ck5 V5 cv5, e = .returned (.tuple #[.agg #[.int .u8 128, .int .u8 (c : Nat), .int .u16 (nk : Nat), .int .u8 (nx : Nat), .int .u8 0, .int .u16 0, .int .u32 (bl : Nat), .int .u32 (oq : Nat), .int .u64 (cs : Nat), .slice X5 nx cx5, .slice K5 nk ck5, .slice V5 nv cv5], .int .i64 0]) ∧ Rd w' w'.heap.size X5 nx cx5 (frmX q) ∧ Rd w' w'.heap.size K5 nk ck5 q.lk ∧ Rd w' w'.heap.size V5 nv cv5 q.lv ∧ Below w.heap.size w w'
theorem FrameOk.p {q : RQ} {c bl nk nv : Nat} {w : World} {e : Ending} {w' : World} (h : FrameOk c q.oq q.cs bl nk nv (frmX q) q.lk q.lv w e w') : FrmP q c bl (frmX q).length nk nv q.oq q.cs w e w' := by
  obtain ⟨X, K, V, nx, cx, ck, cv, he, rfl, oX, oK, oV, b⟩ := h
  exact ⟨X, cx, K, ck, V, cv, he, oX.rd, oK.rd, oV.rd, b⟩
/-- What parse.Request gives, written out. -/
def PrqB (q : RQ) (bd : Int) (oq cs nk nv : Nat) (w : World) (e : Ending) (w' : World) : Prop := ∃ (K4 V4 : Option Addr) (ck4 cv4 : Nat), e = .returned (.tuple #[.agg #[.int .i64 q.op, .bool q.qt, .bool q.fu, .int .i64 bd, .int .u32 (oq : Nat), .slice K4 nk ck4, .slice V4 nv cv4, .int .u32 (q.fl : Nat), .int .u32 (q.ex : Nat), .int .u64 (cs : Nat), .int .u64 (q.dl : Nat), .int .u64 (q.ni : Nat)], .int .i64 0]) ∧ Rd w' w'.heap.size K4 nk ck4 q.lk ∧ Rd w' w'.heap.size V4 nv cv4 q.lv ∧ Below w.heap.size w w'
theorem PrqYes.b {q : RQ} {w : World} {e : Ending} {w' : World} (h : PrqYes q w e w') : PrqB q q.bd q.oq q.cs q.lk.length q.lv.length w e w' := by
  obtain ⟨K2, V2, nk2, ck2, nv2, cv2, he, oK, oV, b⟩ := h
  have e1 := oK.len
  have e2 := oV.len
  subst e1 e2
  exact ⟨K2, V2, ck2, cv2, he, oK.rd, oV.rd, b⟩
/-- A request's frame is a frame. -/
theorem say_frame {q : RQ} {c : Nat} (hin : q.In) (hcs : q.cs < 18446744073709551616) (h : sayO q = some c) : HdF 128 c q.lk.length (frmX q).length 0 0 ((frmX q).length + q.lk.length + q.lv.length) q.oq q.cs ∧ wrongE 128 q.lk.length (frmX q).length ((frmX q).length + q.lk.length + q.lv.length) (frmX q).length q.lk.length q.lv.length = 0 ∧ q.lk.length ≤ 250 ∧ q.lv.length ≤ 512 ∧ reqO c q.oq q.cs (frmX q) q.lk q.lv = q := by
  obtain ⟨hb, hc, hr⟩ := sayO_yes h
  have hz : (reqO c q.oq q.cs (frmX q) q.lk q.lv).bd = 0 := by rw [hr]; exact hb
  obtain ⟨-, -, -, hk, hv⟩ := say_of_req hz
  obtain ⟨h1, h2, h3, h4, h5⟩ := hin
  have hx : (frmX q).length ≤ 20 := by
    unfold frmX
    rw [List.length_append]
    have := xaB_len (shapeOf q.op).1 q.fl q.dl q.ni
    have := xbB_len (putsEx q.op (shapeOf q.op).1 q.ex) q.ex
    omega
  have hcb := codeOf_byte hc
  refine ⟨⟨by omega, hcb, by omega, by omega, by omega, by omega, by omega, h1, hcs⟩, ?_, hk, hv, hr⟩
  unfold wrongE
  rw [if_pos ⟨by unfold mayB; simp; omega, rfl, rfl, rfl⟩, if_neg (by omega)]
set_option maxRecDepth 100000 in
set_option maxHeartbeats 8000000 in
theorem bad_no (mg op kl el ty st bl oq cas : Nat) (X K V : Option Addr) (nx cx nk ck nv cv mx mk mv : Nat) (ux uk uv : List UInt8) (w : World) (hsh : ∀ W, Below w.heap.size w W → Calls Try.prog 52 #[.agg #[.int .u8 (mg : Nat), .int .u8 (op : Nat), .int .u16 (kl : Nat), .int .u8 (el : Nat), .int .u8 (ty : Nat), .int .u16 (st : Nat), .int .u32 (bl : Nat), .int .u32 (oq : Nat), .int .u64 (cas : Nat), .slice X nx cx, .slice K nk ck, .slice V nv cv]] W (ShortP w.heap.size mg op kl el ty st bl oq cas mx mk mv ux uk uv W))
    (hrq : ∀ W X2 cx2 K2 ck2 V2 cv2, Rd W W.heap.size X2 mx cx2 ux → Rd W W.heap.size K2 mk ck2 uk → Rd W W.heap.size V2 mv cv2 uv → Calls Try.prog 53 #[.agg #[.int .u8 (mg : Nat), .int .u8 (op : Nat), .int .u16 (kl : Nat), .int .u8 (el : Nat), .int .u8 (ty : Nat), .int .u16 (st : Nat), .int .u32 (bl : Nat), .int .u32 (oq : Nat), .int .u64 (cas : Nat), .slice X2 mx cx2, .slice K2 mk ck2, .slice V2 mv cv2]] W (PrqNo W))  :
    Calls Try.prog 14 #[.agg #[.int .u8 (mg : Nat), .int .u8 (op : Nat), .int .u16 (kl : Nat), .int .u8 (el : Nat), .int .u8 (ty : Nat), .int .u16 (st : Nat), .int .u32 (bl : Nat), .int .u32 (oq : Nat), .int .u64 (cas : Nat), .slice X nx cx, .slice K nk ck, .slice V nv cv]] w fun e w' => e = .returned (.bool true) ∧ Below w.heap.size w w' := by
  have HSH := Lib.hid hsh
  have HRQ := Lib.hid hrq
  clear hsh hrq
  have k1 := Blk.new w #[.int .u8 (mg : Nat), .int .u8 (op : Nat), .int .u16 (kl : Nat), .int .u8 (el : Nat), .int .u8 (ty : Nat), .int .u16 (st : Nat), .int .u32 (bl : Nat), .int .u32 (oq : Nat), .int .u64 (cas : Nat), .slice X nx cx, .slice K nk ck, .slice V nv cv] 61
  have b : Below w.heap.size w (w.alloc (.cells #[.int .u8 (mg : Nat), .int .u8 (op : Nat), .int .u16 (kl : Nat), .int .u8 (el : Nat), .int .u8 (ty : Nat), .int .u16 (st : Nat), .int .u32 (bl : Nat), .int .u32 (oq : Nat), .int .u64 (cas : Nat), .slice X nx cx, .slice K nk ck, .slice V nv cv] 61)) := below_a1' (Below.refl _ _) _
  go_enter Try.func14, Try.ntmps14
  go_upto_region 1 with fail
  generalize w.alloc (.cells #[.int .u8 (mg : Nat), .int .u8 (op : Nat), .int .u16 (kl : Nat), .int .u8 (el : Nat), .int .u8 (ty : Nat), .int .u16 (st : Nat), .int .u32 (bl : Nat), .int .u32 (oq : Nat), .int .u64 (cas : Nat), .slice X nx cx, .slice K nk ck, .slice V nv cv] 61) = W0 at k1 b ⊢
  go_wp2_with fail
  refine (wakes20 W0).mono ?_
  rintro e w1 ⟨rfl, b1⟩
  replace k1 := k1.step b1
  replace b := below_step b b1
  clear b1
  obtain ⟨a0, a1, a2, a3, a4, a5, a6, a7, a8, a9, a10, a11⟩ := box12 k1
  go_wp2_with fail
  refine (HSH.out _ b).mono ?_
  rintro e w2 ⟨X2, cx2, K2, ck2, V2, cv2, rfl, rX, rK, rV, b1⟩
  replace k1 := k1.step b1
  replace b := below_step b b1
  clear b1 a0 a1 a2 a3 a4 a5 a6 a7 a8 a9 a10 a11
  obtain ⟨z0, z1, z2, z3, z4, z5, z6, z7, z8, z9, z10, z11⟩ := box12 k1
  have y0 := k1.frozen 0
  have y1 := k1.frozen 1
  have y2 := k1.frozen 2
  have y3 := k1.frozen 3
  have y4 := k1.frozen 4
  have y5 := k1.frozen 5
  have y6 := k1.frozen 6
  have y7 := k1.frozen 7
  have y8 := k1.frozen 8
  have y9 := k1.frozen 9
  have y10 := k1.frozen 10
  have y11 := k1.frozen 11
  have kf := blk_set12 k1 (.int .u8 (mg : Nat)) (.int .u8 (op : Nat)) (.int .u16 (kl : Nat)) (.int .u8 (el : Nat)) (.int .u8 (ty : Nat)) (.int .u16 (st : Nat)) (.int .u32 (bl : Nat)) (.int .u32 (oq : Nat)) (.int .u64 (cas : Nat)) (.slice X2 mx cx2) (.slice K2 mk ck2) (.slice V2 mv cv2)
  have hg := grown_set12 w2 w.heap.size (.int .u8 (mg : Nat)) (.int .u8 (op : Nat)) (.int .u16 (kl : Nat)) (.int .u8 (el : Nat)) (.int .u8 (ty : Nat)) (.int .u16 (st : Nat)) (.int .u32 (bl : Nat)) (.int .u32 (oq : Nat)) (.int .u64 (cas : Nat)) (.slice X2 mx cx2) (.slice K2 mk ck2) (.slice V2 mv cv2)
  have b1 := below_grown hg (Nat.le_refl _) k1.lt
  have bff := b.trans b1
  replace rX := rX.below b1
  replace rK := rK.below b1
  replace rV := rV.below b1
  clear hg b k1 b1
  go_upto_region 4 with fail
  generalize ((((((((((((w2.setCell ⟨w.heap.size, 0, none⟩ (.int .u8 (mg : Nat))).setCell ⟨w.heap.size, 1, none⟩ (.int .u8 (op : Nat))).setCell ⟨w.heap.size, 2, none⟩ (.int .u16 (kl : Nat))).setCell ⟨w.heap.size, 3, none⟩ (.int .u8 (el : Nat))).setCell ⟨w.heap.size, 4, none⟩ (.int .u8 (ty : Nat))).setCell ⟨w.heap.size, 5, none⟩ (.int .u16 (st : Nat))).setCell ⟨w.heap.size, 6, none⟩ (.int .u32 (bl : Nat))).setCell ⟨w.heap.size, 7, none⟩ (.int .u32 (oq : Nat))).setCell ⟨w.heap.size, 8, none⟩ (.int .u64 (cas : Nat))).setCell ⟨w.heap.size, 9, none⟩ (.slice X2 mx cx2)).setCell ⟨w.heap.size, 10, none⟩ (.slice K2 mk ck2)).setCell ⟨w.heap.size, 11, none⟩ (.slice V2 mv cv2)) = W2 at kf bff rX rK rV ⊢
  have HW2 := Lib.hid bff.size
  replace rX := rX.more HW2.out
  replace rK := rK.more HW2.out
  replace rV := rV.more HW2.out
  clear z0 z1 z2 z3 z4 z5 z6 z7 z8 z9 z10 z11 y0 y1 y2 y3 y4 y5 y6 y7 y8 y9 y10 y11
  obtain ⟨a0, a1, a2, a3, a4, a5, a6, a7, a8, a9, a10, a11⟩ := box12 kf
  go_wp2_with fail
  refine (HRQ.out _ _ _ _ _ _ _ rX rK rV).mono ?_
  rintro e w3 ⟨rfl, b1⟩
  replace b := below_step bff b1
  clear b1 rX rK rV kf bff a0 a1 a2 a3 a4 a5 a6 a7 a8 a9 a10 a11
  go_wp2_with fail
  go_ret
  exact ⟨rfl, below_a1' b _⟩
set_option maxRecDepth 100000 in
set_option maxHeartbeats 8000000 in
theorem bad_yes (mg op kl el ty st bl oq cas : Nat) (X K V : Option Addr) (nx cx nk ck nv cv mx mk mv : Nat) (ux uk uv : List UInt8) (w : World) (q : RQ) (c bl4 nx4 nk4 nv4 oqq css : Nat) (hsh : ∀ W, Below w.heap.size w W → Calls Try.prog 52 #[.agg #[.int .u8 (mg : Nat), .int .u8 (op : Nat), .int .u16 (kl : Nat), .int .u8 (el : Nat), .int .u8 (ty : Nat), .int .u16 (st : Nat), .int .u32 (bl : Nat), .int .u32 (oq : Nat), .int .u64 (cas : Nat), .slice X nx cx, .slice K nk ck, .slice V nv cv]] W (ShortP w.heap.size mg op kl el ty st bl oq cas mx mk mv ux uk uv W))
    (hrq : ∀ W X2 cx2 K2 ck2 V2 cv2, Rd W W.heap.size X2 mx cx2 ux → Rd W W.heap.size K2 mk ck2 uk → Rd W W.heap.size V2 mv cv2 uv → Calls Try.prog 53 #[.agg #[.int .u8 (mg : Nat), .int .u8 (op : Nat), .int .u16 (kl : Nat), .int .u8 (el : Nat), .int .u8 (ty : Nat), .int .u16 (st : Nat), .int .u32 (bl : Nat), .int .u32 (oq : Nat), .int .u64 (cas : Nat), .slice X2 mx cx2, .slice K2 mk ck2, .slice V2 mv cv2]] W (PrqB q 0 oqq css nk4 nv4 W)) 
    (hfr : ∀ W K4 V4 ck4 cv4, Rd W W.heap.size K4 nk4 ck4 q.lk → Rd W W.heap.size V4 nv4 cv4 q.lv → Calls Try.prog 42 #[.agg #[.int .i64 q.op, .bool q.qt, .bool q.fu, .int .i64 0, .int .u32 (oqq : Nat), .slice K4 nk4 ck4, .slice V4 nv4 cv4, .int .u32 (q.fl : Nat), .int .u32 (q.ex : Nat), .int .u64 (css : Nat), .int .u64 (q.dl : Nat), .int .u64 (q.ni : Nat)]] W (FrmP q c bl4 nx4 nk4 nv4 oqq css W))
    (hr2 : ∀ W X5 K5 V5 cx5 ck5 cv5, Rd W W.heap.size X5 nx4 cx5 (frmX q) → Rd W W.heap.size K5 nk4 ck5 q.lk → Rd W W.heap.size V5 nv4 cv5 q.lv → Calls Try.prog 53 #[.agg #[.int .u8 128, .int .u8 (c : Nat), .int .u16 (nk4 : Nat), .int .u8 (nx4 : Nat), .int .u8 0, .int .u16 0, .int .u32 (bl4 : Nat), .int .u32 (oqq : Nat), .int .u64 (css : Nat), .slice X5 nx4 cx5, .slice K5 nk4 ck5, .slice V5 nv4 cv5]] W (PrqB q 0 oqq css nk4 nv4 W))
    (hsm : ∀ W K4 V4 ck4 cv4 K7 V7 ck7 cv7, Rd W W.heap.size K4 nk4 ck4 q.lk → Rd W W.heap.size V4 nv4 cv4 q.lv → Rd W W.heap.size K7 nk4 ck7 q.lk → Rd W W.heap.size V7 nv4 cv7 q.lv → Calls Try.prog 48 #[.agg #[.int .i64 q.op, .bool q.qt, .bool q.fu, .int .i64 0, .int .u32 (oqq : Nat), .slice K4 nk4 ck4, .slice V4 nv4 cv4, .int .u32 (q.fl : Nat), .int .u32 (q.ex : Nat), .int .u64 (css : Nat), .int .u64 (q.dl : Nat), .int .u64 (q.ni : Nat)], .agg #[.int .i64 q.op, .bool q.qt, .bool q.fu, .int .i64 0, .int .u32 (oqq : Nat), .slice K7 nk4 ck7, .slice V7 nv4 cv7, .int .u32 (q.fl : Nat), .int .u32 (q.ex : Nat), .int .u64 (css : Nat), .int .u64 (q.dl : Nat), .int .u64 (q.ni : Nat)]] W (PSame true W))
    (hk : nk4 ≤ 250) (hv : nv4 ≤ 512) :
    Calls Try.prog 14 #[.agg #[.int .u8 (mg : Nat), .int .u8 (op : Nat), .int .u16 (kl : Nat), .int .u8 (el : Nat), .int .u8 (ty : Nat), .int .u16 (st : Nat), .int .u32 (bl : Nat), .int .u32 (oq : Nat), .int .u64 (cas : Nat), .slice X nx cx, .slice K nk ck, .slice V nv cv]] w fun e w' => e = .returned (.bool true) ∧ Below w.heap.size w w' := by
  have HSH := Lib.hid hsh
  have HRQ := Lib.hid hrq
  have HFR := Lib.hid hfr
  have HR2 := Lib.hid hr2
  have HSM := Lib.hid hsm
  have hk1 : ((nk4 : Int) ≤ 250) = True := eq_true (by omega)
  have hv1 : ((nv4 : Int) ≤ 512) = True := eq_true (by omega)
  clear hsh hrq hfr hr2 hsm hk hv
  have k1 := Blk.new w #[.int .u8 (mg : Nat), .int .u8 (op : Nat), .int .u16 (kl : Nat), .int .u8 (el : Nat), .int .u8 (ty : Nat), .int .u16 (st : Nat), .int .u32 (bl : Nat), .int .u32 (oq : Nat), .int .u64 (cas : Nat), .slice X nx cx, .slice K nk ck, .slice V nv cv] 61
  have b : Below w.heap.size w (w.alloc (.cells #[.int .u8 (mg : Nat), .int .u8 (op : Nat), .int .u16 (kl : Nat), .int .u8 (el : Nat), .int .u8 (ty : Nat), .int .u16 (st : Nat), .int .u32 (bl : Nat), .int .u32 (oq : Nat), .int .u64 (cas : Nat), .slice X nx cx, .slice K nk ck, .slice V nv cv] 61)) := below_a1' (Below.refl _ _) _
  go_enter Try.func14, Try.ntmps14
  go_upto_region 1 with fail
  generalize w.alloc (.cells #[.int .u8 (mg : Nat), .int .u8 (op : Nat), .int .u16 (kl : Nat), .int .u8 (el : Nat), .int .u8 (ty : Nat), .int .u16 (st : Nat), .int .u32 (bl : Nat), .int .u32 (oq : Nat), .int .u64 (cas : Nat), .slice X nx cx, .slice K nk ck, .slice V nv cv] 61) = W0 at k1 b ⊢
  go_wp2_with fail
  refine (wakes20 W0).mono ?_
  rintro e w1 ⟨rfl, b1⟩
  replace k1 := k1.step b1
  replace b := below_step b b1
  clear b1
  obtain ⟨a0, a1, a2, a3, a4, a5, a6, a7, a8, a9, a10, a11⟩ := box12 k1
  go_wp2_with fail
  refine (HSH.out _ b).mono ?_
  rintro e w2 ⟨X2, cx2, K2, ck2, V2, cv2, rfl, rX, rK, rV, b1⟩
  replace k1 := k1.step b1
  replace b := below_step b b1
  clear b1 a0 a1 a2 a3 a4 a5 a6 a7 a8 a9 a10 a11
  obtain ⟨z0, z1, z2, z3, z4, z5, z6, z7, z8, z9, z10, z11⟩ := box12 k1
  have y0 := k1.frozen 0
  have y1 := k1.frozen 1
  have y2 := k1.frozen 2
  have y3 := k1.frozen 3
  have y4 := k1.frozen 4
  have y5 := k1.frozen 5
  have y6 := k1.frozen 6
  have y7 := k1.frozen 7
  have y8 := k1.frozen 8
  have y9 := k1.frozen 9
  have y10 := k1.frozen 10
  have y11 := k1.frozen 11
  have kf := blk_set12 k1 (.int .u8 (mg : Nat)) (.int .u8 (op : Nat)) (.int .u16 (kl : Nat)) (.int .u8 (el : Nat)) (.int .u8 (ty : Nat)) (.int .u16 (st : Nat)) (.int .u32 (bl : Nat)) (.int .u32 (oq : Nat)) (.int .u64 (cas : Nat)) (.slice X2 mx cx2) (.slice K2 mk ck2) (.slice V2 mv cv2)
  have hg := grown_set12 w2 w.heap.size (.int .u8 (mg : Nat)) (.int .u8 (op : Nat)) (.int .u16 (kl : Nat)) (.int .u8 (el : Nat)) (.int .u8 (ty : Nat)) (.int .u16 (st : Nat)) (.int .u32 (bl : Nat)) (.int .u32 (oq : Nat)) (.int .u64 (cas : Nat)) (.slice X2 mx cx2) (.slice K2 mk ck2) (.slice V2 mv cv2)
  have b1 := below_grown hg (Nat.le_refl _) k1.lt
  have bff := b.trans b1
  replace rX := rX.below b1
  replace rK := rK.below b1
  replace rV := rV.below b1
  clear hg b k1 b1
  go_upto_region 4 with fail
  generalize ((((((((((((w2.setCell ⟨w.heap.size, 0, none⟩ (.int .u8 (mg : Nat))).setCell ⟨w.heap.size, 1, none⟩ (.int .u8 (op : Nat))).setCell ⟨w.heap.size, 2, none⟩ (.int .u16 (kl : Nat))).setCell ⟨w.heap.size, 3, none⟩ (.int .u8 (el : Nat))).setCell ⟨w.heap.size, 4, none⟩ (.int .u8 (ty : Nat))).setCell ⟨w.heap.size, 5, none⟩ (.int .u16 (st : Nat))).setCell ⟨w.heap.size, 6, none⟩ (.int .u32 (bl : Nat))).setCell ⟨w.heap.size, 7, none⟩ (.int .u32 (oq : Nat))).setCell ⟨w.heap.size, 8, none⟩ (.int .u64 (cas : Nat))).setCell ⟨w.heap.size, 9, none⟩ (.slice X2 mx cx2)).setCell ⟨w.heap.size, 10, none⟩ (.slice K2 mk ck2)).setCell ⟨w.heap.size, 11, none⟩ (.slice V2 mv cv2)) = W2 at kf bff rX rK rV ⊢
  have HW2 := Lib.hid bff.size
  replace rX := rX.more HW2.out
  replace rK := rK.more HW2.out
  replace rV := rV.more HW2.out
  clear z0 z1 z2 z3 z4 z5 z6 z7 z8 z9 z10 z11 y0 y1 y2 y3 y4 y5 y6 y7 y8 y9 y10 y11
  obtain ⟨a0, a1, a2, a3, a4, a5, a6, a7, a8, a9, a10, a11⟩ := box12 kf
  go_wp2_with fail
  refine (HRQ.out _ _ _ _ _ _ _ rX rK rV).mono ?_
  rintro e w3 ⟨K4, V4, ck4, cv4, rfl, rK4, rV4, b1⟩
  have b := below_step bff b1
  clear b1 rX rK rV kf bff a0 a1 a2 a3 a4 a5 a6 a7 a8 a9 a10 a11
  go_upto_region 5 with fail
  have k3 := Blk.new w3 #[.int .i64 q.op, .bool q.qt, .bool q.fu, .int .i64 0, .int .u32 (oqq : Nat), .slice K4 nk4 ck4, .slice V4 nv4 cv4, .int .u32 (q.fl : Nat), .int .u32 (q.ex : Nat), .int .u64 (css : Nat), .int .u64 (q.dl : Nat), .int .u64 (q.ni : Nat)] 26
  have ba := below_a1' (Below.refl w3.heap.size w3) (.cells #[.int .i64 q.op, .bool q.qt, .bool q.fu, .int .i64 0, .int .u32 (oqq : Nat), .slice K4 nk4 ck4, .slice V4 nv4 cv4, .int .u32 (q.fl : Nat), .int .u32 (q.ex : Nat), .int .u64 (css : Nat), .int .u64 (q.dl : Nat), .int .u64 (q.ni : Nat)] 26)
  replace b := below_step b ba
  replace rK4 := rK4.step ba
  replace rV4 := rV4.step ba
  clear ba
  generalize w3.alloc (.cells #[.int .i64 q.op, .bool q.qt, .bool q.fu, .int .i64 0, .int .u32 (oqq : Nat), .slice K4 nk4 ck4, .slice V4 nv4 cv4, .int .u32 (q.fl : Nat), .int .u32 (q.ex : Nat), .int .u64 (css : Nat), .int .u64 (q.dl : Nat), .int .u64 (q.ni : Nat)] 26) = W3 at b k3 rK4 rV4 ⊢
  generalize w3.heap.size = g3 at k3 ⊢
  obtain ⟨a0, a1, a2, a3, a4, a5, a6, a7, a8, a9, a10, a11⟩ := box12 k3
  go_wp2_with fail
  refine (HFR.out _ _ _ _ _ rK4 rV4).mono ?_
  rintro e w5 ⟨X5, cx5, K5, ck5, V5, cv5, rfl, rX5, rK5, rV5, b1⟩
  replace k3 := k3.step b1
  replace rK4 := rK4.step b1
  replace rV4 := rV4.step b1
  replace b := below_step b b1
  clear b1
  clear a0 a1 a2 a3 a4 a5 a6 a7 a8 a9 a10 a11
  go_upto_region 9 with fail
  have k5 := Blk.new w5 #[.int .u8 128, .int .u8 (c : Nat), .int .u16 (nk4 : Nat), .int .u8 (nx4 : Nat), .int .u8 0, .int .u16 0, .int .u32 (bl4 : Nat), .int .u32 (oqq : Nat), .int .u64 (css : Nat), .slice X5 nx4 cx5, .slice K5 nk4 ck5, .slice V5 nv4 cv5] 61
  have ba := below_a1' (Below.refl w5.heap.size w5) (.cells #[.int .u8 128, .int .u8 (c : Nat), .int .u16 (nk4 : Nat), .int .u8 (nx4 : Nat), .int .u8 0, .int .u16 0, .int .u32 (bl4 : Nat), .int .u32 (oqq : Nat), .int .u64 (css : Nat), .slice X5 nx4 cx5, .slice K5 nk4 ck5, .slice V5 nv4 cv5] 61)
  replace b := below_step b ba
  replace k3 := k3.step ba
  replace rK4 := rK4.step ba
  replace rV4 := rV4.step ba
  replace rX5 := rX5.step ba
  replace rK5 := rK5.step ba
  replace rV5 := rV5.step ba
  clear ba
  generalize w5.alloc (.cells #[.int .u8 128, .int .u8 (c : Nat), .int .u16 (nk4 : Nat), .int .u8 (nx4 : Nat), .int .u8 0, .int .u16 0, .int .u32 (bl4 : Nat), .int .u32 (oqq : Nat), .int .u64 (css : Nat), .slice X5 nx4 cx5, .slice K5 nk4 ck5, .slice V5 nv4 cv5] 61) = W5 at b k5 k3 rK4 rV4 rX5 rK5 rV5 ⊢
  generalize w5.heap.size = g5 at k5 ⊢
  obtain ⟨a0, a1, a2, a3, a4, a5, a6, a7, a8, a9, a10, a11⟩ := box12 k5
  go_wp2_with fail
  refine (HR2.out _ _ _ _ _ _ _ rX5 rK5 rV5).mono ?_
  rintro e w7 ⟨K7, V7, ck7, cv7, rfl, rK7, rV7, b1⟩
  replace k3 := k3.step b1
  replace rK4 := rK4.step b1
  replace rV4 := rV4.step b1
  replace b := below_step b b1
  clear b1
  clear k5 rX5 rK5 rV5 a0 a1 a2 a3 a4 a5 a6 a7 a8 a9 a10 a11
  go_upto_region 10 with fail
  have k7 := Blk.new w7 #[.int .i64 q.op, .bool q.qt, .bool q.fu, .int .i64 0, .int .u32 (oqq : Nat), .slice K7 nk4 ck7, .slice V7 nv4 cv7, .int .u32 (q.fl : Nat), .int .u32 (q.ex : Nat), .int .u64 (css : Nat), .int .u64 (q.dl : Nat), .int .u64 (q.ni : Nat)] 26
  have ba := below_a1' (Below.refl w7.heap.size w7) (.cells #[.int .i64 q.op, .bool q.qt, .bool q.fu, .int .i64 0, .int .u32 (oqq : Nat), .slice K7 nk4 ck7, .slice V7 nv4 cv7, .int .u32 (q.fl : Nat), .int .u32 (q.ex : Nat), .int .u64 (css : Nat), .int .u64 (q.dl : Nat), .int .u64 (q.ni : Nat)] 26)
  replace b := below_step b ba
  replace k3 := k3.step ba
  replace rK4 := rK4.step ba
  replace rV4 := rV4.step ba
  replace rK7 := rK7.step ba
  replace rV7 := rV7.step ba
  clear ba
  generalize w7.alloc (.cells #[.int .i64 q.op, .bool q.qt, .bool q.fu, .int .i64 0, .int .u32 (oqq : Nat), .slice K7 nk4 ck7, .slice V7 nv4 cv7, .int .u32 (q.fl : Nat), .int .u32 (q.ex : Nat), .int .u64 (css : Nat), .int .u64 (q.dl : Nat), .int .u64 (q.ni : Nat)] 26) = W7 at b k7 k3 rK4 rV4 rK7 rV7 ⊢
  generalize w7.heap.size = g7 at k7 ⊢
  obtain ⟨a0, a1, a2, a3, a4, a5, a6, a7, a8, a9, a10, a11⟩ := box12 k3
  obtain ⟨p0, p1, p2, p3, p4, p5, p6, p7, p8, p9, p10, p11⟩ := box12 k7
  go_wp2_with fail
  refine (HSM.out _ _ _ _ _ _ _ _ _ rK4 rV4 rK7 rV7).mono ?_
  unfold PSame
  rintro e w8 ⟨rfl, b1⟩
  replace k3 := k3.step b1
  replace b := below_step b b1
  clear b1
  clear k7 rK4 rV4 rK7 rV7 a0 a1 a2 a3 a4 a5 a6 a7 a8 a9 a10 a11 p0 p1 p2 p3 p4 p5 p6 p7 p8 p9 p10 p11
  obtain ⟨a0, a1, a2, a3, a4, a5, a6, a7, a8, a9, a10, a11⟩ := box12 k3
  go_wp2_with fail
  go_ret
  exact ⟨rfl, b⟩
set_option maxRecDepth 100000 in
set_option maxHeartbeats 8000000 in
theorem bad_129 (mg op kl el ty st bl oq cas : Nat) (X K V : Option Addr) (nx cx nk ck nv cv mx mk mv : Nat) (ux uk uv : List UInt8) (w : World) (q : RQ) (css : Nat) (hcs : css = 0) (hsh : ∀ W, Below w.heap.size w W → Calls Try.prog 52 #[.agg #[.int .u8 (mg : Nat), .int .u8 (op : Nat), .int .u16 (kl : Nat), .int .u8 (el : Nat), .int .u8 (ty : Nat), .int .u16 (st : Nat), .int .u32 (bl : Nat), .int .u32 (oq : Nat), .int .u64 (cas : Nat), .slice X nx cx, .slice K nk ck, .slice V nv cv]] W (ShortP w.heap.size mg op kl el ty st bl oq cas mx mk mv ux uk uv W))
    (hrq : ∀ W X2 cx2 K2 ck2 V2 cv2, Rd W W.heap.size X2 mx cx2 ux → Rd W W.heap.size K2 mk ck2 uk → Rd W W.heap.size V2 mv cv2 uv → Calls Try.prog 53 #[.agg #[.int .u8 (mg : Nat), .int .u8 (op : Nat), .int .u16 (kl : Nat), .int .u8 (el : Nat), .int .u8 (ty : Nat), .int .u16 (st : Nat), .int .u32 (bl : Nat), .int .u32 (oq : Nat), .int .u64 (cas : Nat), .slice X2 mx cx2, .slice K2 mk ck2, .slice V2 mv cv2]] W (PrqB q 129 oq css 0 0 W)) 
    (hco : ∀ W K4 V4 ck4 cv4, Calls Try.prog 43 #[.agg #[.int .i64 q.op, .bool q.qt, .bool q.fu, .int .i64 129, .int .u32 (oq : Nat), .slice K4 0 ck4, .slice V4 0 cv4, .int .u32 (q.fl : Nat), .int .u32 (q.ex : Nat), .int .u64 (css : Nat), .int .u64 (q.dl : Nat), .int .u64 (q.ni : Nat)]] W fun e w' => e = .returned (.tuple #[.int .i64 0, .bool false]) ∧ Below W.heap.size W w')
    (hfr : ∀ W K4 V4 ck4 cv4, Rd W W.heap.size K4 0 ck4 q.lk → Rd W W.heap.size V4 0 cv4 q.lv → Calls Try.prog 42 #[.agg #[.int .i64 q.op, .bool q.qt, .bool q.fu, .int .i64 129, .int .u32 (oq : Nat), .slice K4 0 ck4, .slice V4 0 cv4, .int .u32 (q.fl : Nat), .int .u32 (q.ex : Nat), .int .u64 (css : Nat), .int .u64 (q.dl : Nat), .int .u64 (q.ni : Nat)]] W fun e w' => e = .returned (.tuple #[.agg #[.int .u8 0, .int .u8 0, .int .u16 0, .int .u8 0, .int .u8 0, .int .u16 0, .int .u32 0, .int .u32 0, .int .u64 0, .slice none 0 0, .slice none 0 0, .slice none 0 0], .int .i64 2]) ∧ Below W.heap.size W w') :
    Calls Try.prog 14 #[.agg #[.int .u8 (mg : Nat), .int .u8 (op : Nat), .int .u16 (kl : Nat), .int .u8 (el : Nat), .int .u8 (ty : Nat), .int .u16 (st : Nat), .int .u32 (bl : Nat), .int .u32 (oq : Nat), .int .u64 (cas : Nat), .slice X nx cx, .slice K nk ck, .slice V nv cv]] w fun e w' => e = .returned (.bool true) ∧ Below w.heap.size w w' := by
  have HSH := Lib.hid hsh
  have HRQ := Lib.hid hrq
  have hcs1 : ((css : Int) == 0) = true := by rw [hcs]; rfl
  have hcs2 : ((css : Int) = 0) = True := by rw [hcs]; exact eq_true rfl
  clear hcs
  have HFR := Lib.hid hfr
  have HCO := Lib.hid hco
  clear hsh hrq hfr hco
  have k1 := Blk.new w #[.int .u8 (mg : Nat), .int .u8 (op : Nat), .int .u16 (kl : Nat), .int .u8 (el : Nat), .int .u8 (ty : Nat), .int .u16 (st : Nat), .int .u32 (bl : Nat), .int .u32 (oq : Nat), .int .u64 (cas : Nat), .slice X nx cx, .slice K nk ck, .slice V nv cv] 61
  have b : Below w.heap.size w (w.alloc (.cells #[.int .u8 (mg : Nat), .int .u8 (op : Nat), .int .u16 (kl : Nat), .int .u8 (el : Nat), .int .u8 (ty : Nat), .int .u16 (st : Nat), .int .u32 (bl : Nat), .int .u32 (oq : Nat), .int .u64 (cas : Nat), .slice X nx cx, .slice K nk ck, .slice V nv cv] 61)) := below_a1' (Below.refl _ _) _
  go_enter Try.func14, Try.ntmps14
  go_upto_region 1 with fail
  generalize w.alloc (.cells #[.int .u8 (mg : Nat), .int .u8 (op : Nat), .int .u16 (kl : Nat), .int .u8 (el : Nat), .int .u8 (ty : Nat), .int .u16 (st : Nat), .int .u32 (bl : Nat), .int .u32 (oq : Nat), .int .u64 (cas : Nat), .slice X nx cx, .slice K nk ck, .slice V nv cv] 61) = W0 at k1 b ⊢
  go_wp2_with fail
  refine (wakes20 W0).mono ?_
  rintro e w1 ⟨rfl, b1⟩
  replace k1 := k1.step b1
  replace b := below_step b b1
  clear b1
  obtain ⟨a0, a1, a2, a3, a4, a5, a6, a7, a8, a9, a10, a11⟩ := box12 k1
  go_wp2_with fail
  refine (HSH.out _ b).mono ?_
  rintro e w2 ⟨X2, cx2, K2, ck2, V2, cv2, rfl, rX, rK, rV, b1⟩
  replace k1 := k1.step b1
  replace b := below_step b b1
  clear b1 a0 a1 a2 a3 a4 a5 a6 a7 a8 a9 a10 a11
  obtain ⟨z0, z1, z2, z3, z4, z5, z6, z7, z8, z9, z10, z11⟩ := box12 k1
  have y0 := k1.frozen 0
  have y1 := k1.frozen 1
  have y2 := k1.frozen 2
  have y3 := k1.frozen 3
  have y4 := k1.frozen 4
  have y5 := k1.frozen 5
  have y6 := k1.frozen 6
  have y7 := k1.frozen 7
  have y8 := k1.frozen 8
  have y9 := k1.frozen 9
  have y10 := k1.frozen 10
  have y11 := k1.frozen 11
  have kf := blk_set12 k1 (.int .u8 (mg : Nat)) (.int .u8 (op : Nat)) (.int .u16 (kl : Nat)) (.int .u8 (el : Nat)) (.int .u8 (ty : Nat)) (.int .u16 (st : Nat)) (.int .u32 (bl : Nat)) (.int .u32 (oq : Nat)) (.int .u64 (cas : Nat)) (.slice X2 mx cx2) (.slice K2 mk ck2) (.slice V2 mv cv2)
  have hg := grown_set12 w2 w.heap.size (.int .u8 (mg : Nat)) (.int .u8 (op : Nat)) (.int .u16 (kl : Nat)) (.int .u8 (el : Nat)) (.int .u8 (ty : Nat)) (.int .u16 (st : Nat)) (.int .u32 (bl : Nat)) (.int .u32 (oq : Nat)) (.int .u64 (cas : Nat)) (.slice X2 mx cx2) (.slice K2 mk ck2) (.slice V2 mv cv2)
  have b1 := below_grown hg (Nat.le_refl _) k1.lt
  have bff := b.trans b1
  replace rX := rX.below b1
  replace rK := rK.below b1
  replace rV := rV.below b1
  clear hg b k1 b1
  go_upto_region 4 with fail
  generalize ((((((((((((w2.setCell ⟨w.heap.size, 0, none⟩ (.int .u8 (mg : Nat))).setCell ⟨w.heap.size, 1, none⟩ (.int .u8 (op : Nat))).setCell ⟨w.heap.size, 2, none⟩ (.int .u16 (kl : Nat))).setCell ⟨w.heap.size, 3, none⟩ (.int .u8 (el : Nat))).setCell ⟨w.heap.size, 4, none⟩ (.int .u8 (ty : Nat))).setCell ⟨w.heap.size, 5, none⟩ (.int .u16 (st : Nat))).setCell ⟨w.heap.size, 6, none⟩ (.int .u32 (bl : Nat))).setCell ⟨w.heap.size, 7, none⟩ (.int .u32 (oq : Nat))).setCell ⟨w.heap.size, 8, none⟩ (.int .u64 (cas : Nat))).setCell ⟨w.heap.size, 9, none⟩ (.slice X2 mx cx2)).setCell ⟨w.heap.size, 10, none⟩ (.slice K2 mk ck2)).setCell ⟨w.heap.size, 11, none⟩ (.slice V2 mv cv2)) = W2 at kf bff rX rK rV ⊢
  have HW2 := Lib.hid bff.size
  replace rX := rX.more HW2.out
  replace rK := rK.more HW2.out
  replace rV := rV.more HW2.out
  clear z0 z1 z2 z3 z4 z5 z6 z7 z8 z9 z10 z11 y0 y1 y2 y3 y4 y5 y6 y7 y8 y9 y10 y11
  obtain ⟨a0, a1, a2, a3, a4, a5, a6, a7, a8, a9, a10, a11⟩ := box12 kf
  go_wp2_with fail
  refine (HRQ.out _ _ _ _ _ _ _ rX rK rV).mono ?_
  rintro e w3 ⟨K4, V4, ck4, cv4, rfl, rK4, rV4, b1⟩
  have b := below_step bff b1
  replace kf := kf.step b1
  clear b1 rX rK rV bff a0 a1 a2 a3 a4 a5 a6 a7 a8 a9 a10 a11
  go_upto_region 5 with fail
  have k3 := Blk.new w3 #[.int .i64 q.op, .bool q.qt, .bool q.fu, .int .i64 129, .int .u32 (oq : Nat), .slice K4 0 ck4, .slice V4 0 cv4, .int .u32 (q.fl : Nat), .int .u32 (q.ex : Nat), .int .u64 (css : Nat), .int .u64 (q.dl : Nat), .int .u64 (q.ni : Nat)] 26
  have ba := below_a1' (Below.refl w3.heap.size w3) (.cells #[.int .i64 q.op, .bool q.qt, .bool q.fu, .int .i64 129, .int .u32 (oq : Nat), .slice K4 0 ck4, .slice V4 0 cv4, .int .u32 (q.fl : Nat), .int .u32 (q.ex : Nat), .int .u64 (css : Nat), .int .u64 (q.dl : Nat), .int .u64 (q.ni : Nat)] 26)
  replace b := below_step b ba
  replace kf := kf.step ba
  replace rK4 := rK4.step ba
  replace rV4 := rV4.step ba
  clear ba
  generalize w3.alloc (.cells #[.int .i64 q.op, .bool q.qt, .bool q.fu, .int .i64 129, .int .u32 (oq : Nat), .slice K4 0 ck4, .slice V4 0 cv4, .int .u32 (q.fl : Nat), .int .u32 (q.ex : Nat), .int .u64 (css : Nat), .int .u64 (q.dl : Nat), .int .u64 (q.ni : Nat)] 26) = W3 at b k3 kf rK4 rV4 ⊢
  generalize w3.heap.size = g3 at k3 ⊢
  obtain ⟨a0, a1, a2, a3, a4, a5, a6, a7, a8, a9, a10, a11⟩ := box12 k3
  go_wp2_with fail
  refine (HCO.out _ _ _ _ _).mono ?_
  rintro e w5 ⟨rfl, b1⟩
  replace k3 := k3.step b1
  replace kf := kf.step b1
  replace rK4 := rK4.step b1
  replace rV4 := rV4.step b1
  replace b := below_step b b1
  clear b1
  clear a0 a1 a2 a3 a4 a5 a6 a7 a8 a9 a10 a11
  obtain ⟨a0, a1, a2, a3, a4, a5, a6, a7, a8, a9, a10, a11⟩ := box12 k3
  go_wp2_with fail
  refine (HFR.out _ _ _ _ _ rK4 rV4).mono ?_
  rintro e w6 ⟨rfl, b1⟩
  replace k3 := k3.step b1
  replace kf := kf.step b1
  replace b := below_step b b1
  clear b1
  clear rK4 rV4 a0 a1 a2 a3 a4 a5 a6 a7 a8 a9 a10 a11
  obtain ⟨a0, a1, a2, a3, a4, a5, a6, a7, a8, a9, a10, a11⟩ := box12 k3
  obtain ⟨p0, p1, p2, p3, p4, p5, p6, p7, p8, p9, p10, p11⟩ := box12 kf
  go_wp2_with fail
  go_ret
  exact ⟨rfl, b⟩
set_option maxRecDepth 100000 in
set_option maxHeartbeats 8000000 in
theorem bad_4 (mg op kl el ty st bl oq cas : Nat) (X K V : Option Addr) (nx cx nk ck nv cv mx mk mv : Nat) (ux uk uv : List UInt8) (w : World) (q : RQ) (css : Nat) (hcs : css = 0) (hsh : ∀ W, Below w.heap.size w W → Calls Try.prog 52 #[.agg #[.int .u8 (mg : Nat), .int .u8 (op : Nat), .int .u16 (kl : Nat), .int .u8 (el : Nat), .int .u8 (ty : Nat), .int .u16 (st : Nat), .int .u32 (bl : Nat), .int .u32 (oq : Nat), .int .u64 (cas : Nat), .slice X nx cx, .slice K nk ck, .slice V nv cv]] W (ShortP w.heap.size mg op kl el ty st bl oq cas mx mk mv ux uk uv W))
    (hrq : ∀ W X2 cx2 K2 ck2 V2 cv2, Rd W W.heap.size X2 mx cx2 ux → Rd W W.heap.size K2 mk ck2 uk → Rd W W.heap.size V2 mv cv2 uv → Calls Try.prog 53 #[.agg #[.int .u8 (mg : Nat), .int .u8 (op : Nat), .int .u16 (kl : Nat), .int .u8 (el : Nat), .int .u8 (ty : Nat), .int .u16 (st : Nat), .int .u32 (bl : Nat), .int .u32 (oq : Nat), .int .u64 (cas : Nat), .slice X2 mx cx2, .slice K2 mk ck2, .slice V2 mv cv2]] W (PrqB q 4 oq css 0 0 W)) 
    (hco : ∀ W K4 V4 ck4 cv4, Calls Try.prog 43 #[.agg #[.int .i64 q.op, .bool q.qt, .bool q.fu, .int .i64 4, .int .u32 (oq : Nat), .slice K4 0 ck4, .slice V4 0 cv4, .int .u32 (q.fl : Nat), .int .u32 (q.ex : Nat), .int .u64 (css : Nat), .int .u64 (q.dl : Nat), .int .u64 (q.ni : Nat)]] W fun e w' => e = .returned (.tuple #[.int .i64 0, .bool false]) ∧ Below W.heap.size W w')
    (hfr : ∀ W K4 V4 ck4 cv4, Rd W W.heap.size K4 0 ck4 q.lk → Rd W W.heap.size V4 0 cv4 q.lv → Calls Try.prog 42 #[.agg #[.int .i64 q.op, .bool q.qt, .bool q.fu, .int .i64 4, .int .u32 (oq : Nat), .slice K4 0 ck4, .slice V4 0 cv4, .int .u32 (q.fl : Nat), .int .u32 (q.ex : Nat), .int .u64 (css : Nat), .int .u64 (q.dl : Nat), .int .u64 (q.ni : Nat)]] W fun e w' => e = .returned (.tuple #[.agg #[.int .u8 0, .int .u8 0, .int .u16 0, .int .u8 0, .int .u8 0, .int .u16 0, .int .u32 0, .int .u32 0, .int .u64 0, .slice none 0 0, .slice none 0 0, .slice none 0 0], .int .i64 2]) ∧ Below W.heap.size W w') :
    Calls Try.prog 14 #[.agg #[.int .u8 (mg : Nat), .int .u8 (op : Nat), .int .u16 (kl : Nat), .int .u8 (el : Nat), .int .u8 (ty : Nat), .int .u16 (st : Nat), .int .u32 (bl : Nat), .int .u32 (oq : Nat), .int .u64 (cas : Nat), .slice X nx cx, .slice K nk ck, .slice V nv cv]] w fun e w' => e = .returned (.bool true) ∧ Below w.heap.size w w' := by
  have HSH := Lib.hid hsh
  have HRQ := Lib.hid hrq
  have hcs1 : ((css : Int) == 0) = true := by rw [hcs]; rfl
  have hcs2 : ((css : Int) = 0) = True := by rw [hcs]; exact eq_true rfl
  clear hcs
  have HFR := Lib.hid hfr
  have HCO := Lib.hid hco
  clear hsh hrq hfr hco
  have k1 := Blk.new w #[.int .u8 (mg : Nat), .int .u8 (op : Nat), .int .u16 (kl : Nat), .int .u8 (el : Nat), .int .u8 (ty : Nat), .int .u16 (st : Nat), .int .u32 (bl : Nat), .int .u32 (oq : Nat), .int .u64 (cas : Nat), .slice X nx cx, .slice K nk ck, .slice V nv cv] 61
  have b : Below w.heap.size w (w.alloc (.cells #[.int .u8 (mg : Nat), .int .u8 (op : Nat), .int .u16 (kl : Nat), .int .u8 (el : Nat), .int .u8 (ty : Nat), .int .u16 (st : Nat), .int .u32 (bl : Nat), .int .u32 (oq : Nat), .int .u64 (cas : Nat), .slice X nx cx, .slice K nk ck, .slice V nv cv] 61)) := below_a1' (Below.refl _ _) _
  go_enter Try.func14, Try.ntmps14
  go_upto_region 1 with fail
  generalize w.alloc (.cells #[.int .u8 (mg : Nat), .int .u8 (op : Nat), .int .u16 (kl : Nat), .int .u8 (el : Nat), .int .u8 (ty : Nat), .int .u16 (st : Nat), .int .u32 (bl : Nat), .int .u32 (oq : Nat), .int .u64 (cas : Nat), .slice X nx cx, .slice K nk ck, .slice V nv cv] 61) = W0 at k1 b ⊢
  go_wp2_with fail
  refine (wakes20 W0).mono ?_
  rintro e w1 ⟨rfl, b1⟩
  replace k1 := k1.step b1
  replace b := below_step b b1
  clear b1
  obtain ⟨a0, a1, a2, a3, a4, a5, a6, a7, a8, a9, a10, a11⟩ := box12 k1
  go_wp2_with fail
  refine (HSH.out _ b).mono ?_
  rintro e w2 ⟨X2, cx2, K2, ck2, V2, cv2, rfl, rX, rK, rV, b1⟩
  replace k1 := k1.step b1
  replace b := below_step b b1
  clear b1 a0 a1 a2 a3 a4 a5 a6 a7 a8 a9 a10 a11
  obtain ⟨z0, z1, z2, z3, z4, z5, z6, z7, z8, z9, z10, z11⟩ := box12 k1
  have y0 := k1.frozen 0
  have y1 := k1.frozen 1
  have y2 := k1.frozen 2
  have y3 := k1.frozen 3
  have y4 := k1.frozen 4
  have y5 := k1.frozen 5
  have y6 := k1.frozen 6
  have y7 := k1.frozen 7
  have y8 := k1.frozen 8
  have y9 := k1.frozen 9
  have y10 := k1.frozen 10
  have y11 := k1.frozen 11
  have kf := blk_set12 k1 (.int .u8 (mg : Nat)) (.int .u8 (op : Nat)) (.int .u16 (kl : Nat)) (.int .u8 (el : Nat)) (.int .u8 (ty : Nat)) (.int .u16 (st : Nat)) (.int .u32 (bl : Nat)) (.int .u32 (oq : Nat)) (.int .u64 (cas : Nat)) (.slice X2 mx cx2) (.slice K2 mk ck2) (.slice V2 mv cv2)
  have hg := grown_set12 w2 w.heap.size (.int .u8 (mg : Nat)) (.int .u8 (op : Nat)) (.int .u16 (kl : Nat)) (.int .u8 (el : Nat)) (.int .u8 (ty : Nat)) (.int .u16 (st : Nat)) (.int .u32 (bl : Nat)) (.int .u32 (oq : Nat)) (.int .u64 (cas : Nat)) (.slice X2 mx cx2) (.slice K2 mk ck2) (.slice V2 mv cv2)
  have b1 := below_grown hg (Nat.le_refl _) k1.lt
  have bff := b.trans b1
  replace rX := rX.below b1
  replace rK := rK.below b1
  replace rV := rV.below b1
  clear hg b k1 b1
  go_upto_region 4 with fail
  generalize ((((((((((((w2.setCell ⟨w.heap.size, 0, none⟩ (.int .u8 (mg : Nat))).setCell ⟨w.heap.size, 1, none⟩ (.int .u8 (op : Nat))).setCell ⟨w.heap.size, 2, none⟩ (.int .u16 (kl : Nat))).setCell ⟨w.heap.size, 3, none⟩ (.int .u8 (el : Nat))).setCell ⟨w.heap.size, 4, none⟩ (.int .u8 (ty : Nat))).setCell ⟨w.heap.size, 5, none⟩ (.int .u16 (st : Nat))).setCell ⟨w.heap.size, 6, none⟩ (.int .u32 (bl : Nat))).setCell ⟨w.heap.size, 7, none⟩ (.int .u32 (oq : Nat))).setCell ⟨w.heap.size, 8, none⟩ (.int .u64 (cas : Nat))).setCell ⟨w.heap.size, 9, none⟩ (.slice X2 mx cx2)).setCell ⟨w.heap.size, 10, none⟩ (.slice K2 mk ck2)).setCell ⟨w.heap.size, 11, none⟩ (.slice V2 mv cv2)) = W2 at kf bff rX rK rV ⊢
  have HW2 := Lib.hid bff.size
  replace rX := rX.more HW2.out
  replace rK := rK.more HW2.out
  replace rV := rV.more HW2.out
  clear z0 z1 z2 z3 z4 z5 z6 z7 z8 z9 z10 z11 y0 y1 y2 y3 y4 y5 y6 y7 y8 y9 y10 y11
  obtain ⟨a0, a1, a2, a3, a4, a5, a6, a7, a8, a9, a10, a11⟩ := box12 kf
  go_wp2_with fail
  refine (HRQ.out _ _ _ _ _ _ _ rX rK rV).mono ?_
  rintro e w3 ⟨K4, V4, ck4, cv4, rfl, rK4, rV4, b1⟩
  have b := below_step bff b1
  replace kf := kf.step b1
  clear b1 rX rK rV bff a0 a1 a2 a3 a4 a5 a6 a7 a8 a9 a10 a11
  go_upto_region 5 with fail
  have k3 := Blk.new w3 #[.int .i64 q.op, .bool q.qt, .bool q.fu, .int .i64 4, .int .u32 (oq : Nat), .slice K4 0 ck4, .slice V4 0 cv4, .int .u32 (q.fl : Nat), .int .u32 (q.ex : Nat), .int .u64 (css : Nat), .int .u64 (q.dl : Nat), .int .u64 (q.ni : Nat)] 26
  have ba := below_a1' (Below.refl w3.heap.size w3) (.cells #[.int .i64 q.op, .bool q.qt, .bool q.fu, .int .i64 4, .int .u32 (oq : Nat), .slice K4 0 ck4, .slice V4 0 cv4, .int .u32 (q.fl : Nat), .int .u32 (q.ex : Nat), .int .u64 (css : Nat), .int .u64 (q.dl : Nat), .int .u64 (q.ni : Nat)] 26)
  replace b := below_step b ba
  replace kf := kf.step ba
  replace rK4 := rK4.step ba
  replace rV4 := rV4.step ba
  clear ba
  generalize w3.alloc (.cells #[.int .i64 q.op, .bool q.qt, .bool q.fu, .int .i64 4, .int .u32 (oq : Nat), .slice K4 0 ck4, .slice V4 0 cv4, .int .u32 (q.fl : Nat), .int .u32 (q.ex : Nat), .int .u64 (css : Nat), .int .u64 (q.dl : Nat), .int .u64 (q.ni : Nat)] 26) = W3 at b k3 kf rK4 rV4 ⊢
  generalize w3.heap.size = g3 at k3 ⊢
  obtain ⟨a0, a1, a2, a3, a4, a5, a6, a7, a8, a9, a10, a11⟩ := box12 k3
  go_wp2_with fail
  refine (HCO.out _ _ _ _ _).mono ?_
  rintro e w5 ⟨rfl, b1⟩
  replace k3 := k3.step b1
  replace kf := kf.step b1
  replace rK4 := rK4.step b1
  replace rV4 := rV4.step b1
  replace b := below_step b b1
  clear b1
  clear a0 a1 a2 a3 a4 a5 a6 a7 a8 a9 a10 a11
  obtain ⟨a0, a1, a2, a3, a4, a5, a6, a7, a8, a9, a10, a11⟩ := box12 k3
  go_wp2_with fail
  refine (HFR.out _ _ _ _ _ rK4 rV4).mono ?_
  rintro e w6 ⟨rfl, b1⟩
  replace k3 := k3.step b1
  replace kf := kf.step b1
  replace b := below_step b b1
  clear b1
  clear rK4 rV4 a0 a1 a2 a3 a4 a5 a6 a7 a8 a9 a10 a11
  obtain ⟨a0, a1, a2, a3, a4, a5, a6, a7, a8, a9, a10, a11⟩ := box12 k3
  obtain ⟨p0, p1, p2, p3, p4, p5, p6, p7, p8, p9, p10, p11⟩ := box12 kf
  go_wp2_with fail
  go_ret
  exact ⟨rfl, b⟩
set_option maxRecDepth 100000 in
set_option maxHeartbeats 8000000 in
theorem bad_3 (mg op kl el ty st bl oq cas : Nat) (X K V : Option Addr) (nx cx nk ck nv cv mx mk mv : Nat) (ux uk uv : List UInt8) (w : World) (q : RQ) (css : Nat) (hcs : css = 0) (hsh : ∀ W, Below w.heap.size w W → Calls Try.prog 52 #[.agg #[.int .u8 (mg : Nat), .int .u8 (op : Nat), .int .u16 (kl : Nat), .int .u8 (el : Nat), .int .u8 (ty : Nat), .int .u16 (st : Nat), .int .u32 (bl : Nat), .int .u32 (oq : Nat), .int .u64 (cas : Nat), .slice X nx cx, .slice K nk ck, .slice V nv cv]] W (ShortP w.heap.size mg op kl el ty st bl oq cas mx mk mv ux uk uv W))
    (hrq : ∀ W X2 cx2 K2 ck2 V2 cv2, Rd W W.heap.size X2 mx cx2 ux → Rd W W.heap.size K2 mk ck2 uk → Rd W W.heap.size V2 mv cv2 uv → Calls Try.prog 53 #[.agg #[.int .u8 (mg : Nat), .int .u8 (op : Nat), .int .u16 (kl : Nat), .int .u8 (el : Nat), .int .u8 (ty : Nat), .int .u16 (st : Nat), .int .u32 (bl : Nat), .int .u32 (oq : Nat), .int .u64 (cas : Nat), .slice X2 mx cx2, .slice K2 mk ck2, .slice V2 mv cv2]] W (PrqB q 3 oq css 0 0 W)) 
    (hco : ∀ W K4 V4 ck4 cv4, Calls Try.prog 43 #[.agg #[.int .i64 q.op, .bool q.qt, .bool q.fu, .int .i64 3, .int .u32 (oq : Nat), .slice K4 0 ck4, .slice V4 0 cv4, .int .u32 (q.fl : Nat), .int .u32 (q.ex : Nat), .int .u64 (css : Nat), .int .u64 (q.dl : Nat), .int .u64 (q.ni : Nat)]] W fun e w' => e = .returned (.tuple #[.int .i64 0, .bool false]) ∧ Below W.heap.size W w')
    (hfr : ∀ W K4 V4 ck4 cv4, Rd W W.heap.size K4 0 ck4 q.lk → Rd W W.heap.size V4 0 cv4 q.lv → Calls Try.prog 42 #[.agg #[.int .i64 q.op, .bool q.qt, .bool q.fu, .int .i64 3, .int .u32 (oq : Nat), .slice K4 0 ck4, .slice V4 0 cv4, .int .u32 (q.fl : Nat), .int .u32 (q.ex : Nat), .int .u64 (css : Nat), .int .u64 (q.dl : Nat), .int .u64 (q.ni : Nat)]] W fun e w' => e = .returned (.tuple #[.agg #[.int .u8 0, .int .u8 0, .int .u16 0, .int .u8 0, .int .u8 0, .int .u16 0, .int .u32 0, .int .u32 0, .int .u64 0, .slice none 0 0, .slice none 0 0, .slice none 0 0], .int .i64 2]) ∧ Below W.heap.size W w') :
    Calls Try.prog 14 #[.agg #[.int .u8 (mg : Nat), .int .u8 (op : Nat), .int .u16 (kl : Nat), .int .u8 (el : Nat), .int .u8 (ty : Nat), .int .u16 (st : Nat), .int .u32 (bl : Nat), .int .u32 (oq : Nat), .int .u64 (cas : Nat), .slice X nx cx, .slice K nk ck, .slice V nv cv]] w fun e w' => e = .returned (.bool true) ∧ Below w.heap.size w w' := by
  have HSH := Lib.hid hsh
  have HRQ := Lib.hid hrq
  have hcs1 : ((css : Int) == 0) = true := by rw [hcs]; rfl
  have hcs2 : ((css : Int) = 0) = True := by rw [hcs]; exact eq_true rfl
  clear hcs
  have HFR := Lib.hid hfr
  have HCO := Lib.hid hco
  clear hsh hrq hfr hco
  have k1 := Blk.new w #[.int .u8 (mg : Nat), .int .u8 (op : Nat), .int .u16 (kl : Nat), .int .u8 (el : Nat), .int .u8 (ty : Nat), .int .u16 (st : Nat), .int .u32 (bl : Nat), .int .u32 (oq : Nat), .int .u64 (cas : Nat), .slice X nx cx, .slice K nk ck, .slice V nv cv] 61
  have b : Below w.heap.size w (w.alloc (.cells #[.int .u8 (mg : Nat), .int .u8 (op : Nat), .int .u16 (kl : Nat), .int .u8 (el : Nat), .int .u8 (ty : Nat), .int .u16 (st : Nat), .int .u32 (bl : Nat), .int .u32 (oq : Nat), .int .u64 (cas : Nat), .slice X nx cx, .slice K nk ck, .slice V nv cv] 61)) := below_a1' (Below.refl _ _) _
  go_enter Try.func14, Try.ntmps14
  go_upto_region 1 with fail
  generalize w.alloc (.cells #[.int .u8 (mg : Nat), .int .u8 (op : Nat), .int .u16 (kl : Nat), .int .u8 (el : Nat), .int .u8 (ty : Nat), .int .u16 (st : Nat), .int .u32 (bl : Nat), .int .u32 (oq : Nat), .int .u64 (cas : Nat), .slice X nx cx, .slice K nk ck, .slice V nv cv] 61) = W0 at k1 b ⊢
  go_wp2_with fail
  refine (wakes20 W0).mono ?_
  rintro e w1 ⟨rfl, b1⟩
  replace k1 := k1.step b1
  replace b := below_step b b1
  clear b1
  obtain ⟨a0, a1, a2, a3, a4, a5, a6, a7, a8, a9, a10, a11⟩ := box12 k1
  go_wp2_with fail
  refine (HSH.out _ b).mono ?_
  rintro e w2 ⟨X2, cx2, K2, ck2, V2, cv2, rfl, rX, rK, rV, b1⟩
  replace k1 := k1.step b1
  replace b := below_step b b1
  clear b1 a0 a1 a2 a3 a4 a5 a6 a7 a8 a9 a10 a11
  obtain ⟨z0, z1, z2, z3, z4, z5, z6, z7, z8, z9, z10, z11⟩ := box12 k1
  have y0 := k1.frozen 0
  have y1 := k1.frozen 1
  have y2 := k1.frozen 2
  have y3 := k1.frozen 3
  have y4 := k1.frozen 4
  have y5 := k1.frozen 5
  have y6 := k1.frozen 6
  have y7 := k1.frozen 7
  have y8 := k1.frozen 8
  have y9 := k1.frozen 9
  have y10 := k1.frozen 10
  have y11 := k1.frozen 11
  have kf := blk_set12 k1 (.int .u8 (mg : Nat)) (.int .u8 (op : Nat)) (.int .u16 (kl : Nat)) (.int .u8 (el : Nat)) (.int .u8 (ty : Nat)) (.int .u16 (st : Nat)) (.int .u32 (bl : Nat)) (.int .u32 (oq : Nat)) (.int .u64 (cas : Nat)) (.slice X2 mx cx2) (.slice K2 mk ck2) (.slice V2 mv cv2)
  have hg := grown_set12 w2 w.heap.size (.int .u8 (mg : Nat)) (.int .u8 (op : Nat)) (.int .u16 (kl : Nat)) (.int .u8 (el : Nat)) (.int .u8 (ty : Nat)) (.int .u16 (st : Nat)) (.int .u32 (bl : Nat)) (.int .u32 (oq : Nat)) (.int .u64 (cas : Nat)) (.slice X2 mx cx2) (.slice K2 mk ck2) (.slice V2 mv cv2)
  have b1 := below_grown hg (Nat.le_refl _) k1.lt
  have bff := b.trans b1
  replace rX := rX.below b1
  replace rK := rK.below b1
  replace rV := rV.below b1
  clear hg b k1 b1
  go_upto_region 4 with fail
  generalize ((((((((((((w2.setCell ⟨w.heap.size, 0, none⟩ (.int .u8 (mg : Nat))).setCell ⟨w.heap.size, 1, none⟩ (.int .u8 (op : Nat))).setCell ⟨w.heap.size, 2, none⟩ (.int .u16 (kl : Nat))).setCell ⟨w.heap.size, 3, none⟩ (.int .u8 (el : Nat))).setCell ⟨w.heap.size, 4, none⟩ (.int .u8 (ty : Nat))).setCell ⟨w.heap.size, 5, none⟩ (.int .u16 (st : Nat))).setCell ⟨w.heap.size, 6, none⟩ (.int .u32 (bl : Nat))).setCell ⟨w.heap.size, 7, none⟩ (.int .u32 (oq : Nat))).setCell ⟨w.heap.size, 8, none⟩ (.int .u64 (cas : Nat))).setCell ⟨w.heap.size, 9, none⟩ (.slice X2 mx cx2)).setCell ⟨w.heap.size, 10, none⟩ (.slice K2 mk ck2)).setCell ⟨w.heap.size, 11, none⟩ (.slice V2 mv cv2)) = W2 at kf bff rX rK rV ⊢
  have HW2 := Lib.hid bff.size
  replace rX := rX.more HW2.out
  replace rK := rK.more HW2.out
  replace rV := rV.more HW2.out
  clear z0 z1 z2 z3 z4 z5 z6 z7 z8 z9 z10 z11 y0 y1 y2 y3 y4 y5 y6 y7 y8 y9 y10 y11
  obtain ⟨a0, a1, a2, a3, a4, a5, a6, a7, a8, a9, a10, a11⟩ := box12 kf
  go_wp2_with fail
  refine (HRQ.out _ _ _ _ _ _ _ rX rK rV).mono ?_
  rintro e w3 ⟨K4, V4, ck4, cv4, rfl, rK4, rV4, b1⟩
  have b := below_step bff b1
  replace kf := kf.step b1
  clear b1 rX rK rV bff a0 a1 a2 a3 a4 a5 a6 a7 a8 a9 a10 a11
  go_upto_region 5 with fail
  have k3 := Blk.new w3 #[.int .i64 q.op, .bool q.qt, .bool q.fu, .int .i64 3, .int .u32 (oq : Nat), .slice K4 0 ck4, .slice V4 0 cv4, .int .u32 (q.fl : Nat), .int .u32 (q.ex : Nat), .int .u64 (css : Nat), .int .u64 (q.dl : Nat), .int .u64 (q.ni : Nat)] 26
  have ba := below_a1' (Below.refl w3.heap.size w3) (.cells #[.int .i64 q.op, .bool q.qt, .bool q.fu, .int .i64 3, .int .u32 (oq : Nat), .slice K4 0 ck4, .slice V4 0 cv4, .int .u32 (q.fl : Nat), .int .u32 (q.ex : Nat), .int .u64 (css : Nat), .int .u64 (q.dl : Nat), .int .u64 (q.ni : Nat)] 26)
  replace b := below_step b ba
  replace kf := kf.step ba
  replace rK4 := rK4.step ba
  replace rV4 := rV4.step ba
  clear ba
  generalize w3.alloc (.cells #[.int .i64 q.op, .bool q.qt, .bool q.fu, .int .i64 3, .int .u32 (oq : Nat), .slice K4 0 ck4, .slice V4 0 cv4, .int .u32 (q.fl : Nat), .int .u32 (q.ex : Nat), .int .u64 (css : Nat), .int .u64 (q.dl : Nat), .int .u64 (q.ni : Nat)] 26) = W3 at b k3 kf rK4 rV4 ⊢
  generalize w3.heap.size = g3 at k3 ⊢
  obtain ⟨a0, a1, a2, a3, a4, a5, a6, a7, a8, a9, a10, a11⟩ := box12 k3
  go_wp2_with fail
  refine (HCO.out _ _ _ _ _).mono ?_
  rintro e w5 ⟨rfl, b1⟩
  replace k3 := k3.step b1
  replace kf := kf.step b1
  replace rK4 := rK4.step b1
  replace rV4 := rV4.step b1
  replace b := below_step b b1
  clear b1
  clear a0 a1 a2 a3 a4 a5 a6 a7 a8 a9 a10 a11
  obtain ⟨a0, a1, a2, a3, a4, a5, a6, a7, a8, a9, a10, a11⟩ := box12 k3
  go_wp2_with fail
  refine (HFR.out _ _ _ _ _ rK4 rV4).mono ?_
  rintro e w6 ⟨rfl, b1⟩
  replace k3 := k3.step b1
  replace kf := kf.step b1
  replace b := below_step b b1
  clear b1
  clear rK4 rV4 a0 a1 a2 a3 a4 a5 a6 a7 a8 a9 a10 a11
  obtain ⟨a0, a1, a2, a3, a4, a5, a6, a7, a8, a9, a10, a11⟩ := box12 k3
  obtain ⟨p0, p1, p2, p3, p4, p5, p6, p7, p8, p9, p10, p11⟩ := box12 kf
  go_wp2_with fail
  go_ret
  exact ⟨rfl, b⟩
end Go.Proofs.Ytnghmgbmflcngaa

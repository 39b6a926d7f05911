/- icehouseref20.Frame. Conditions: typed in each theorem. -/
import Derived.Test.YtnghmgbmflcngaaMst
import Derived.Test.YtnghmgbmflcngaaFnd
import Derived.Test.YtnghmgbmflcngaaNu20
import Derived.Test.YtnghmgbmflcngaaPrs
import Derived.Test.YtnghmgbmflcngaaPfr
import Derived.Test.YtnghmgbmflcngaaZfre
import Derived.Deep.DeepCutAuto
import Derived.Deep.CutBlock
namespace Go.Proofs.Ytnghmgbmflcngaa
set_option linter.unusedVariables false
open Go.RowKit

def RFrNo (w : World) (e : Ending) (w' : World) : Prop := e = .returned (.tuple #[zeroFr, .bool false]) ∧ Below w.heap.size w w'
def RFrOk (code oq cas bl nk nv : Nat) (lx lk lv : List UInt8) (w : World) (e : Ending) (w' : World) : Prop := ∃ (X K V : Option Addr) (nx cx ck cv : Nat), e = .returned (.tuple #[frV 128 code nk nx 0 0 bl oq cas (.slice X nx cx) (.slice K nk ck) (.slice V nv cv), .bool true]) ∧ nx = lx.length ∧ Rd w' w'.heap.size X nx cx lx ∧ Rd w' w'.heap.size K nk ck lk ∧ Rd w' w'.heap.size V nv cv lv ∧ Below w.heap.size w w'
def ReqP2 (op' : Int) (qt' fu' : Bool) (bd' : Int) (oq' : Nat) (lk lv : List UInt8) (fl' ex' cs' dl' ini' : Nat) (w : World) (e : Ending) (w' : World) : Prop :=
  ∃ (K2 V2 : Option Addr) (nk2 ck2 nv2 cv2 : Nat), e = .returned (.agg #[.int .i64 op', .bool qt', .bool fu', .int .i64 bd', .int .u32 (oq' : Nat), .slice K2 nk2 ck2, .slice V2 nv2 cv2, .int .u32 (fl' : Nat), .int .u32 (ex' : Nat), .int .u64 (cs' : Nat), .int .u64 (dl' : Nat), .int .u64 (ini' : Nat)]) ∧ Own w' w.heap.size K2 nk2 ck2 lk ∧ Own w' w.heap.size V2 nv2 cv2 lv ∧ Below w.heap.size w w'
theorem wr8 {n : Nat} (h : n < 256) : IntKind.u8.wrap (n : Int) = (n : Int) := IntWalk.u8_in _ (by omega)
theorem neA {a b c : Nat} (h1 : a < b) (h2 : b ≤ c) : a ≠ c := by omega
theorem wr16 {n : Nat} (h : n < 65536) : IntKind.u16.wrap (n : Int) = (n : Int) := IntWalk.u16_in _ (by omega)
section
variable {a b c : Nat}
theorem wrS (h1 : a ≤ 60000) (h2 : b ≤ 60000) : IntKind.i64.wrap ((a : Int) + (b : Int)) = (a : Int) + (b : Int) := IntWalk.i64_in _ (by omega)
theorem wrS' (h1 : a ≤ 60000) (h2 : b ≤ 60000) : wrap64 ((a : Int) + (b : Int)) = (a : Int) + (b : Int) := IntWalk.wrap64_in _ (by omega)
theorem wrT (h1 : a ≤ 60000) (h2 : b ≤ 60000) (h3 : c ≤ 20) : IntKind.i64.wrap ((a : Int) + (b : Int) + (c : Int)) = (a : Int) + (b : Int) + (c : Int) := IntWalk.i64_in _ (by omega)
theorem wrT' (h1 : a ≤ 60000) (h2 : b ≤ 60000) (h3 : c ≤ 20) : wrap64 ((a : Int) + (b : Int) + (c : Int)) = (a : Int) + (b : Int) + (c : Int) := IntWalk.wrap64_in _ (by omega)
theorem wrU {d : Nat} (h1 : a ≤ 60000) (h2 : b ≤ 60000) (h3 : c ≤ 20) (h4 : d = c + a + b) : IntKind.u32.wrap ((a : Int) + (b : Int) + (c : Int)) = (d : Int) := by rw [IntWalk.u32_in _ (by omega)]; omega
end
set_option maxRecDepth 100000 in
set_option maxHeartbeats 6000000 in
theorem rframe_none (op : Int) (qt fu : Bool) (bd : Int) (oq fl ex cas dl ini : Nat) (K V : Option Addr) (nk ck nv cv : Nat) (w : World) (hc : code20 op qt fu bd = none) :
    Calls Try.prog 46 #[reqV op qt fu bd oq (.slice K nk ck) (.slice V nv cv) fl ex cas dl ini] w (RFrNo w) := by
  have HCODE : Hid (∀ W, Calls Try.prog 44 #[.agg #[.int .i64 op, .bool qt, .bool fu, .int .i64 bd, .int .u32 (oq : Nat), .slice K nk ck, .slice V nv cv, .int .u32 (fl : Nat), .int .u32 (ex : Nat), .int .u64 (cas : Nat), .int .u64 (dl : Nat), .int .u64 (ini : Nat)]] W fun e w' => e = .returned (.tuple #[.int .i64 0, .bool false]) ∧ Below W.heap.size W w') := Lib.hid (fun W => by
    have h := rcode20_any op qt fu bd oq (.slice K nk ck) (.slice V nv cv) fl ex cas dl ini W
    rw [hc] at h
    exact h)
  have k1 := (Blk.new w #[.int .i64 op, .bool qt, .bool fu, .int .i64 bd, .int .u32 (oq : Nat), .slice K nk ck, .slice V nv cv, .int .u32 (fl : Nat), .int .u32 (ex : Nat), .int .u64 (cas : Nat), .int .u64 (dl : Nat), .int .u64 (ini : Nat)] 26).alloc (.cells #[.int .u8 0, .int .u8 0, .int .u16 0, .int .u8 0, .int .u8 0, .int .u16 0, .int .u32 0, .int .u32 0, .int .u64 0, .slice none 0 0, .slice none 0 0, .slice none 0 0] 61)
  have k2 := Blk.new (w.alloc (.cells #[.int .i64 op, .bool qt, .bool fu, .int .i64 bd, .int .u32 (oq : Nat), .slice K nk ck, .slice V nv cv, .int .u32 (fl : Nat), .int .u32 (ex : Nat), .int .u64 (cas : Nat), .int .u64 (dl : Nat), .int .u64 (ini : Nat)] 26)) #[.int .u8 0, .int .u8 0, .int .u16 0, .int .u8 0, .int .u8 0, .int .u16 0, .int .u32 0, .int .u32 0, .int .u64 0, .slice none 0 0, .slice none 0 0, .slice none 0 0] 61
  have b := below_a1' (below_a1' (Below.refl w.heap.size w) (.cells #[.int .i64 op, .bool qt, .bool fu, .int .i64 bd, .int .u32 (oq : Nat), .slice K nk ck, .slice V nv cv, .int .u32 (fl : Nat), .int .u32 (ex : Nat), .int .u64 (cas : Nat), .int .u64 (dl : Nat), .int .u64 (ini : Nat)] 26)) (.cells #[.int .u8 0, .int .u8 0, .int .u16 0, .int .u8 0, .int .u8 0, .int .u16 0, .int .u32 0, .int .u32 0, .int .u64 0, .slice none 0 0, .slice none 0 0, .slice none 0 0] 61)
  rw [World.size_alloc] at k2
  unfold reqV
  go_enter Try.func46, Try.ntmps46
  go_upto_region 1 with fail
  generalize (w.alloc (.cells #[.int .i64 op, .bool qt, .bool fu, .int .i64 bd, .int .u32 (oq : Nat), .slice K nk ck, .slice V nv cv, .int .u32 (fl : Nat), .int .u32 (ex : Nat), .int .u64 (cas : Nat), .int .u64 (dl : Nat), .int .u64 (ini : Nat)] 26)).alloc (.cells #[.int .u8 0, .int .u8 0, .int .u16 0, .int .u8 0, .int .u8 0, .int .u16 0, .int .u32 0, .int .u32 0, .int .u64 0, .slice none 0 0, .slice none 0 0, .slice none 0 0] 61) = W0 at k1 k2 b ⊢
  obtain ⟨p0, p1, p2, p3, p4, p5, p6, p7, p8, p9, p10, p11⟩ := box12 k1
  go_wp2_with fail
  refine (HCODE.out W0).mono ?_
  rintro e w1 ⟨rfl, b1⟩
  replace k1 := k1.step b1
  replace k2 := k2.step b1
  replace b := below_step b b1
  clear b1 p0 p1 p2 p3 p4 p5 p6 p7 p8 p9 p10 p11
  obtain ⟨u0, u1, u2, u3, u4, u5, u6, u7, u8, u9, u10, u11⟩ := box12 k2
  have y0 := k2.frozen 0
  have y1 := k2.frozen 1
  have y2 := k2.frozen 2
  have y3 := k2.frozen 3
  have y4 := k2.frozen 4
  have y5 := k2.frozen 5
  have y6 := k2.frozen 6
  have y7 := k2.frozen 7
  have y8 := k2.frozen 8
  have y9 := k2.frozen 9
  have y10 := k2.frozen 10
  have y11 := k2.frozen 11
  have kf := blk_set12 k2 (.int .u8 0) (.int .u8 0) (.int .u16 0) (.int .u8 0) (.int .u8 0) (.int .u16 0) (.int .u32 0) (.int .u32 0) (.int .u64 0) (.slice none 0 0) (.slice none 0 0) (.slice none 0 0)
  have gs := grown_set12 w1 (w.heap.size + 1) (.int .u8 0) (.int .u8 0) (.int .u16 0) (.int .u8 0) (.int .u8 0) (.int .u16 0) (.int .u32 0) (.int .u32 0) (.int .u64 0) (.slice none 0 0) (.slice none 0 0) (.slice none 0 0)
  have bf := b.trans (below_grown gs (Nat.le_succ _) k2.lt)
  obtain ⟨t0, t1, t2, t3, t4, t5, t6, t7, t8, t9, t10, t11⟩ := box12 kf
  have HBF := Lib.hid bf
  clear kf gs b k1 k2 bf
  go_wp2_with fail
  refine bodyPost_ret (v := .tuple #[.agg #[.int .u8 0, .int .u8 0, .int .u16 0, .int .u8 0, .int .u8 0, .int .u16 0, .int .u32 0, .int .u32 0, .int .u64 0, .slice none 0 0, .slice none 0 0, .slice none 0 0], .bool false]) (by simp [results, Try.results46, go_sem, t0, t1, t2, t3, t4, t5, t6, t7, t8, t9, t10, t11]) rfl ?_
  exact ⟨rfl, HBF.out⟩
set_option maxRecDepth 100000 in
set_option maxHeartbeats 6000000 in
theorem rframe_code (op : Int) (qt fu : Bool) (oq fl ex cas dl ini : Nat) (K V : Option Addr) (nk ck nv cv : Nat) (lk lv : List UInt8) (w : World) (rK : Rd w w.heap.size K nk ck lk) (rV : Rd w w.heap.size V nv cv lv) (hoq : oq < 4294967296) (hfl : fl < 4294967296) (hex : ex < 4294967296) (hdl : dl < 18446744073709551616) (hini : ini < 18446744073709551616) (hnk : nk ≤ 60000) (hnv : nv ≤ 60000) (code : Nat) (hcode : code < 256) (hc : code20 op qt fu 0 = some code) (on : Nat) (sx : Nat) (sk sv : Bool) (hfi : findT (code : Nat) = some (code, on, qt, fu, sx, sk, sv)) (hsx : sx = 0 ∨ sx = 4 ∨ sx = 8 ∨ sx = 20) (hop : (on : Int) = op) (ho8 : op = 8 → sx = 0)
    (lx : List UInt8) (hlx : lx = xaB sx fl dl ini ++ xbB (putsEx op sx ex) ex) (nx : Nat) (hnx : nx = lx.length) (bl : Nat) (hbl : bl = nx + nk + nv)
    (op' : Int) (qt' fu' : Bool) (bd' : Int) (oq' : Nat) (lk' lv' : List UInt8) (fl' ex' cs' dl' ini' : Nat) (hreq : ∀ (W : World) (X K V : Option Addr) (cx ck cv : Nat), Rd W W.heap.size X nx cx lx → Rd W W.heap.size K nk ck lk → Rd W W.heap.size V nv cv lv → Calls Try.prog 56 #[frV 128 code nk nx 0 0 bl oq cas (.slice X nx cx) (.slice K nk ck) (.slice V nv cv)] W (ReqQ op' qt' fu' bd' oq' lk' lv' fl' ex' cs' dl' ini' W)) (R : Bool) (hsm : reqSame op' op bd' 0 qt' qt fu' fu oq' oq fl' fl ex' ex cs' cas dl' dl ini' ini lk' lk lv' lv = R) :
    Calls Try.prog 46 #[reqV op qt fu 0 oq (.slice K nk ck) (.slice V nv cv) fl ex cas dl ini] w (fun e w' => (R = true → RFrOk code oq cas bl nk nv lx lk lv w e w') ∧ (R = false → RFrNo w e w')) := by
  have HCODE : Hid (∀ W, Calls Try.prog 44 #[.agg #[.int .i64 op, .bool qt, .bool fu, .int .i64 0, .int .u32 (oq : Nat), .slice K nk ck, .slice V nv cv, .int .u32 (fl : Nat), .int .u32 (ex : Nat), .int .u64 (cas : Nat), .int .u64 (dl : Nat), .int .u64 (ini : Nat)]] W fun e w' => e = .returned (.tuple #[.int .i64 (code : Nat), .bool true]) ∧ Below W.heap.size W w') := Lib.hid (fun W => by have h := rcode20_any op qt fu 0 oq (.slice K nk ck) (.slice V nv cv) fl ex cas dl ini W; rw [hc] at h; exact h)
  have HFIND : Hid (∀ W, Calls Try.prog 93 #[.int .i64 (code : Nat)] W fun e w' => e = .returned (.tuple #[.agg #[.int .i64 (code : Nat), .int .i64 op, .bool qt, .bool fu, .int .i64 (sx : Nat), .bool sk, .bool sv], .bool true]) ∧ Below W.heap.size W w') := Lib.hid (fun W => by have h := find_any (code : Nat) W; rw [hfi] at h; rw [← hop]; exact h)
  have hxl : lx.length ≤ 20 := by rw [hlx, List.length_append]; have h1 := xaB_len sx fl dl ini; have h2 := xbB_len (putsEx op sx ex) ex; omega
  have HREQ : Hid (∀ (W : World) (X K V : Option Addr) (cx ck cv : Nat), Rd W W.heap.size X nx cx lx → Rd W W.heap.size K nk ck lk → Rd W W.heap.size V nv cv lv → Calls Try.prog 56 #[.agg #[.int .u8 128, .int .u8 (code : Nat), .int .u16 (nk : Nat), .int .u8 (nx : Nat), .int .u8 0, .int .u16 0, .int .u32 (bl : Nat), .int .u32 (oq : Nat), .int .u64 (cas : Nat), .slice X nx cx, .slice K nk ck, .slice V nv cv]] W (ReqP2 op' qt' fu' bd' oq' lk' lv' fl' ex' cs' dl' ini' W)) := Lib.hid hreq
  have HSAME : Hid (∀ (W : World) (K2 V2 : Option Addr) (nk2 ck2 nv2 cv2 : Nat), Rd W W.heap.size K2 nk2 ck2 lk' → Rd W W.heap.size V2 nv2 cv2 lv' → Rd W W.heap.size K nk ck lk → Rd W W.heap.size V nv cv lv → Calls Try.prog 45 #[.agg #[.int .i64 op', .bool qt', .bool fu', .int .i64 bd', .int .u32 (oq' : Nat), .slice K2 nk2 ck2, .slice V2 nv2 cv2, .int .u32 (fl' : Nat), .int .u32 (ex' : Nat), .int .u64 (cs' : Nat), .int .u64 (dl' : Nat), .int .u64 (ini' : Nat)], .agg #[.int .i64 op, .bool qt, .bool fu, .int .i64 0, .int .u32 (oq : Nat), .slice K nk ck, .slice V nv cv, .int .u32 (fl : Nat), .int .u32 (ex : Nat), .int .u64 (cas : Nat), .int .u64 (dl : Nat), .int .u64 (ini : Nat)]] W (PSame R W)) := Lib.hid (fun W K2 V2 nk2 ck2 nv2 cv2 r1 r2 r3 r4 => by have h := rqsame_any op' op bd' 0 qt' qt fu' fu oq' oq fl' fl ex' ex cs' cas dl' dl ini' ini K2 K V2 V nk2 ck2 nk ck nv2 cv2 nv cv lk' lk lv' lv W r1 r3 r2 r4; rw [hsm] at h; exact h)
  have HLX := Lib.hid hlx
  have HB := Lib.hid (And.intro hoq (And.intro hfl (And.intro hex (And.intro hdl (And.intro hini (And.intro hcode (And.intro hnk (And.intro hnv (And.intro hxl (And.intro hnx hbl))))))))))
  have HWE : IntKind.u64.wrap (ex : Int) = (ex : Int) := IntWalk.u64_in _ (by omega)
  have HWF : IntKind.u64.wrap (fl : Int) = (fl : Int) := IntWalk.u64_in _ (by omega)
  have HU : Hid (fl < 18446744073709551616 ∧ ex < 18446744073709551616 ∧ dl < 18446744073709551616 ∧ ini < 18446744073709551616) := Lib.hid ⟨Nat.lt_trans hfl (by decide), Nat.lt_trans hex (by decide), hdl, hini⟩
  have HSX := Lib.hid hsx
  have HO8 := Lib.hid ho8
  have HRR := Lib.hid (And.intro rK rV)
  clear hlx hreq hsm hnx hbl hoq hfl hex hdl hini hcode hnk hnv hxl hc hfi hop hsx rK rV ho8
  have k1 := (Blk.new w #[.int .i64 op, .bool qt, .bool fu, .int .i64 0, .int .u32 (oq : Nat), .slice K nk ck, .slice V nv cv, .int .u32 (fl : Nat), .int .u32 (ex : Nat), .int .u64 (cas : Nat), .int .u64 (dl : Nat), .int .u64 (ini : Nat)] 26).alloc (.cells #[.int .u8 0, .int .u8 0, .int .u16 0, .int .u8 0, .int .u8 0, .int .u16 0, .int .u32 0, .int .u32 0, .int .u64 0, .slice none 0 0, .slice none 0 0, .slice none 0 0] 61)
  have k2 := Blk.new (w.alloc (.cells #[.int .i64 op, .bool qt, .bool fu, .int .i64 0, .int .u32 (oq : Nat), .slice K nk ck, .slice V nv cv, .int .u32 (fl : Nat), .int .u32 (ex : Nat), .int .u64 (cas : Nat), .int .u64 (dl : Nat), .int .u64 (ini : Nat)] 26)) #[.int .u8 0, .int .u8 0, .int .u16 0, .int .u8 0, .int .u8 0, .int .u16 0, .int .u32 0, .int .u32 0, .int .u64 0, .slice none 0 0, .slice none 0 0, .slice none 0 0] 61
  have b := below_a1' (below_a1' (Below.refl w.heap.size w) (.cells #[.int .i64 op, .bool qt, .bool fu, .int .i64 0, .int .u32 (oq : Nat), .slice K nk ck, .slice V nv cv, .int .u32 (fl : Nat), .int .u32 (ex : Nat), .int .u64 (cas : Nat), .int .u64 (dl : Nat), .int .u64 (ini : Nat)] 26)) (.cells #[.int .u8 0, .int .u8 0, .int .u16 0, .int .u8 0, .int .u8 0, .int .u16 0, .int .u32 0, .int .u32 0, .int .u64 0, .slice none 0 0, .slice none 0 0, .slice none 0 0] 61)
  rw [World.size_alloc] at k2
  unfold reqV
  go_enter Try.func46, Try.ntmps46
  go_upto_region 1 with fail
  generalize (w.alloc (.cells #[.int .i64 op, .bool qt, .bool fu, .int .i64 0, .int .u32 (oq : Nat), .slice K nk ck, .slice V nv cv, .int .u32 (fl : Nat), .int .u32 (ex : Nat), .int .u64 (cas : Nat), .int .u64 (dl : Nat), .int .u64 (ini : Nat)] 26)).alloc (.cells #[.int .u8 0, .int .u8 0, .int .u16 0, .int .u8 0, .int .u8 0, .int .u16 0, .int .u32 0, .int .u32 0, .int .u64 0, .slice none 0 0, .slice none 0 0, .slice none 0 0] 61) = W0 at k1 k2 b ⊢
  obtain ⟨p0, p1, p2, p3, p4, p5, p6, p7, p8, p9, p10, p11⟩ := box12 k1
  go_wp2_with fail
  refine (HCODE.out W0).mono ?_
  rintro e w1 ⟨rfl, b1⟩
  replace k1 := k1.step b1
  replace k2 := k2.step b1
  replace b := below_step b b1
  clear b1 p0 p1 p2 p3 p4 p5 p6 p7 p8 p9 p10 p11
  go_wp2_with fail
  refine (HFIND.out _).mono ?_
  rintro e w2 ⟨rfl, b1⟩
  replace k1 := k1.step b1
  replace k2 := k2.step b1
  replace b := below_step b b1
  clear b1 HFIND HCODE
  go_upto_region 5 with fail
  have k6 := Blk.new w2 #[.int .i64 (code : Nat), .int .i64 op, .bool qt, .bool fu, .int .i64 (sx : Nat), .bool sk, .bool sv] 144
  have b4 := below_a1' (Below.refl w2.heap.size w2) (.cells #[.int .i64 (code : Nat), .int .i64 op, .bool qt, .bool fu, .int .i64 (sx : Nat), .bool sk, .bool sv] 144)
  have hg6 := k2.lt
  replace k1 := k1.step b4
  replace k2 := k2.step b4
  replace b := below_step b b4
  clear b4
  generalize w2.alloc (.cells #[.int .i64 (code : Nat), .int .i64 op, .bool qt, .bool fu, .int .i64 (sx : Nat), .bool sk, .bool sv] 144) = W5 at k1 k2 k6 b ⊢
  generalize w2.heap.size = g6 at k6 hg6 ⊢
  go_cut [8] (fun s8 wx => ∃ (g8 g2 ck2 g3 cv2 : Nat), s8 = .pointer (some ⟨g8, 0, none⟩) ∧ Blk wx g8 #[.int .u8 0, .int .u8 0, .int .u16 0, .int .u8 0, .int .u8 0, .int .u16 0, .int .u32 0, .int .u32 0, .int .u64 0, .slice none 0 0, .slice (some ⟨g2, 0, none⟩) nk ck2, .slice (some ⟨g3, 0, none⟩) nv cv2] 61 ∧ Own wx W5.heap.size (some ⟨g2, 0, none⟩) nk ck2 lk ∧ Own wx W5.heap.size (some ⟨g3, 0, none⟩) nv cv2 lv ∧ g2 ≠ g8 ∧ g3 ≠ g8 ∧ W5.heap.size ≤ g8 ∧ Below W5.heap.size W5 wx)
  case first =>
    refine wp_region_noPanic ?_
    refine region_T (fun wx => wx.cell? ⟨w.heap.size, 5, none⟩ = some (.slice K nk ck) ∧ wx.cell? ⟨w.heap.size, 6, none⟩ = some (.slice V nv cv)) 10 (by kernel_rfl) ?_
    have bD : Below W5.heap.size W5 W5.drew := (Below.refl _ _).drew
    have hHeld : W5.drew.cell? ⟨w.heap.size, 5, none⟩ = some (.slice K nk ck) ∧ W5.drew.cell? ⟨w.heap.size, 6, none⟩ = some (.slice V nv cv) := ⟨(box12 (k1.step bD)).2.2.2.2.2.1, (box12 (k1.step bD)).2.2.2.2.2.2.1⟩
    have rK0 : Rd W5.drew w.heap.size K nk ck lk := (HRR.out.1.below b).below (bD.mono b.size)
    have rV0 : Rd W5.drew w.heap.size V nv cv lv := (HRR.out.2.below b).below (bD.mono b.size)
    have hsz0 : W5.drew.heap.size = W5.heap.size := rfl
    have hbs := b.size
    have k1l := k1.lt
    generalize W5.drew = Y0 at bD hHeld rK0 rV0 hsz0 ⊢
    refine takeT (i := 1) (v := ?_) rfl (by kernel_rfl) (by kernel_rfl) (by decide) (by kernel_rfl) (by kernel_rfl) (fun _ _ _ h => h) (Or.inl ⟨by rfl, ?_⟩) hHeld ?_
    rotate_left
    · (intro wx hSw; obtain ⟨a5, a6⟩ := hSw; go_simp; try (with_reducible rfl))
    try simp only [Act.put, List.setIfInBounds_toArray, List.set_cons_zero, List.set_cons_succ]
    refine takeT (i := 2) (v := ?_) rfl (by kernel_rfl) (by kernel_rfl) (by decide) (by kernel_rfl) (by kernel_rfl) (fun _ _ _ h => h) (Or.inl ⟨by rfl, ?_⟩) hHeld ?_
    rotate_left
    · (intro wx hSw; obtain ⟨a5, a6⟩ := hSw; go_simp; try (with_reducible rfl))
    try simp only [Act.put, List.setIfInBounds_toArray, List.set_cons_zero, List.set_cons_succ]
    refine takeT (i := 5) (v := ?_) rfl (by kernel_rfl) (by kernel_rfl) (by decide) (by kernel_rfl) (by kernel_rfl) (fun _ _ _ h => h) (Or.inl ⟨by rfl, ?_⟩) hHeld ?_
    rotate_left
    · (intro wx hSw; obtain ⟨a5, a6⟩ := hSw; go_simp; try (with_reducible rfl))
    try simp only [Act.put, List.setIfInBounds_toArray, List.set_cons_zero, List.set_cons_succ]
    refine takeT (i := 6) (v := ?_) rfl (by kernel_rfl) (by kernel_rfl) (by decide) (by kernel_rfl) (by kernel_rfl) (fun _ _ _ h => h) (Or.inl ⟨by rfl, ?_⟩) hHeld ?_
    rotate_left
    · (intro wx hSw; obtain ⟨a5, a6⟩ := hSw; go_simp; try (with_reducible rfl))
    try simp only [Act.put, List.setIfInBounds_toArray, List.set_cons_zero, List.set_cons_succ]
    refine anyT_inv (fun a0 listed a wx => ∃ (b0 b3 b4 b7 b8 b9 b10 : Bool) (v0 v3 v4 v7 v8 v9 : Value) (s : Nat → Option (Nat × Nat × Nat × List UInt8)) (sb : Option Nat), listed = #[b0, true, true, b3, b4, true, true, b7, b8, b9, b10] ∧ a = ((((((a0.put (some 22) v0).put (some 25) v3).put (some 26) v4).put (some 29) v7).put (some 30) v8).put (some 8) v9) ∧ (b0 = true → b3 = false → ∃ g, v0 = .slice (some ⟨g, 0, none⟩) 0 0 ∧ s 0 = some (g, 0, 0, [])) ∧ (b3 = true → ∃ g c, v3 = .slice (some ⟨g, 0, none⟩) nk c ∧ s 0 = some (g, nk, c, lk)) ∧ (b4 = true → b7 = false → ∃ g, v4 = .slice (some ⟨g, 0, none⟩) 0 0 ∧ s 1 = some (g, 0, 0, [])) ∧ (b7 = true → ∃ g c, v7 = .slice (some ⟨g, 0, none⟩) nv c ∧ s 1 = some (g, nv, c, lv)) ∧ (b8 = true → v8 = .agg #[.int .u8 0, .int .u8 0, .int .u16 0, .int .u8 0, .int .u8 0, .int .u16 0, .int .u32 0, .int .u32 0, .int .u64 0, .slice none 0 0, v3, v7]) ∧ (b9 = true → ∃ g, v9 = .pointer (some ⟨g, 0, none⟩) ∧ sb = some g) ∧ (b9 = false → sb = none) ∧ (b3 = true → b0 = true) ∧ (b7 = true → b4 = true ∧ b3 = true) ∧ (b8 = true → b3 = true ∧ b7 = true) ∧ (b10 = true → b0 = true ∧ b3 = true ∧ b4 = true ∧ b7 = true ∧ b8 = true ∧ b9 = true) ∧ (b10 = false → MkS Y0 wx #[.int .u8 0, .int .u8 0, .int .u16 0, .int .u8 0, .int .u8 0, .int .u16 0, .int .u32 0, .int .u32 0, .int .u64 0, .slice none 0 0, .slice none 0 0, .slice none 0 0] 61 s sb) ∧ (b10 = true → ∃ (g8 g2 ck2 g3 cv2 : Nat), v9 = .pointer (some ⟨g8, 0, none⟩) ∧ Blk wx g8 #[.int .u8 0, .int .u8 0, .int .u16 0, .int .u8 0, .int .u8 0, .int .u16 0, .int .u32 0, .int .u32 0, .int .u64 0, .slice none 0 0, .slice (some ⟨g2, 0, none⟩) nk ck2, .slice (some ⟨g3, 0, none⟩) nv cv2] 61 ∧ Own wx W5.heap.size (some ⟨g2, 0, none⟩) nk ck2 lk ∧ Own wx W5.heap.size (some ⟨g3, 0, none⟩) nv cv2 lv ∧ g2 ≠ g8 ∧ g3 ≠ g8 ∧ W5.heap.size ≤ g8 ∧ Below W5.heap.size W5 wx) ∧ Below W5.heap.size W5 wx) ?_ (by decide) ?_ ?_ ?_
    · exact ⟨false, false, false, false, false, false, false, undef, undef, undef, undef, undef, undef, fun _ => none, none, rfl, rfl, (fun h => by cases h), (fun h => by cases h), (fun h => by cases h), (fun h => by cases h), (fun h => by cases h), (fun h => by cases h), (fun _ => rfl), (fun h => by cases h), (fun h => by cases h), (fun h => by cases h), (fun h => by cases h), (fun _ => MkS.start), (fun h => by cases h), bD⟩
    · rintro listed a wx ⟨b0, b3, b4, b7, b8, b9, b10, v0, v3, v4, v7, v8, v9, s, sb, rfl, rfl, c0, c3, c4, c7, c8, c9, cn9, w3, w7, w8, w10, cm, cp, bx⟩
      exact ⟨cell_later bx (box12 k1).2.2.2.2.2.1, cell_later bx (box12 k1).2.2.2.2.2.2.1⟩
    · intro listed a wx i hI hi
      obtain ⟨b0, b3, b4, b7, b8, b9, b10, v0, v3, v4, v7, v8, v9, s, sb, rfl, ha, c0, c3, c4, c7, c8, c9, cn9, w3, w7, w8, w10, cm, cp, bx⟩ := hI
      simp only [Act.put, List.setIfInBounds_toArray, List.set_cons_zero, List.set_cons_succ] at ha
      subst ha
      obtain ⟨hi1, hi2⟩ := ready_lt hi
      obtain rfl | rfl | rfl | rfl | rfl | rfl | rfl | rfl | rfl | rfl | rfl : i = 0 ∨ i = 1 ∨ i = 2 ∨ i = 3 ∨ i = 4 ∨ i = 5 ∨ i = 6 ∨ i = 7 ∨ i = 8 ∨ i = 9 ∨ i = 10 := by (have hi3 : i < 11 := hi1); omega
      · obtain rfl : b0 = false := hi2
        obtain rfl : b10 = false := by (cases b10 with | false => rfl | true => (have hh := w10 rfl; simp at hh))
        have hst := cm rfl
        obtain rfl : b3 = false := by (cases b3 with | false => rfl | true => (have hh := w3 rfl; simp at hh))
        replace hst := hst.al 0
        refine ⟨_, rfl, fun KK hK => ?_⟩
        go_simp
        refine hK.out _ _ ?_
        exact ⟨true, false, _, _, _, _, false, _, _, _, _, _, _, _, _, rfl, rfl, (fun _ _ => ⟨_, rfl, updM_at⟩), (fun h => by cases h), (fun h1 h2 => by rw [updM_ne (by decide)]; exact c4 h1 h2), (fun h1 => by rw [updM_ne (by decide)]; exact c7 h1), c8, c9, cn9, (fun h => by cases h), w7, w8, (fun h => by cases h), (fun _ => hst), (fun h => by cases h), (below_step bD hst.bel)⟩
      · cases (show true = false from hi2)
      · cases (show true = false from hi2)
      · obtain rfl : b3 = false := hi2
        obtain rfl : b7 = false := by (cases b7 with | false => rfl | true => (have hh := w7 rfl; simp at hh))
        obtain rfl : b8 = false := by (cases b8 with | false => rfl | true => (have hh := w8 rfl; simp at hh))
        obtain rfl : b10 = false := by (cases b10 with | false => rfl | true => (have hh := w10 rfl; simp at hh))
        have hst := cm rfl
        obtain rfl : b0 = true := ready_waits hi (i := 0) (by kernel_rfl)
        obtain ⟨g0, rfl, hs0⟩ := c0 rfl rfl
        refine ⟨_, rfl, fun KK hK => ?_⟩
        refine hst.app 0 hs0 (by omega) rK0 (by have := HB.out.2.2.2.2.2.2.1; omega) rfl _ _ rfl rfl rfl ?_
        clear hst
        intro g' c' V' hst
        refine hK.out _ _ ?_
        exact ⟨true, true, _, false, false, _, false, _, _, _, _, _, _, _, _, rfl, rfl, (fun _ h => by cases h), (fun _ => ⟨_, _, rfl, updM_at⟩), (fun h1 h2 => by rw [updM_ne (by decide)]; exact c4 h1 h2), (fun h => by cases h), (fun h => by cases h), c9, cn9, (fun _ => rfl), (fun h => by cases h), (fun h => by cases h), (fun h => by cases h), (fun _ => hst), (fun h => by cases h), (below_step bD hst.bel)⟩
      · obtain rfl : b4 = false := hi2
        obtain rfl : b10 = false := by (cases b10 with | false => rfl | true => (have hh := w10 rfl; simp at hh))
        have hst := cm rfl
        obtain rfl : b7 = false := by (cases b7 with | false => rfl | true => (have hh := w7 rfl; simp at hh))
        replace hst := hst.al 1
        refine ⟨_, rfl, fun KK hK => ?_⟩
        go_simp
        refine hK.out _ _ ?_
        exact ⟨_, _, true, false, _, _, false, _, _, _, _, _, _, _, _, rfl, rfl, (fun h1 h2 => by rw [updM_ne (by decide)]; exact c0 h1 h2), (fun h1 => by rw [updM_ne (by decide)]; exact c3 h1), (fun _ _ => ⟨_, rfl, updM_at⟩), (fun h => by cases h), c8, c9, cn9, w3, (fun h => by cases h), w8, (fun h => by cases h), (fun _ => hst), (fun h => by cases h), (below_step bD hst.bel)⟩
      · cases (show true = false from hi2)
      · cases (show true = false from hi2)
      · obtain rfl : b7 = false := hi2
        obtain rfl : b8 = false := by (cases b8 with | false => rfl | true => (have hh := w8 rfl; simp at hh))
        obtain rfl : b10 = false := by (cases b10 with | false => rfl | true => (have hh := w10 rfl; simp at hh))
        have hst := cm rfl
        obtain rfl : b4 = true := ready_waits hi (i := 4) (by kernel_rfl)
        obtain rfl : b3 = true := ready_waits hi (i := 3) (by kernel_rfl)
        obtain ⟨g1, rfl, hs1⟩ := c4 rfl rfl
        refine ⟨_, rfl, fun KK hK => ?_⟩
        refine hst.app 1 hs1 (by omega) rV0 (by have := HB.out.2.2.2.2.2.2.2.1; omega) rfl _ _ rfl rfl rfl ?_
        clear hst
        intro g' c' V' hst
        refine hK.out _ _ ?_
        exact ⟨_, true, true, true, false, _, false, _, _, _, _, _, _, _, _, rfl, rfl, (fun h1 h2 => by rw [updM_ne (by decide)]; exact c0 h1 h2), (fun h1 => by rw [updM_ne (by decide)]; exact c3 h1), (fun _ h => by cases h), (fun _ => ⟨_, _, rfl, updM_at⟩), (fun h => by cases h), c9, cn9, w3, (fun _ => ⟨rfl, rfl⟩), (fun h => by cases h), (fun h => by cases h), (fun _ => hst), (fun h => by cases h), (below_step bD hst.bel)⟩
      · obtain rfl : b8 = false := hi2
        obtain rfl : b10 = false := by (cases b10 with | false => rfl | true => (have hh := w10 rfl; simp at hh))
        have hst := cm rfl
        obtain rfl : b3 = true := ready_waits hi (i := 3) (by kernel_rfl)
        obtain rfl : b7 = true := ready_waits hi (i := 7) (by kernel_rfl)
        obtain ⟨g0, d0, rfl, hs0⟩ := c3 rfl
        obtain ⟨g1, d1, rfl, hs1⟩ := c7 rfl
        refine ⟨_, rfl, fun KK hK => ?_⟩
        go_simp
        refine hK.out _ _ ?_
        exact ⟨_, true, _, true, true, _, false, _, _, _, _, _, _, _, _, rfl, rfl, c0, (fun _ => ⟨_, _, rfl, hs0⟩), c4, (fun _ => ⟨_, _, rfl, hs1⟩), (fun _ => rfl), c9, cn9, w3, w7, (fun _ => ⟨rfl, rfl⟩), (fun h => by cases h), (fun _ => hst), (fun h => by cases h), (below_step bD hst.bel)⟩
      · obtain rfl : b9 = false := hi2
        obtain rfl : b10 = false := by (cases b10 with | false => rfl | true => (have hh := w10 rfl; simp at hh))
        have hst := cm rfl
        obtain rfl := cn9 rfl
        replace hst := hst.bx
        refine ⟨_, rfl, fun KK hK => ?_⟩
        go_simp
        refine hK.out _ _ ?_
        exact ⟨_, _, _, _, _, true, false, _, _, _, _, _, _, _, _, rfl, rfl, c0, c3, c4, c7, c8, (fun _ => ⟨_, rfl, rfl⟩), (fun h => by cases h), w3, w7, w8, (fun h => by cases h), (fun _ => hst), (fun h => by cases h), (below_step bD hst.bel)⟩
      · obtain rfl : b10 = false := hi2
        obtain rfl : b0 = true := ready_waits hi (i := 0) (by kernel_rfl)
        obtain rfl : b3 = true := ready_waits hi (i := 3) (by kernel_rfl)
        obtain rfl : b4 = true := ready_waits hi (i := 4) (by kernel_rfl)
        obtain rfl : b7 = true := ready_waits hi (i := 7) (by kernel_rfl)
        obtain rfl : b8 = true := ready_waits hi (i := 8) (by kernel_rfl)
        obtain rfl : b9 = true := ready_waits hi (i := 9) (by kernel_rfl)
        obtain ⟨g0, d0, rfl, hs0⟩ := c3 rfl
        obtain ⟨g1, d1, rfl, hs1⟩ := c7 rfl
        obtain ⟨gb, rfl, rfl⟩ := c9 rfl
        have hst := cm rfl
        obtain rfl := c8 rfl
        obtain ⟨kb, hgb, hap⟩ := hst.bk rfl
        have hg01 : g0 ≠ g1 := hst.apart (i := 0) (j := 1) (by decide) hs0 hs1
        have hn0 : g0 ≠ gb := hap 0 _ hs0
        have hn1 : g1 ≠ gb := hap 1 _ hs1
        have kf := blk_set12 kb (.int .u8 0) (.int .u8 0) (.int .u16 0) (.int .u8 0) (.int .u8 0) (.int .u16 0) (.int .u32 0) (.int .u32 0) (.int .u64 0) (.slice none 0 0) (.slice (some ⟨g0, 0, none⟩) nk d0) (.slice (some ⟨g1, 0, none⟩) nv d1)
        have gs := grown_set12 wx gb (.int .u8 0) (.int .u8 0) (.int .u16 0) (.int .u8 0) (.int .u8 0) (.int .u16 0) (.int .u32 0) (.int .u32 0) (.int .u64 0) (.slice none 0 0) (.slice (some ⟨g0, 0, none⟩) nk d0) (.slice (some ⟨g1, 0, none⟩) nv d1)
        have o0 := (hst.own 0 hs0).left gs hn0
        have o1 := (hst.own 1 hs1).left gs hn1
        rw [hsz0] at o0 o1 hgb
        have hBel := bx.trans (below_grown gs hgb kb.lt)
        have hPost : ∃ (g8 g2 ck2 g3 cv2 : Nat), Value.pointer (some ⟨gb, 0, none⟩) = .pointer (some ⟨g8, 0, none⟩) ∧ Blk ((((((((((((wx.setCell ⟨gb, 0, none⟩ (.int .u8 0)).setCell ⟨gb, 1, none⟩ (.int .u8 0)).setCell ⟨gb, 2, none⟩ (.int .u16 0)).setCell ⟨gb, 3, none⟩ (.int .u8 0)).setCell ⟨gb, 4, none⟩ (.int .u8 0)).setCell ⟨gb, 5, none⟩ (.int .u16 0)).setCell ⟨gb, 6, none⟩ (.int .u32 0)).setCell ⟨gb, 7, none⟩ (.int .u32 0)).setCell ⟨gb, 8, none⟩ (.int .u64 0)).setCell ⟨gb, 9, none⟩ (.slice none 0 0)).setCell ⟨gb, 10, none⟩ (.slice (some ⟨g0, 0, none⟩) nk d0)).setCell ⟨gb, 11, none⟩ (.slice (some ⟨g1, 0, none⟩) nv d1)) g8 #[.int .u8 0, .int .u8 0, .int .u16 0, .int .u8 0, .int .u8 0, .int .u16 0, .int .u32 0, .int .u32 0, .int .u64 0, .slice none 0 0, .slice (some ⟨g2, 0, none⟩) nk ck2, .slice (some ⟨g3, 0, none⟩) nv cv2] 61 ∧ Own ((((((((((((wx.setCell ⟨gb, 0, none⟩ (.int .u8 0)).setCell ⟨gb, 1, none⟩ (.int .u8 0)).setCell ⟨gb, 2, none⟩ (.int .u16 0)).setCell ⟨gb, 3, none⟩ (.int .u8 0)).setCell ⟨gb, 4, none⟩ (.int .u8 0)).setCell ⟨gb, 5, none⟩ (.int .u16 0)).setCell ⟨gb, 6, none⟩ (.int .u32 0)).setCell ⟨gb, 7, none⟩ (.int .u32 0)).setCell ⟨gb, 8, none⟩ (.int .u64 0)).setCell ⟨gb, 9, none⟩ (.slice none 0 0)).setCell ⟨gb, 10, none⟩ (.slice (some ⟨g0, 0, none⟩) nk d0)).setCell ⟨gb, 11, none⟩ (.slice (some ⟨g1, 0, none⟩) nv d1)) W5.heap.size (some ⟨g2, 0, none⟩) nk ck2 lk ∧ Own ((((((((((((wx.setCell ⟨gb, 0, none⟩ (.int .u8 0)).setCell ⟨gb, 1, none⟩ (.int .u8 0)).setCell ⟨gb, 2, none⟩ (.int .u16 0)).setCell ⟨gb, 3, none⟩ (.int .u8 0)).setCell ⟨gb, 4, none⟩ (.int .u8 0)).setCell ⟨gb, 5, none⟩ (.int .u16 0)).setCell ⟨gb, 6, none⟩ (.int .u32 0)).setCell ⟨gb, 7, none⟩ (.int .u32 0)).setCell ⟨gb, 8, none⟩ (.int .u64 0)).setCell ⟨gb, 9, none⟩ (.slice none 0 0)).setCell ⟨gb, 10, none⟩ (.slice (some ⟨g0, 0, none⟩) nk d0)).setCell ⟨gb, 11, none⟩ (.slice (some ⟨g1, 0, none⟩) nv d1)) W5.heap.size (some ⟨g3, 0, none⟩) nv cv2 lv ∧ g2 ≠ g8 ∧ g3 ≠ g8 ∧ W5.heap.size ≤ g8 ∧ Below W5.heap.size W5 ((((((((((((wx.setCell ⟨gb, 0, none⟩ (.int .u8 0)).setCell ⟨gb, 1, none⟩ (.int .u8 0)).setCell ⟨gb, 2, none⟩ (.int .u16 0)).setCell ⟨gb, 3, none⟩ (.int .u8 0)).setCell ⟨gb, 4, none⟩ (.int .u8 0)).setCell ⟨gb, 5, none⟩ (.int .u16 0)).setCell ⟨gb, 6, none⟩ (.int .u32 0)).setCell ⟨gb, 7, none⟩ (.int .u32 0)).setCell ⟨gb, 8, none⟩ (.int .u64 0)).setCell ⟨gb, 9, none⟩ (.slice none 0 0)).setCell ⟨gb, 10, none⟩ (.slice (some ⟨g0, 0, none⟩) nk d0)).setCell ⟨gb, 11, none⟩ (.slice (some ⟨g1, 0, none⟩) nv d1)) := ⟨gb, g0, d0, g1, d1, rfl, kf, o0, o1, hn0, hn1, hgb, hBel⟩
        obtain ⟨u0, u1, u2, u3, u4, u5, u6, u7, u8, u9, u10, u11⟩ := box12 kb
        have y0 := kb.frozen 0
        have y1 := kb.frozen 1
        have y2 := kb.frozen 2
        have y3 := kb.frozen 3
        have y4 := kb.frozen 4
        have y5 := kb.frozen 5
        have y6 := kb.frozen 6
        have y7 := kb.frozen 7
        have y8 := kb.frozen 8
        have y9 := kb.frozen 9
        have y10 := kb.frozen 10
        have y11 := kb.frozen 11
        refine ⟨_, rfl, fun KK hK => ?_⟩
        go_simp
        refine hK.out _ _ ?_
        exact ⟨true, true, true, true, true, true, true, _, _, _, _, _, _, s, some gb, rfl, rfl, (fun h1 h2 => by cases h2), (fun _ => ⟨_, _, rfl, hs0⟩), (fun h1 h2 => by cases h2), (fun _ => ⟨_, _, rfl, hs1⟩), (fun _ => rfl), (fun _ => ⟨_, rfl, rfl⟩), (fun h => by cases h), (fun _ => rfl), (fun _ => ⟨rfl, rfl⟩), (fun _ => ⟨rfl, rfl⟩), (fun _ => ⟨rfl, rfl, rfl, rfl, rfl, rfl⟩), (fun h => by cases h), (fun _ => hPost), hBel⟩
    · rintro listed a wx ⟨b0, b3, b4, b7, b8, b9, b10, v0, v3, v4, v7, v8, v9, s, sb, rfl, rfl, c0, c3, c4, c7, c8, c9, cn9, w3, w7, w8, w10, cm, cp, bx⟩ hr
      obtain rfl : b10 = true := ready_end (by kernel_rfl) (by kernel_rfl) hr 10 (by decide)
      obtain ⟨g8, g2, ck2, g3, cv2, rfl, kF, o2, o3, hn2, hn3, hg8, bw⟩ := cp rfl
      refine NoPanic.normal ?_
      go_wp2_with fail
      go_meet
      exact ⟨g8, g2, ck2, g3, cv2, rfl, kF, o2, o3, hn2, hn3, hg8, bw⟩
  case rest =>
    obtain ⟨g8, g2, ck2, g3, cv2, rfl, k8, o2, o3, hn2, hn3, hg8, b8⟩ := hcut
    have hk6o := k6.lt
    have hbz := b.size
    replace k1 := k1.step b8
    replace k2 := k2.step b8
    replace k6 := k6.step b8
    have hk1l := k1.lt
    have hk2l := k2.lt
    have hk8l := k8.lt
    have hk6l := k6.lt
    replace b := below_step b b8
    clear b8
    obtain ⟨B9, hB9⟩ : ∃ x, x = wc.heap.size := ⟨_, rfl⟩
    have HNE : Hid (g2 ≠ g8 ∧ g3 ≠ g8 ∧ w.heap.size ≠ g8 ∧ w.heap.size + 1 ≠ g8 ∧ g8 < B9 ∧ w.heap.size ≤ g8 ∧ w.heap.size + 1 < B9 ∧ w.heap.size + 1 < W5.heap.size) := Lib.hid (by omega)
    have HB9 := Lib.hid hB9
    clear hn2 hn3 hg8 hk1l hk2l hk8l hk6l hB9 hg6
    go_upto_block 0 with fail
    go_cut [] (fun wx => ∃ (X : Option Addr) (cx : Nat), Blk wx g8 #[.int .u8 0, .int .u8 0, .int .u16 0, .int .u8 0, .int .u8 0, .int .u16 0, .int .u32 0, .int .u32 0, .int .u64 0, .slice X nx cx, .slice (some ⟨g2, 0, none⟩) nk ck2, .slice (some ⟨g3, 0, none⟩) nv cv2] 61 ∧ Own wx B9 X nx cx lx ∧ Own wx W5.heap.size (some ⟨g2, 0, none⟩) nk ck2 lk ∧ Own wx W5.heap.size (some ⟨g3, 0, none⟩) nv cv2 lv ∧ Blk wx w.heap.size #[.int .i64 op, .bool qt, .bool fu, .int .i64 0, .int .u32 (oq : Nat), .slice K nk ck, .slice V nv cv, .int .u32 (fl : Nat), .int .u32 (ex : Nat), .int .u64 (cas : Nat), .int .u64 (dl : Nat), .int .u64 (ini : Nat)] 26 ∧ Blk wx (w.heap.size + 1) #[.int .u8 0, .int .u8 0, .int .u16 0, .int .u8 0, .int .u8 0, .int .u16 0, .int .u32 0, .int .u32 0, .int .u64 0, .slice none 0 0, .slice none 0 0, .slice none 0 0] 61 ∧ Below w.heap.size w wx)
    case first =>
      by_cases h4 : sx = 4
      · have e4 : ((sx : Int) == 4) = true := beq_iff_eq.2 (by omega)
        have HLY : Hid (lx = highB ex 4) := Lib.hid (by rw [HLX.out]; subst h4; simp [xaB, xbB, putsEx])
        have HNX : Hid (nx = 4) := Lib.hid (by rw [HB.out.2.2.2.2.2.2.2.2.2.1, HLY.out]; simp [length_highB])
        obtain ⟨p0, p1, p2, p3, p4, p5, p6, p7, p8, p9, p10, p11⟩ := box12 k1
        obtain ⟨r0, r1, r2, r3, r4, r5, r6⟩ := box7 k6
        clear h4
        go_wp2_with fail
        refine (high20_any ex 4 HU.out.2.1 (by decide) wc).mono ?_
        rintro e w6 ⟨XN, cN, rfl, oX, bL⟩
        rw [← HB9.out] at oX
        replace oX : Own w6 B9 XN nx cN lx := by rw [HNX.out, HLY.out]; exact oX
        have e4 : (Value.slice XN 4 cN) = .slice XN nx cN := by rw [HNX.out]
        rw [e4]
        clear e4
        have k8L := k8.step bL
        have gs := rdr_grown_set w6 g8 9 (.slice XN nx cN)
        have hFin := (show ∃ (X : Option Addr) (cx : Nat), Blk (w6.setCell ⟨g8, 9, none⟩ (.slice XN nx cN)) g8 #[.int .u8 0, .int .u8 0, .int .u16 0, .int .u8 0, .int .u8 0, .int .u16 0, .int .u32 0, .int .u32 0, .int .u64 0, .slice X nx cx, .slice (some ⟨g2, 0, none⟩) nk ck2, .slice (some ⟨g3, 0, none⟩) nv cv2] 61 ∧ Own (w6.setCell ⟨g8, 9, none⟩ (.slice XN nx cN)) B9 X nx cx lx ∧ Own (w6.setCell ⟨g8, 9, none⟩ (.slice XN nx cN)) W5.heap.size (some ⟨g2, 0, none⟩) nk ck2 lk ∧ Own (w6.setCell ⟨g8, 9, none⟩ (.slice XN nx cN)) W5.heap.size (some ⟨g3, 0, none⟩) nv cv2 lv ∧ Blk (w6.setCell ⟨g8, 9, none⟩ (.slice XN nx cN)) w.heap.size #[.int .i64 op, .bool qt, .bool fu, .int .i64 0, .int .u32 (oq : Nat), .slice K nk ck, .slice V nv cv, .int .u32 (fl : Nat), .int .u32 (ex : Nat), .int .u64 (cas : Nat), .int .u64 (dl : Nat), .int .u64 (ini : Nat)] 26 ∧ Blk (w6.setCell ⟨g8, 9, none⟩ (.slice XN nx cN)) (w.heap.size + 1) #[.int .u8 0, .int .u8 0, .int .u16 0, .int .u8 0, .int .u8 0, .int .u16 0, .int .u32 0, .int .u32 0, .int .u64 0, .slice none 0 0, .slice none 0 0, .slice none 0 0] 61 ∧ Below w.heap.size w (w6.setCell ⟨g8, 9, none⟩ (.slice XN nx cN)) from ⟨XN, cN, k8L.set_ 9 _, oX.kept gs HNE.out.2.2.2.2.1, (o2.step bL).left gs HNE.out.1, (o3.step bL).left gs HNE.out.2.1, (k1.step bL).left gs HNE.out.2.2.1, (k2.step bL).left gs HNE.out.2.2.2.1, (below_step b bL).trans (below_grown gs HNE.out.2.2.2.2.2.1 k8L.lt)⟩)
        obtain ⟨u0, u1, u2, u3, u4, u5, u6, u7, u8, u9, u10, u11⟩ := box12 k8L
        have y9 := k8L.frozen 9
        go_wp2_with fail
        go_meet
        exact hFin
      · have e4 : ((sx : Int) == 4) = false := beq_eq_false_iff_ne.2 (by omega)
        have H4 := Lib.hid h4
        by_cases hf : op = 8 ∧ ex ≠ 0
        · have e8 : (op == 8) = true := beq_iff_eq.2 hf.1
          have ee : ((ex : Int) != 0) = true := bne_iff_ne.2 (by have := hf.2; omega)
          have hs0 : sx = 0 := HO8.out hf.1
          have HLY : Hid (lx = highB ex 4) := Lib.hid (by rw [HLX.out]; rw [hs0]; simp [xaB, xbB, putsEx, hf.1, hf.2])
          have HNX : Hid (nx = 4) := Lib.hid (by rw [HB.out.2.2.2.2.2.2.2.2.2.1, HLY.out]; simp [length_highB])
          obtain ⟨p0, p1, p2, p3, p4, p5, p6, p7, p8, p9, p10, p11⟩ := box12 k1
          obtain ⟨r0, r1, r2, r3, r4, r5, r6⟩ := box7 k6
          clear hf hs0 h4
          go_wp2_with fail
          refine (high20_any ex 4 HU.out.2.1 (by decide) wc).mono ?_
          rintro e w6 ⟨XN, cN, rfl, oX, bL⟩
          rw [← HB9.out] at oX
          replace oX : Own w6 B9 XN nx cN lx := by rw [HNX.out, HLY.out]; exact oX
          have e4 : (Value.slice XN 4 cN) = .slice XN nx cN := by rw [HNX.out]
          rw [e4]
          clear e4
          have k8L := k8.step bL
          have gs := rdr_grown_set w6 g8 9 (.slice XN nx cN)
          have hFin := (show ∃ (X : Option Addr) (cx : Nat), Blk (w6.setCell ⟨g8, 9, none⟩ (.slice XN nx cN)) g8 #[.int .u8 0, .int .u8 0, .int .u16 0, .int .u8 0, .int .u8 0, .int .u16 0, .int .u32 0, .int .u32 0, .int .u64 0, .slice X nx cx, .slice (some ⟨g2, 0, none⟩) nk ck2, .slice (some ⟨g3, 0, none⟩) nv cv2] 61 ∧ Own (w6.setCell ⟨g8, 9, none⟩ (.slice XN nx cN)) B9 X nx cx lx ∧ Own (w6.setCell ⟨g8, 9, none⟩ (.slice XN nx cN)) W5.heap.size (some ⟨g2, 0, none⟩) nk ck2 lk ∧ Own (w6.setCell ⟨g8, 9, none⟩ (.slice XN nx cN)) W5.heap.size (some ⟨g3, 0, none⟩) nv cv2 lv ∧ Blk (w6.setCell ⟨g8, 9, none⟩ (.slice XN nx cN)) w.heap.size #[.int .i64 op, .bool qt, .bool fu, .int .i64 0, .int .u32 (oq : Nat), .slice K nk ck, .slice V nv cv, .int .u32 (fl : Nat), .int .u32 (ex : Nat), .int .u64 (cas : Nat), .int .u64 (dl : Nat), .int .u64 (ini : Nat)] 26 ∧ Blk (w6.setCell ⟨g8, 9, none⟩ (.slice XN nx cN)) (w.heap.size + 1) #[.int .u8 0, .int .u8 0, .int .u16 0, .int .u8 0, .int .u8 0, .int .u16 0, .int .u32 0, .int .u32 0, .int .u64 0, .slice none 0 0, .slice none 0 0, .slice none 0 0] 61 ∧ Below w.heap.size w (w6.setCell ⟨g8, 9, none⟩ (.slice XN nx cN)) from ⟨XN, cN, k8L.set_ 9 _, oX.kept gs HNE.out.2.2.2.2.1, (o2.step bL).left gs HNE.out.1, (o3.step bL).left gs HNE.out.2.1, (k1.step bL).left gs HNE.out.2.2.1, (k2.step bL).left gs HNE.out.2.2.2.1, (below_step b bL).trans (below_grown gs HNE.out.2.2.2.2.2.1 k8L.lt)⟩)
          obtain ⟨u0, u1, u2, u3, u4, u5, u6, u7, u8, u9, u10, u11⟩ := box12 k8L
          have y9 := k8L.frozen 9
          go_wp2_with fail
          go_meet
          exact hFin
        · by_cases ho : op = 8
          · have eo : (op == 8) = true := beq_iff_eq.2 ho
            have ex0 : ex = 0 := Classical.byContradiction (fun h => hf ⟨ho, h⟩)
            have ee : ((ex : Int) != 0) = false := by rw [bne_eq_false_iff_eq]; omega
            have hnf := hf
            clear hf ex0 h4 ho
            obtain ⟨p0, p1, p2, p3, p4, p5, p6, p7, p8, p9, p10, p11⟩ := box12 k1
            obtain ⟨r0, r1, r2, r3, r4, r5, r6⟩ := box7 k6
            by_cases h8 : sx = 8
            · have e8 : ((sx : Int) == 8) = true := beq_iff_eq.2 (by omega)
              have HLY : Hid (lx = highB fl 4 ++ highB ex 4) := Lib.hid (by rw [HLX.out]; subst h8; simp [xaB, xbB, putsEx])
              have HNX : Hid (nx = (4 + 4)) := Lib.hid (by rw [HB.out.2.2.2.2.2.2.2.2.2.1, HLY.out]; simp [length_highB])
              clear h8 hnf
              go_upto_region 9 with fail
              refine wp_region_noPanic ?_
              refine region_T (fun wx => Blk wx w.heap.size #[.int .i64 op, .bool qt, .bool fu, .int .i64 0, .int .u32 (oq : Nat), .slice K nk ck, .slice V nv cv, .int .u32 (fl : Nat), .int .u32 (ex : Nat), .int .u64 (cas : Nat), .int .u64 (dl : Nat), .int .u64 (ini : Nat)] 26) 10 (by kernel_rfl) ?_
              have bL : Below wc.heap.size wc wc.drew := (Below.refl _ _).drew
              have hHeld := k1.step bL
              have hsz : wc.drew.heap.size = wc.heap.size := rfl
              rw [← HB9.out] at hsz
              generalize wc.drew = Y0 at bL hHeld hsz ⊢
              refine takeT (i := 0) (v := ?_) rfl (by kernel_rfl) (by kernel_rfl) (by decide) (by kernel_rfl) (by kernel_rfl) (fun _ _ _ h => h) (Or.inl ⟨by rfl, ?_⟩) hHeld ?_
              rotate_left
              · (intro wx hSw; obtain ⟨a0, a1, a2, a3, a4, a5, a6, a7, a8, a9, a10, a11⟩ := box12 hSw; go_simp; try (with_reducible rfl))
              try simp only [Act.put, List.setIfInBounds_toArray, List.set_cons_zero, List.set_cons_succ]
              refine takeT (i := 1) (v := ?_) rfl (by kernel_rfl) (by kernel_rfl) (by decide) (by kernel_rfl) (by kernel_rfl) (fun _ _ _ h => h) (Or.inl ⟨by rfl, ?_⟩) hHeld ?_
              rotate_left
              · (intro wx hSw; obtain ⟨a0, a1, a2, a3, a4, a5, a6, a7, a8, a9, a10, a11⟩ := box12 hSw; go_simp; try (with_reducible rfl))
              try simp only [Act.put, List.setIfInBounds_toArray, List.set_cons_zero, List.set_cons_succ]
              refine takeT (i := 2) (v := ?_) rfl (by kernel_rfl) (by kernel_rfl) (by decide) (by kernel_rfl) (by kernel_rfl) (fun _ _ _ h => h) (Or.inl ⟨by rfl, ?_⟩) hHeld ?_
              rotate_left
              · (intro wx hSw; obtain ⟨a0, a1, a2, a3, a4, a5, a6, a7, a8, a9, a10, a11⟩ := box12 hSw; go_simp; try (with_reducible rfl))
              try simp only [Act.put, List.setIfInBounds_toArray, List.set_cons_zero, List.set_cons_succ]
              refine takeT (i := 4) (v := ?_) rfl (by kernel_rfl) (by kernel_rfl) (by decide) (by kernel_rfl) (by kernel_rfl) (fun _ _ _ h => h) (Or.inl ⟨by rfl, ?_⟩) hHeld ?_
              rotate_left
              · (intro wx hSw; obtain ⟨a0, a1, a2, a3, a4, a5, a6, a7, a8, a9, a10, a11⟩ := box12 hSw; go_simp; try (with_reducible rfl))
              try simp only [Act.put, List.setIfInBounds_toArray, List.set_cons_zero, List.set_cons_succ]
              refine takeT (i := 5) (v := ?_) rfl (by kernel_rfl) (by kernel_rfl) (by decide) (by kernel_rfl) (by kernel_rfl) (fun _ _ _ h => h) (Or.inl ⟨by rfl, ?_⟩) hHeld ?_
              rotate_left
              · (intro wx hSw; obtain ⟨a0, a1, a2, a3, a4, a5, a6, a7, a8, a9, a10, a11⟩ := box12 hSw; go_simp; try (with_reducible rfl))
              try simp only [Act.put, List.setIfInBounds_toArray, List.set_cons_zero, List.set_cons_succ]
              refine takeT (i := 6) (v := ?_) rfl (by kernel_rfl) (by kernel_rfl) (by decide) (by kernel_rfl) (by kernel_rfl) (fun _ _ _ h => h) (Or.inl ⟨by rfl, ?_⟩) hHeld ?_
              rotate_left
              · (intro wx hSw; obtain ⟨a0, a1, a2, a3, a4, a5, a6, a7, a8, a9, a10, a11⟩ := box12 hSw; go_simp; try (with_reducible rfl))
              try simp only [Act.put, List.setIfInBounds_toArray, List.set_cons_zero, List.set_cons_succ]
              refine oneT (i := 3) rfl (by kernel_rfl) (fun KK hK => ?_)
              go_simp
              refine (high20_any fl 4 HU.out.1 (by decide) Y0).mono ?_
              rintro e Y1 ⟨X3, c3, rfl, o3a, b1⟩
              replace hHeld := hHeld.step b1
              replace bL := below_step bL b1
              rw [hsz] at o3a
              have hs1 := b1.size
              clear b1
              refine hK.out _ _ (fun _ => hHeld) ?_
              clear hK KK
              try simp only [Act.put, List.setIfInBounds_toArray, List.set_cons_zero, List.set_cons_succ]
              refine oneT (i := 7) rfl (by kernel_rfl) (fun KK hK => ?_)
              go_simp
              refine (high20_any ex 4 HU.out.2.1 (by decide) Y1).mono ?_
              rintro e Y2 ⟨X7, c7, rfl, o7, b1⟩
              replace hHeld := hHeld.step b1
              replace bL := below_step bL b1
              replace o3a := o3a.step b1
              have hs2 := b1.size
              have r7 := o7.rd
              clear b1
              refine hK.out _ _ (fun _ => hHeld) ?_
              clear hK KK
              try simp only [Act.put, List.setIfInBounds_toArray, List.set_cons_zero, List.set_cons_succ]
              obtain ⟨ka, rfl, hka, hka2⟩ := own_row (n := 3) o3a
              refine oneT (i := 8) rfl (by kernel_rfl) (fun KK hK => ?_)
              refine step_app8g _ rfl _ _ rfl B9 ka 4 c3 _ rfl o3a _ X7 4 c7 _ rfl r7 (by omega) (by omega) ?_
              intro g' c' Y3 oX gX hX
              have b3 := below_grown gX (by rw [HB9.out] at hka; exact hka) hka2
              replace bL := bL.trans b3
              replace hHeld := hHeld.leftC gX (neA (Nat.lt_of_succ_lt HNE.out.2.2.2.2.2.2.1) hka)
              replace oX : Own Y3 B9 (some ⟨g', 0, none⟩) nx c' lx := by rw [HNX.out, HLY.out]; exact oX
              have e4 : (Value.slice (some ⟨g', 0, none⟩) (4 + 4) c') = .slice (some ⟨g', 0, none⟩) nx c' := by rw [HNX.out]
              rw [e4]
              clear e4
              refine hK.out _ _ (fun _ => hHeld) ?_
              clear hK KK
              try simp only [Act.put, List.setIfInBounds_toArray, List.set_cons_zero, List.set_cons_succ]
              refine takeT (i := 9) (v := ?_) rfl (by kernel_rfl) (by kernel_rfl) (by decide) (by kernel_rfl) (by kernel_rfl) (fun _ _ _ h => h) (Or.inl ⟨by rfl, ?_⟩) hHeld ?_
              rotate_left
              · (intro wx hSw; obtain ⟨a0, a1, a2, a3, a4, a5, a6, a7, a8, a9, a10, a11⟩ := box12 hSw; go_simp; try (with_reducible rfl))
              try simp only [Act.put, List.setIfInBounds_toArray, List.set_cons_zero, List.set_cons_succ]
              have k8L := k8.step bL
              have gs := rdr_grown_set Y3 g8 9 (.slice (some ⟨g', 0, none⟩) nx c')
              have hFin := (show ∃ (X : Option Addr) (cx : Nat), Blk (Y3.setCell ⟨g8, 9, none⟩ (.slice (some ⟨g', 0, none⟩) nx c')) g8 #[.int .u8 0, .int .u8 0, .int .u16 0, .int .u8 0, .int .u8 0, .int .u16 0, .int .u32 0, .int .u32 0, .int .u64 0, .slice X nx cx, .slice (some ⟨g2, 0, none⟩) nk ck2, .slice (some ⟨g3, 0, none⟩) nv cv2] 61 ∧ Own (Y3.setCell ⟨g8, 9, none⟩ (.slice (some ⟨g', 0, none⟩) nx c')) B9 X nx cx lx ∧ Own (Y3.setCell ⟨g8, 9, none⟩ (.slice (some ⟨g', 0, none⟩) nx c')) W5.heap.size (some ⟨g2, 0, none⟩) nk ck2 lk ∧ Own (Y3.setCell ⟨g8, 9, none⟩ (.slice (some ⟨g', 0, none⟩) nx c')) W5.heap.size (some ⟨g3, 0, none⟩) nv cv2 lv ∧ Blk (Y3.setCell ⟨g8, 9, none⟩ (.slice (some ⟨g', 0, none⟩) nx c')) w.heap.size #[.int .i64 op, .bool qt, .bool fu, .int .i64 0, .int .u32 (oq : Nat), .slice K nk ck, .slice V nv cv, .int .u32 (fl : Nat), .int .u32 (ex : Nat), .int .u64 (cas : Nat), .int .u64 (dl : Nat), .int .u64 (ini : Nat)] 26 ∧ Blk (Y3.setCell ⟨g8, 9, none⟩ (.slice (some ⟨g', 0, none⟩) nx c')) (w.heap.size + 1) #[.int .u8 0, .int .u8 0, .int .u16 0, .int .u8 0, .int .u8 0, .int .u16 0, .int .u32 0, .int .u32 0, .int .u64 0, .slice none 0 0, .slice none 0 0, .slice none 0 0] 61 ∧ Below w.heap.size w (Y3.setCell ⟨g8, 9, none⟩ (.slice (some ⟨g', 0, none⟩) nx c')) from ⟨(some ⟨g', 0, none⟩), c', k8L.set_ 9 _, oX.kept gs HNE.out.2.2.2.2.1, (o2.step bL).left gs HNE.out.1, (o3.step bL).left gs HNE.out.2.1, (k1.step bL).left gs HNE.out.2.2.1, (k2.step bL).left gs HNE.out.2.2.2.1, (below_step b bL).trans (below_grown gs HNE.out.2.2.2.2.2.1 k8L.lt)⟩)
              obtain ⟨u0, u1, u2, u3, u4, u5, u6, u7, u8, u9, u10, u11⟩ := box12 k8L
              have y9 := k8L.frozen 9
              refine oneT (i := 10) rfl (by kernel_rfl) (fun KK hK => ?_)
              go_simp
              refine hK.out _ _ (fun h => absurd h (by decide)) ?_
              clear hK KK
              try simp only [Act.put, List.setIfInBounds_toArray, List.set_cons_zero, List.set_cons_succ]
              refine doneT (by kernel_rfl) ?_ _
              refine NoPanic.normal ?_
              go_wp2_with fail
              go_meet
              exact hFin
            · by_cases h20 : sx = 20
              · have e8 : ((sx : Int) == 8) = false := beq_eq_false_iff_ne.2 (by omega)
                have e20 : ((sx : Int) == 20) = true := beq_iff_eq.2 (by omega)
                have HLY : Hid (lx = (highB dl 8 ++ highB ini 8) ++ highB ex 4) := Lib.hid (by rw [HLX.out]; subst h20; simp [xaB, xbB, putsEx])
                have HNX : Hid (nx = (8 + 8 + 4)) := Lib.hid (by rw [HB.out.2.2.2.2.2.2.2.2.2.1, HLY.out]; simp [length_highB])
                clear h8 h20 hnf
                go_upto_region 11 with fail
                refine wp_region_noPanic ?_
                refine region_T (fun wx => Blk wx w.heap.size #[.int .i64 op, .bool qt, .bool fu, .int .i64 0, .int .u32 (oq : Nat), .slice K nk ck, .slice V nv cv, .int .u32 (fl : Nat), .int .u32 (ex : Nat), .int .u64 (cas : Nat), .int .u64 (dl : Nat), .int .u64 (ini : Nat)] 26) 13 (by kernel_rfl) ?_
                have bL : Below wc.heap.size wc wc.drew := (Below.refl _ _).drew
                have hHeld := k1.step bL
                have hsz : wc.drew.heap.size = wc.heap.size := rfl
                rw [← HB9.out] at hsz
                generalize wc.drew = Y0 at bL hHeld hsz ⊢
                refine takeT (i := 0) (v := ?_) rfl (by kernel_rfl) (by kernel_rfl) (by decide) (by kernel_rfl) (by kernel_rfl) (fun _ _ _ h => h) (Or.inl ⟨by rfl, ?_⟩) hHeld ?_
                rotate_left
                · (intro wx hSw; obtain ⟨a0, a1, a2, a3, a4, a5, a6, a7, a8, a9, a10, a11⟩ := box12 hSw; go_simp; try (with_reducible rfl))
                try simp only [Act.put, List.setIfInBounds_toArray, List.set_cons_zero, List.set_cons_succ]
                refine takeT (i := 1) (v := ?_) rfl (by kernel_rfl) (by kernel_rfl) (by decide) (by kernel_rfl) (by kernel_rfl) (fun _ _ _ h => h) (Or.inl ⟨by rfl, ?_⟩) hHeld ?_
                rotate_left
                · (intro wx hSw; obtain ⟨a0, a1, a2, a3, a4, a5, a6, a7, a8, a9, a10, a11⟩ := box12 hSw; go_simp; try (with_reducible rfl))
                try simp only [Act.put, List.setIfInBounds_toArray, List.set_cons_zero, List.set_cons_succ]
                refine takeT (i := 3) (v := ?_) rfl (by kernel_rfl) (by kernel_rfl) (by decide) (by kernel_rfl) (by kernel_rfl) (fun _ _ _ h => h) (Or.inl ⟨by rfl, ?_⟩) hHeld ?_
                rotate_left
                · (intro wx hSw; obtain ⟨a0, a1, a2, a3, a4, a5, a6, a7, a8, a9, a10, a11⟩ := box12 hSw; go_simp; try (with_reducible rfl))
                try simp only [Act.put, List.setIfInBounds_toArray, List.set_cons_zero, List.set_cons_succ]
                refine takeT (i := 4) (v := ?_) rfl (by kernel_rfl) (by kernel_rfl) (by decide) (by kernel_rfl) (by kernel_rfl) (fun _ _ _ h => h) (Or.inl ⟨by rfl, ?_⟩) hHeld ?_
                rotate_left
                · (intro wx hSw; obtain ⟨a0, a1, a2, a3, a4, a5, a6, a7, a8, a9, a10, a11⟩ := box12 hSw; go_simp; try (with_reducible rfl))
                try simp only [Act.put, List.setIfInBounds_toArray, List.set_cons_zero, List.set_cons_succ]
                refine takeT (i := 7) (v := ?_) rfl (by kernel_rfl) (by kernel_rfl) (by decide) (by kernel_rfl) (by kernel_rfl) (fun _ _ _ h => h) (Or.inl ⟨by rfl, ?_⟩) hHeld ?_
                rotate_left
                · (intro wx hSw; obtain ⟨a0, a1, a2, a3, a4, a5, a6, a7, a8, a9, a10, a11⟩ := box12 hSw; go_simp; try (with_reducible rfl))
                try simp only [Act.put, List.setIfInBounds_toArray, List.set_cons_zero, List.set_cons_succ]
                refine takeT (i := 8) (v := ?_) rfl (by kernel_rfl) (by kernel_rfl) (by decide) (by kernel_rfl) (by kernel_rfl) (fun _ _ _ h => h) (Or.inl ⟨by rfl, ?_⟩) hHeld ?_
                rotate_left
                · (intro wx hSw; obtain ⟨a0, a1, a2, a3, a4, a5, a6, a7, a8, a9, a10, a11⟩ := box12 hSw; go_simp; try (with_reducible rfl))
                try simp only [Act.put, List.setIfInBounds_toArray, List.set_cons_zero, List.set_cons_succ]
                refine takeT (i := 9) (v := ?_) rfl (by kernel_rfl) (by kernel_rfl) (by decide) (by kernel_rfl) (by kernel_rfl) (fun _ _ _ h => h) (Or.inl ⟨by rfl, ?_⟩) hHeld ?_
                rotate_left
                · (intro wx hSw; obtain ⟨a0, a1, a2, a3, a4, a5, a6, a7, a8, a9, a10, a11⟩ := box12 hSw; go_simp; try (with_reducible rfl))
                try simp only [Act.put, List.setIfInBounds_toArray, List.set_cons_zero, List.set_cons_succ]
                refine oneT (i := 2) rfl (by kernel_rfl) (fun KK hK => ?_)
                go_simp
                refine (high20_any dl 8 HU.out.2.2.1 (by decide) Y0).mono ?_
                rintro e Y1 ⟨X2, c2, rfl, oA, b1⟩
                replace hHeld := hHeld.step b1
                replace bL := below_step bL b1
                rw [hsz] at oA
                have hs1 := b1.size
                clear b1
                refine hK.out _ _ (fun _ => hHeld) ?_
                clear hK KK
                try simp only [Act.put, List.setIfInBounds_toArray, List.set_cons_zero, List.set_cons_succ]
                refine oneT (i := 5) rfl (by kernel_rfl) (fun KK hK => ?_)
                go_simp
                refine (high20_any ini 8 HU.out.2.2.2 (by decide) Y1).mono ?_
                rintro e Y2 ⟨X5, c5, rfl, oB, b1⟩
                replace hHeld := hHeld.step b1
                replace bL := below_step bL b1
                replace oA := oA.step b1
                have hs2 := b1.size
                have rB := oB.rd
                clear b1
                refine hK.out _ _ (fun _ => hHeld) ?_
                clear hK KK
                try simp only [Act.put, List.setIfInBounds_toArray, List.set_cons_zero, List.set_cons_succ]
                obtain ⟨ka, rfl, hka, hka2⟩ := own_row (n := 7) oA
                refine oneT (i := 6) rfl (by kernel_rfl) (fun KK hK => ?_)
                refine step_app8g _ rfl _ _ rfl B9 ka 8 c2 _ rfl oA _ X5 8 c5 _ rfl rB (by omega) (by omega) ?_
                intro g' c' Y3 oC gX hX
                have b3 := below_grown gX (by rw [HB9.out] at hka; exact hka) hka2
                replace bL := bL.trans b3
                have hs3 := b3.size
                replace hHeld := hHeld.leftC gX (neA (Nat.lt_of_succ_lt HNE.out.2.2.2.2.2.2.1) hka)
                refine hK.out _ _ (fun _ => hHeld) ?_
                clear hK KK
                try simp only [Act.put, List.setIfInBounds_toArray, List.set_cons_zero, List.set_cons_succ]
                refine oneT (i := 10) rfl (by kernel_rfl) (fun KK hK => ?_)
                go_simp
                refine (high20_any ex 4 HU.out.2.1 (by decide) Y3).mono ?_
                rintro e Y4 ⟨X10, c10, rfl, oD, b1⟩
                replace hHeld := hHeld.step b1
                replace bL := below_step bL b1
                replace oC := oC.step b1
                have hs4 := b1.size
                have rD := oD.rd
                have hgc := oC.base
                clear b1
                refine hK.out _ _ (fun _ => hHeld) ?_
                clear hK KK
                try simp only [Act.put, List.setIfInBounds_toArray, List.set_cons_zero, List.set_cons_succ]
                refine oneT (i := 11) rfl (by kernel_rfl) (fun KK hK => ?_)
                refine step_app8g _ rfl _ _ rfl B9 g' (8 + 8) c' _ rfl oC _ X10 4 c10 _ rfl rD (by omega) (by omega) ?_
                intro g4 c4 Y5 oX gX hX
                have b5 := below_grown gX (by have h1 := hgc.1; rw [HB9.out] at h1; exact h1) hgc.2
                replace bL := bL.trans b5
                replace hHeld := hHeld.leftC gX (neA (Nat.lt_of_succ_lt HNE.out.2.2.2.2.2.2.1) hgc.1)
                replace oX : Own Y5 B9 (some ⟨g4, 0, none⟩) nx c4 lx := by rw [HNX.out, HLY.out]; exact oX
                have e4 : (Value.slice (some ⟨g4, 0, none⟩) (8 + 8 + 4) c4) = .slice (some ⟨g4, 0, none⟩) nx c4 := by rw [HNX.out]
                rw [e4]
                clear e4
                refine hK.out _ _ (fun _ => hHeld) ?_
                clear hK KK
                try simp only [Act.put, List.setIfInBounds_toArray, List.set_cons_zero, List.set_cons_succ]
                refine takeT (i := 12) (v := ?_) rfl (by kernel_rfl) (by kernel_rfl) (by decide) (by kernel_rfl) (by kernel_rfl) (fun _ _ _ h => h) (Or.inl ⟨by rfl, ?_⟩) hHeld ?_
                rotate_left
                · (intro wx hSw; obtain ⟨a0, a1, a2, a3, a4, a5, a6, a7, a8, a9, a10, a11⟩ := box12 hSw; go_simp; try (with_reducible rfl))
                try simp only [Act.put, List.setIfInBounds_toArray, List.set_cons_zero, List.set_cons_succ]
                have k8L := k8.step bL
                have gs := rdr_grown_set Y5 g8 9 (.slice (some ⟨g4, 0, none⟩) nx c4)
                have hFin := (show ∃ (X : Option Addr) (cx : Nat), Blk (Y5.setCell ⟨g8, 9, none⟩ (.slice (some ⟨g4, 0, none⟩) nx c4)) g8 #[.int .u8 0, .int .u8 0, .int .u16 0, .int .u8 0, .int .u8 0, .int .u16 0, .int .u32 0, .int .u32 0, .int .u64 0, .slice X nx cx, .slice (some ⟨g2, 0, none⟩) nk ck2, .slice (some ⟨g3, 0, none⟩) nv cv2] 61 ∧ Own (Y5.setCell ⟨g8, 9, none⟩ (.slice (some ⟨g4, 0, none⟩) nx c4)) B9 X nx cx lx ∧ Own (Y5.setCell ⟨g8, 9, none⟩ (.slice (some ⟨g4, 0, none⟩) nx c4)) W5.heap.size (some ⟨g2, 0, none⟩) nk ck2 lk ∧ Own (Y5.setCell ⟨g8, 9, none⟩ (.slice (some ⟨g4, 0, none⟩) nx c4)) W5.heap.size (some ⟨g3, 0, none⟩) nv cv2 lv ∧ Blk (Y5.setCell ⟨g8, 9, none⟩ (.slice (some ⟨g4, 0, none⟩) nx c4)) w.heap.size #[.int .i64 op, .bool qt, .bool fu, .int .i64 0, .int .u32 (oq : Nat), .slice K nk ck, .slice V nv cv, .int .u32 (fl : Nat), .int .u32 (ex : Nat), .int .u64 (cas : Nat), .int .u64 (dl : Nat), .int .u64 (ini : Nat)] 26 ∧ Blk (Y5.setCell ⟨g8, 9, none⟩ (.slice (some ⟨g4, 0, none⟩) nx c4)) (w.heap.size + 1) #[.int .u8 0, .int .u8 0, .int .u16 0, .int .u8 0, .int .u8 0, .int .u16 0, .int .u32 0, .int .u32 0, .int .u64 0, .slice none 0 0, .slice none 0 0, .slice none 0 0] 61 ∧ Below w.heap.size w (Y5.setCell ⟨g8, 9, none⟩ (.slice (some ⟨g4, 0, none⟩) nx c4)) from ⟨(some ⟨g4, 0, none⟩), c4, k8L.set_ 9 _, oX.kept gs HNE.out.2.2.2.2.1, (o2.step bL).left gs HNE.out.1, (o3.step bL).left gs HNE.out.2.1, (k1.step bL).left gs HNE.out.2.2.1, (k2.step bL).left gs HNE.out.2.2.2.1, (below_step b bL).trans (below_grown gs HNE.out.2.2.2.2.2.1 k8L.lt)⟩)
                obtain ⟨u0, u1, u2, u3, u4, u5, u6, u7, u8, u9, u10, u11⟩ := box12 k8L
                have y9 := k8L.frozen 9
                refine oneT (i := 13) rfl (by kernel_rfl) (fun KK hK => ?_)
                go_simp
                refine hK.out _ _ (fun h => absurd h (by decide)) ?_
                clear hK KK
                try simp only [Act.put, List.setIfInBounds_toArray, List.set_cons_zero, List.set_cons_succ]
                refine doneT (by kernel_rfl) ?_ _
                refine NoPanic.normal ?_
                go_wp2_with fail
                go_meet
                exact hFin
              · have hs0 : sx = 0 := by have h1 := HSX.out; have h2 := H4.out; omega
                have e8 : ((sx : Int) == 8) = false := beq_eq_false_iff_ne.2 (by omega)
                have e20 : ((sx : Int) == 20) = false := beq_eq_false_iff_ne.2 (by omega)
                have HLY : Hid (lx = []) := Lib.hid (by rw [HLX.out, hs0]; simp only [xaB, xbB, putsEx]; by_cases h1 : op = 8; (have h2 : ex = 0 := Classical.byContradiction (fun h3 => hnf ⟨h1, h3⟩)); simp [h2]; simp [h1])
                have HNX : Hid (nx = 0) := Lib.hid (by rw [HB.out.2.2.2.2.2.2.2.2.2.1, HLY.out]; rfl)
                have e9 : (Value.slice none 0 0) = .slice none nx 0 := by rw [HNX.out]
                have k8' := k8
                have hFin : ∃ (X : Option Addr) (cx : Nat), Blk wc g8 #[.int .u8 0, .int .u8 0, .int .u16 0, .int .u8 0, .int .u8 0, .int .u16 0, .int .u32 0, .int .u32 0, .int .u64 0, .slice X nx cx, .slice (some ⟨g2, 0, none⟩) nk ck2, .slice (some ⟨g3, 0, none⟩) nv cv2] 61 ∧ Own wc B9 X nx cx lx ∧ Own wc W5.heap.size (some ⟨g2, 0, none⟩) nk ck2 lk ∧ Own wc W5.heap.size (some ⟨g3, 0, none⟩) nv cv2 lv ∧ Blk wc w.heap.size #[.int .i64 op, .bool qt, .bool fu, .int .i64 0, .int .u32 (oq : Nat), .slice K nk ck, .slice V nv cv, .int .u32 (fl : Nat), .int .u32 (ex : Nat), .int .u64 (cas : Nat), .int .u64 (dl : Nat), .int .u64 (ini : Nat)] 26 ∧ Blk wc (w.heap.size + 1) #[.int .u8 0, .int .u8 0, .int .u16 0, .int .u8 0, .int .u8 0, .int .u16 0, .int .u32 0, .int .u32 0, .int .u64 0, .slice none 0 0, .slice none 0 0, .slice none 0 0] 61 ∧ Below w.heap.size w wc := ⟨none, 0, by rw [HNX.out]; exact k8, by rw [HNX.out, HLY.out]; exact Own.nil _ _, o2, o3, k1, k2, b⟩
                clear h8 h20 hnf hs0
                go_wp2_with fail
                go_meet
                exact hFin
          · have eo : (op == 8) = false := beq_eq_false_iff_ne.2 ho
            have hnf := hf
            clear hf h4 ho
            obtain ⟨p0, p1, p2, p3, p4, p5, p6, p7, p8, p9, p10, p11⟩ := box12 k1
            obtain ⟨r0, r1, r2, r3, r4, r5, r6⟩ := box7 k6
            by_cases h8 : sx = 8
            · have e8 : ((sx : Int) == 8) = true := beq_iff_eq.2 (by omega)
              have HLY : Hid (lx = highB fl 4 ++ highB ex 4) := Lib.hid (by rw [HLX.out]; subst h8; simp [xaB, xbB, putsEx])
              have HNX : Hid (nx = (4 + 4)) := Lib.hid (by rw [HB.out.2.2.2.2.2.2.2.2.2.1, HLY.out]; simp [length_highB])
              clear h8 hnf
              go_upto_region 9 with fail
              refine wp_region_noPanic ?_
              refine region_T (fun wx => Blk wx w.heap.size #[.int .i64 op, .bool qt, .bool fu, .int .i64 0, .int .u32 (oq : Nat), .slice K nk ck, .slice V nv cv, .int .u32 (fl : Nat), .int .u32 (ex : Nat), .int .u64 (cas : Nat), .int .u64 (dl : Nat), .int .u64 (ini : Nat)] 26) 10 (by kernel_rfl) ?_
              have bL : Below wc.heap.size wc wc.drew := (Below.refl _ _).drew
              have hHeld := k1.step bL
              have hsz : wc.drew.heap.size = wc.heap.size := rfl
              rw [← HB9.out] at hsz
              generalize wc.drew = Y0 at bL hHeld hsz ⊢
              refine takeT (i := 0) (v := ?_) rfl (by kernel_rfl) (by kernel_rfl) (by decide) (by kernel_rfl) (by kernel_rfl) (fun _ _ _ h => h) (Or.inl ⟨by rfl, ?_⟩) hHeld ?_
              rotate_left
              · (intro wx hSw; obtain ⟨a0, a1, a2, a3, a4, a5, a6, a7, a8, a9, a10, a11⟩ := box12 hSw; go_simp; try (with_reducible rfl))
              try simp only [Act.put, List.setIfInBounds_toArray, List.set_cons_zero, List.set_cons_succ]
              refine takeT (i := 1) (v := ?_) rfl (by kernel_rfl) (by kernel_rfl) (by decide) (by kernel_rfl) (by kernel_rfl) (fun _ _ _ h => h) (Or.inl ⟨by rfl, ?_⟩) hHeld ?_
              rotate_left
              · (intro wx hSw; obtain ⟨a0, a1, a2, a3, a4, a5, a6, a7, a8, a9, a10, a11⟩ := box12 hSw; go_simp; try (with_reducible rfl))
              try simp only [Act.put, List.setIfInBounds_toArray, List.set_cons_zero, List.set_cons_succ]
              refine takeT (i := 2) (v := ?_) rfl (by kernel_rfl) (by kernel_rfl) (by decide) (by kernel_rfl) (by kernel_rfl) (fun _ _ _ h => h) (Or.inl ⟨by rfl, ?_⟩) hHeld ?_
              rotate_left
              · (intro wx hSw; obtain ⟨a0, a1, a2, a3, a4, a5, a6, a7, a8, a9, a10, a11⟩ := box12 hSw; go_simp; try (with_reducible rfl))
              try simp only [Act.put, List.setIfInBounds_toArray, List.set_cons_zero, List.set_cons_succ]
              refine takeT (i := 4) (v := ?_) rfl (by kernel_rfl) (by kernel_rfl) (by decide) (by kernel_rfl) (by kernel_rfl) (fun _ _ _ h => h) (Or.inl ⟨by rfl, ?_⟩) hHeld ?_
              rotate_left
              · (intro wx hSw; obtain ⟨a0, a1, a2, a3, a4, a5, a6, a7, a8, a9, a10, a11⟩ := box12 hSw; go_simp; try (with_reducible rfl))
              try simp only [Act.put, List.setIfInBounds_toArray, List.set_cons_zero, List.set_cons_succ]
              refine takeT (i := 5) (v := ?_) rfl (by kernel_rfl) (by kernel_rfl) (by decide) (by kernel_rfl) (by kernel_rfl) (fun _ _ _ h => h) (Or.inl ⟨by rfl, ?_⟩) hHeld ?_
              rotate_left
              · (intro wx hSw; obtain ⟨a0, a1, a2, a3, a4, a5, a6, a7, a8, a9, a10, a11⟩ := box12 hSw; go_simp; try (with_reducible rfl))
              try simp only [Act.put, List.setIfInBounds_toArray, List.set_cons_zero, List.set_cons_succ]
              refine takeT (i := 6) (v := ?_) rfl (by kernel_rfl) (by kernel_rfl) (by decide) (by kernel_rfl) (by kernel_rfl) (fun _ _ _ h => h) (Or.inl ⟨by rfl, ?_⟩) hHeld ?_
              rotate_left
              · (intro wx hSw; obtain ⟨a0, a1, a2, a3, a4, a5, a6, a7, a8, a9, a10, a11⟩ := box12 hSw; go_simp; try (with_reducible rfl))
              try simp only [Act.put, List.setIfInBounds_toArray, List.set_cons_zero, List.set_cons_succ]
              refine oneT (i := 3) rfl (by kernel_rfl) (fun KK hK => ?_)
              go_simp
              refine (high20_any fl 4 HU.out.1 (by decide) Y0).mono ?_
              rintro e Y1 ⟨X3, c3, rfl, o3a, b1⟩
              replace hHeld := hHeld.step b1
              replace bL := below_step bL b1
              rw [hsz] at o3a
              have hs1 := b1.size
              clear b1
              refine hK.out _ _ (fun _ => hHeld) ?_
              clear hK KK
              try simp only [Act.put, List.setIfInBounds_toArray, List.set_cons_zero, List.set_cons_succ]
              refine oneT (i := 7) rfl (by kernel_rfl) (fun KK hK => ?_)
              go_simp
              refine (high20_any ex 4 HU.out.2.1 (by decide) Y1).mono ?_
              rintro e Y2 ⟨X7, c7, rfl, o7, b1⟩
              replace hHeld := hHeld.step b1
              replace bL := below_step bL b1
              replace o3a := o3a.step b1
              have hs2 := b1.size
              have r7 := o7.rd
              clear b1
              refine hK.out _ _ (fun _ => hHeld) ?_
              clear hK KK
              try simp only [Act.put, List.setIfInBounds_toArray, List.set_cons_zero, List.set_cons_succ]
              obtain ⟨ka, rfl, hka, hka2⟩ := own_row (n := 3) o3a
              refine oneT (i := 8) rfl (by kernel_rfl) (fun KK hK => ?_)
              refine step_app8g _ rfl _ _ rfl B9 ka 4 c3 _ rfl o3a _ X7 4 c7 _ rfl r7 (by omega) (by omega) ?_
              intro g' c' Y3 oX gX hX
              have b3 := below_grown gX (by rw [HB9.out] at hka; exact hka) hka2
              replace bL := bL.trans b3
              replace hHeld := hHeld.leftC gX (neA (Nat.lt_of_succ_lt HNE.out.2.2.2.2.2.2.1) hka)
              replace oX : Own Y3 B9 (some ⟨g', 0, none⟩) nx c' lx := by rw [HNX.out, HLY.out]; exact oX
              have e4 : (Value.slice (some ⟨g', 0, none⟩) (4 + 4) c') = .slice (some ⟨g', 0, none⟩) nx c' := by rw [HNX.out]
              rw [e4]
              clear e4
              refine hK.out _ _ (fun _ => hHeld) ?_
              clear hK KK
              try simp only [Act.put, List.setIfInBounds_toArray, List.set_cons_zero, List.set_cons_succ]
              refine takeT (i := 9) (v := ?_) rfl (by kernel_rfl) (by kernel_rfl) (by decide) (by kernel_rfl) (by kernel_rfl) (fun _ _ _ h => h) (Or.inl ⟨by rfl, ?_⟩) hHeld ?_
              rotate_left
              · (intro wx hSw; obtain ⟨a0, a1, a2, a3, a4, a5, a6, a7, a8, a9, a10, a11⟩ := box12 hSw; go_simp; try (with_reducible rfl))
              try simp only [Act.put, List.setIfInBounds_toArray, List.set_cons_zero, List.set_cons_succ]
              have k8L := k8.step bL
              have gs := rdr_grown_set Y3 g8 9 (.slice (some ⟨g', 0, none⟩) nx c')
              have hFin := (show ∃ (X : Option Addr) (cx : Nat), Blk (Y3.setCell ⟨g8, 9, none⟩ (.slice (some ⟨g', 0, none⟩) nx c')) g8 #[.int .u8 0, .int .u8 0, .int .u16 0, .int .u8 0, .int .u8 0, .int .u16 0, .int .u32 0, .int .u32 0, .int .u64 0, .slice X nx cx, .slice (some ⟨g2, 0, none⟩) nk ck2, .slice (some ⟨g3, 0, none⟩) nv cv2] 61 ∧ Own (Y3.setCell ⟨g8, 9, none⟩ (.slice (some ⟨g', 0, none⟩) nx c')) B9 X nx cx lx ∧ Own (Y3.setCell ⟨g8, 9, none⟩ (.slice (some ⟨g', 0, none⟩) nx c')) W5.heap.size (some ⟨g2, 0, none⟩) nk ck2 lk ∧ Own (Y3.setCell ⟨g8, 9, none⟩ (.slice (some ⟨g', 0, none⟩) nx c')) W5.heap.size (some ⟨g3, 0, none⟩) nv cv2 lv ∧ Blk (Y3.setCell ⟨g8, 9, none⟩ (.slice (some ⟨g', 0, none⟩) nx c')) w.heap.size #[.int .i64 op, .bool qt, .bool fu, .int .i64 0, .int .u32 (oq : Nat), .slice K nk ck, .slice V nv cv, .int .u32 (fl : Nat), .int .u32 (ex : Nat), .int .u64 (cas : Nat), .int .u64 (dl : Nat), .int .u64 (ini : Nat)] 26 ∧ Blk (Y3.setCell ⟨g8, 9, none⟩ (.slice (some ⟨g', 0, none⟩) nx c')) (w.heap.size + 1) #[.int .u8 0, .int .u8 0, .int .u16 0, .int .u8 0, .int .u8 0, .int .u16 0, .int .u32 0, .int .u32 0, .int .u64 0, .slice none 0 0, .slice none 0 0, .slice none 0 0] 61 ∧ Below w.heap.size w (Y3.setCell ⟨g8, 9, none⟩ (.slice (some ⟨g', 0, none⟩) nx c')) from ⟨(some ⟨g', 0, none⟩), c', k8L.set_ 9 _, oX.kept gs HNE.out.2.2.2.2.1, (o2.step bL).left gs HNE.out.1, (o3.step bL).left gs HNE.out.2.1, (k1.step bL).left gs HNE.out.2.2.1, (k2.step bL).left gs HNE.out.2.2.2.1, (below_step b bL).trans (below_grown gs HNE.out.2.2.2.2.2.1 k8L.lt)⟩)
              obtain ⟨u0, u1, u2, u3, u4, u5, u6, u7, u8, u9, u10, u11⟩ := box12 k8L
              have y9 := k8L.frozen 9
              refine oneT (i := 10) rfl (by kernel_rfl) (fun KK hK => ?_)
              go_simp
              refine hK.out _ _ (fun h => absurd h (by decide)) ?_
              clear hK KK
              try simp only [Act.put, List.setIfInBounds_toArray, List.set_cons_zero, List.set_cons_succ]
              refine doneT (by kernel_rfl) ?_ _
              refine NoPanic.normal ?_
              go_wp2_with fail
              go_meet
              exact hFin
            · by_cases h20 : sx = 20
              · have e8 : ((sx : Int) == 8) = false := beq_eq_false_iff_ne.2 (by omega)
                have e20 : ((sx : Int) == 20) = true := beq_iff_eq.2 (by omega)
                have HLY : Hid (lx = (highB dl 8 ++ highB ini 8) ++ highB ex 4) := Lib.hid (by rw [HLX.out]; subst h20; simp [xaB, xbB, putsEx])
                have HNX : Hid (nx = (8 + 8 + 4)) := Lib.hid (by rw [HB.out.2.2.2.2.2.2.2.2.2.1, HLY.out]; simp [length_highB])
                clear h8 h20 hnf
                go_upto_region 11 with fail
                refine wp_region_noPanic ?_
                refine region_T (fun wx => Blk wx w.heap.size #[.int .i64 op, .bool qt, .bool fu, .int .i64 0, .int .u32 (oq : Nat), .slice K nk ck, .slice V nv cv, .int .u32 (fl : Nat), .int .u32 (ex : Nat), .int .u64 (cas : Nat), .int .u64 (dl : Nat), .int .u64 (ini : Nat)] 26) 13 (by kernel_rfl) ?_
                have bL : Below wc.heap.size wc wc.drew := (Below.refl _ _).drew
                have hHeld := k1.step bL
                have hsz : wc.drew.heap.size = wc.heap.size := rfl
                rw [← HB9.out] at hsz
                generalize wc.drew = Y0 at bL hHeld hsz ⊢
                refine takeT (i := 0) (v := ?_) rfl (by kernel_rfl) (by kernel_rfl) (by decide) (by kernel_rfl) (by kernel_rfl) (fun _ _ _ h => h) (Or.inl ⟨by rfl, ?_⟩) hHeld ?_
                rotate_left
                · (intro wx hSw; obtain ⟨a0, a1, a2, a3, a4, a5, a6, a7, a8, a9, a10, a11⟩ := box12 hSw; go_simp; try (with_reducible rfl))
                try simp only [Act.put, List.setIfInBounds_toArray, List.set_cons_zero, List.set_cons_succ]
                refine takeT (i := 1) (v := ?_) rfl (by kernel_rfl) (by kernel_rfl) (by decide) (by kernel_rfl) (by kernel_rfl) (fun _ _ _ h => h) (Or.inl ⟨by rfl, ?_⟩) hHeld ?_
                rotate_left
                · (intro wx hSw; obtain ⟨a0, a1, a2, a3, a4, a5, a6, a7, a8, a9, a10, a11⟩ := box12 hSw; go_simp; try (with_reducible rfl))
                try simp only [Act.put, List.setIfInBounds_toArray, List.set_cons_zero, List.set_cons_succ]
                refine takeT (i := 3) (v := ?_) rfl (by kernel_rfl) (by kernel_rfl) (by decide) (by kernel_rfl) (by kernel_rfl) (fun _ _ _ h => h) (Or.inl ⟨by rfl, ?_⟩) hHeld ?_
                rotate_left
                · (intro wx hSw; obtain ⟨a0, a1, a2, a3, a4, a5, a6, a7, a8, a9, a10, a11⟩ := box12 hSw; go_simp; try (with_reducible rfl))
                try simp only [Act.put, List.setIfInBounds_toArray, List.set_cons_zero, List.set_cons_succ]
                refine takeT (i := 4) (v := ?_) rfl (by kernel_rfl) (by kernel_rfl) (by decide) (by kernel_rfl) (by kernel_rfl) (fun _ _ _ h => h) (Or.inl ⟨by rfl, ?_⟩) hHeld ?_
                rotate_left
                · (intro wx hSw; obtain ⟨a0, a1, a2, a3, a4, a5, a6, a7, a8, a9, a10, a11⟩ := box12 hSw; go_simp; try (with_reducible rfl))
                try simp only [Act.put, List.setIfInBounds_toArray, List.set_cons_zero, List.set_cons_succ]
                refine takeT (i := 7) (v := ?_) rfl (by kernel_rfl) (by kernel_rfl) (by decide) (by kernel_rfl) (by kernel_rfl) (fun _ _ _ h => h) (Or.inl ⟨by rfl, ?_⟩) hHeld ?_
                rotate_left
                · (intro wx hSw; obtain ⟨a0, a1, a2, a3, a4, a5, a6, a7, a8, a9, a10, a11⟩ := box12 hSw; go_simp; try (with_reducible rfl))
                try simp only [Act.put, List.setIfInBounds_toArray, List.set_cons_zero, List.set_cons_succ]
                refine takeT (i := 8) (v := ?_) rfl (by kernel_rfl) (by kernel_rfl) (by decide) (by kernel_rfl) (by kernel_rfl) (fun _ _ _ h => h) (Or.inl ⟨by rfl, ?_⟩) hHeld ?_
                rotate_left
                · (intro wx hSw; obtain ⟨a0, a1, a2, a3, a4, a5, a6, a7, a8, a9, a10, a11⟩ := box12 hSw; go_simp; try (with_reducible rfl))
                try simp only [Act.put, List.setIfInBounds_toArray, List.set_cons_zero, List.set_cons_succ]
                refine takeT (i := 9) (v := ?_) rfl (by kernel_rfl) (by kernel_rfl) (by decide) (by kernel_rfl) (by kernel_rfl) (fun _ _ _ h => h) (Or.inl ⟨by rfl, ?_⟩) hHeld ?_
                rotate_left
                · (intro wx hSw; obtain ⟨a0, a1, a2, a3, a4, a5, a6, a7, a8, a9, a10, a11⟩ := box12 hSw; go_simp; try (with_reducible rfl))
                try simp only [Act.put, List.setIfInBounds_toArray, List.set_cons_zero, List.set_cons_succ]
                refine oneT (i := 2) rfl (by kernel_rfl) (fun KK hK => ?_)
                go_simp
                refine (high20_any dl 8 HU.out.2.2.1 (by decide) Y0).mono ?_
                rintro e Y1 ⟨X2, c2, rfl, oA, b1⟩
                replace hHeld := hHeld.step b1
                replace bL := below_step bL b1
                rw [hsz] at oA
                have hs1 := b1.size
                clear b1
                refine hK.out _ _ (fun _ => hHeld) ?_
                clear hK KK
                try simp only [Act.put, List.setIfInBounds_toArray, List.set_cons_zero, List.set_cons_succ]
                refine oneT (i := 5) rfl (by kernel_rfl) (fun KK hK => ?_)
                go_simp
                refine (high20_any ini 8 HU.out.2.2.2 (by decide) Y1).mono ?_
                rintro e Y2 ⟨X5, c5, rfl, oB, b1⟩
                replace hHeld := hHeld.step b1
                replace bL := below_step bL b1
                replace oA := oA.step b1
                have hs2 := b1.size
                have rB := oB.rd
                clear b1
                refine hK.out _ _ (fun _ => hHeld) ?_
                clear hK KK
                try simp only [Act.put, List.setIfInBounds_toArray, List.set_cons_zero, List.set_cons_succ]
                obtain ⟨ka, rfl, hka, hka2⟩ := own_row (n := 7) oA
                refine oneT (i := 6) rfl (by kernel_rfl) (fun KK hK => ?_)
                refine step_app8g _ rfl _ _ rfl B9 ka 8 c2 _ rfl oA _ X5 8 c5 _ rfl rB (by omega) (by omega) ?_
                intro g' c' Y3 oC gX hX
                have b3 := below_grown gX (by rw [HB9.out] at hka; exact hka) hka2
                replace bL := bL.trans b3
                have hs3 := b3.size
                replace hHeld := hHeld.leftC gX (neA (Nat.lt_of_succ_lt HNE.out.2.2.2.2.2.2.1) hka)
                refine hK.out _ _ (fun _ => hHeld) ?_
                clear hK KK
                try simp only [Act.put, List.setIfInBounds_toArray, List.set_cons_zero, List.set_cons_succ]
                refine oneT (i := 10) rfl (by kernel_rfl) (fun KK hK => ?_)
                go_simp
                refine (high20_any ex 4 HU.out.2.1 (by decide) Y3).mono ?_
                rintro e Y4 ⟨X10, c10, rfl, oD, b1⟩
                replace hHeld := hHeld.step b1
                replace bL := below_step bL b1
                replace oC := oC.step b1
                have hs4 := b1.size
                have rD := oD.rd
                have hgc := oC.base
                clear b1
                refine hK.out _ _ (fun _ => hHeld) ?_
                clear hK KK
                try simp only [Act.put, List.setIfInBounds_toArray, List.set_cons_zero, List.set_cons_succ]
                refine oneT (i := 11) rfl (by kernel_rfl) (fun KK hK => ?_)
                refine step_app8g _ rfl _ _ rfl B9 g' (8 + 8) c' _ rfl oC _ X10 4 c10 _ rfl rD (by omega) (by omega) ?_
                intro g4 c4 Y5 oX gX hX
                have b5 := below_grown gX (by have h1 := hgc.1; rw [HB9.out] at h1; exact h1) hgc.2
                replace bL := bL.trans b5
                replace hHeld := hHeld.leftC gX (neA (Nat.lt_of_succ_lt HNE.out.2.2.2.2.2.2.1) hgc.1)
                replace oX : Own Y5 B9 (some ⟨g4, 0, none⟩) nx c4 lx := by rw [HNX.out, HLY.out]; exact oX
                have e4 : (Value.slice (some ⟨g4, 0, none⟩) (8 + 8 + 4) c4) = .slice (some ⟨g4, 0, none⟩) nx c4 := by rw [HNX.out]
                rw [e4]
                clear e4
                refine hK.out _ _ (fun _ => hHeld) ?_
                clear hK KK
                try simp only [Act.put, List.setIfInBounds_toArray, List.set_cons_zero, List.set_cons_succ]
                refine takeT (i := 12) (v := ?_) rfl (by kernel_rfl) (by kernel_rfl) (by decide) (by kernel_rfl) (by kernel_rfl) (fun _ _ _ h => h) (Or.inl ⟨by rfl, ?_⟩) hHeld ?_
                rotate_left
                · (intro wx hSw; obtain ⟨a0, a1, a2, a3, a4, a5, a6, a7, a8, a9, a10, a11⟩ := box12 hSw; go_simp; try (with_reducible rfl))
                try simp only [Act.put, List.setIfInBounds_toArray, List.set_cons_zero, List.set_cons_succ]
                have k8L := k8.step bL
                have gs := rdr_grown_set Y5 g8 9 (.slice (some ⟨g4, 0, none⟩) nx c4)
                have hFin := (show ∃ (X : Option Addr) (cx : Nat), Blk (Y5.setCell ⟨g8, 9, none⟩ (.slice (some ⟨g4, 0, none⟩) nx c4)) g8 #[.int .u8 0, .int .u8 0, .int .u16 0, .int .u8 0, .int .u8 0, .int .u16 0, .int .u32 0, .int .u32 0, .int .u64 0, .slice X nx cx, .slice (some ⟨g2, 0, none⟩) nk ck2, .slice (some ⟨g3, 0, none⟩) nv cv2] 61 ∧ Own (Y5.setCell ⟨g8, 9, none⟩ (.slice (some ⟨g4, 0, none⟩) nx c4)) B9 X nx cx lx ∧ Own (Y5.setCell ⟨g8, 9, none⟩ (.slice (some ⟨g4, 0, none⟩) nx c4)) W5.heap.size (some ⟨g2, 0, none⟩) nk ck2 lk ∧ Own (Y5.setCell ⟨g8, 9, none⟩ (.slice (some ⟨g4, 0, none⟩) nx c4)) W5.heap.size (some ⟨g3, 0, none⟩) nv cv2 lv ∧ Blk (Y5.setCell ⟨g8, 9, none⟩ (.slice (some ⟨g4, 0, none⟩) nx c4)) w.heap.size #[.int .i64 op, .bool qt, .bool fu, .int .i64 0, .int .u32 (oq : Nat), .slice K nk ck, .slice V nv cv, .int .u32 (fl : Nat), .int .u32 (ex : Nat), .int .u64 (cas : Nat), .int .u64 (dl : Nat), .int .u64 (ini : Nat)] 26 ∧ Blk (Y5.setCell ⟨g8, 9, none⟩ (.slice (some ⟨g4, 0, none⟩) nx c4)) (w.heap.size + 1) #[.int .u8 0, .int .u8 0, .int .u16 0, .int .u8 0, .int .u8 0, .int .u16 0, .int .u32 0, .int .u32 0, .int .u64 0, .slice none 0 0, .slice none 0 0, .slice none 0 0] 61 ∧ Below w.heap.size w (Y5.setCell ⟨g8, 9, none⟩ (.slice (some ⟨g4, 0, none⟩) nx c4)) from ⟨(some ⟨g4, 0, none⟩), c4, k8L.set_ 9 _, oX.kept gs HNE.out.2.2.2.2.1, (o2.step bL).left gs HNE.out.1, (o3.step bL).left gs HNE.out.2.1, (k1.step bL).left gs HNE.out.2.2.1, (k2.step bL).left gs HNE.out.2.2.2.1, (below_step b bL).trans (below_grown gs HNE.out.2.2.2.2.2.1 k8L.lt)⟩)
                obtain ⟨u0, u1, u2, u3, u4, u5, u6, u7, u8, u9, u10, u11⟩ := box12 k8L
                have y9 := k8L.frozen 9
                refine oneT (i := 13) rfl (by kernel_rfl) (fun KK hK => ?_)
                go_simp
                refine hK.out _ _ (fun h => absurd h (by decide)) ?_
                clear hK KK
                try simp only [Act.put, List.setIfInBounds_toArray, List.set_cons_zero, List.set_cons_succ]
                refine doneT (by kernel_rfl) ?_ _
                refine NoPanic.normal ?_
                go_wp2_with fail
                go_meet
                exact hFin
              · have hs0 : sx = 0 := by have h1 := HSX.out; have h2 := H4.out; omega
                have e8 : ((sx : Int) == 8) = false := beq_eq_false_iff_ne.2 (by omega)
                have e20 : ((sx : Int) == 20) = false := beq_eq_false_iff_ne.2 (by omega)
                have HLY : Hid (lx = []) := Lib.hid (by rw [HLX.out, hs0]; simp only [xaB, xbB, putsEx]; by_cases h1 : op = 8; (have h2 : ex = 0 := Classical.byContradiction (fun h3 => hnf ⟨h1, h3⟩)); simp [h2]; simp [h1])
                have HNX : Hid (nx = 0) := Lib.hid (by rw [HB.out.2.2.2.2.2.2.2.2.2.1, HLY.out]; rfl)
                have e9 : (Value.slice none 0 0) = .slice none nx 0 := by rw [HNX.out]
                have k8' := k8
                have hFin : ∃ (X : Option Addr) (cx : Nat), Blk wc g8 #[.int .u8 0, .int .u8 0, .int .u16 0, .int .u8 0, .int .u8 0, .int .u16 0, .int .u32 0, .int .u32 0, .int .u64 0, .slice X nx cx, .slice (some ⟨g2, 0, none⟩) nk ck2, .slice (some ⟨g3, 0, none⟩) nv cv2] 61 ∧ Own wc B9 X nx cx lx ∧ Own wc W5.heap.size (some ⟨g2, 0, none⟩) nk ck2 lk ∧ Own wc W5.heap.size (some ⟨g3, 0, none⟩) nv cv2 lv ∧ Blk wc w.heap.size #[.int .i64 op, .bool qt, .bool fu, .int .i64 0, .int .u32 (oq : Nat), .slice K nk ck, .slice V nv cv, .int .u32 (fl : Nat), .int .u32 (ex : Nat), .int .u64 (cas : Nat), .int .u64 (dl : Nat), .int .u64 (ini : Nat)] 26 ∧ Blk wc (w.heap.size + 1) #[.int .u8 0, .int .u8 0, .int .u16 0, .int .u8 0, .int .u8 0, .int .u16 0, .int .u32 0, .int .u32 0, .int .u64 0, .slice none 0 0, .slice none 0 0, .slice none 0 0] 61 ∧ Below w.heap.size w wc := ⟨none, 0, by rw [HNX.out]; exact k8, by rw [HNX.out, HLY.out]; exact Own.nil _ _, o2, o3, k1, k2, b⟩
                clear h8 h20 hnf hs0
                go_wp2_with fail
                go_meet
                exact hFin
    case rest =>
      clear k8 o2 o3 k1 k2 k6 b hbz hk6o
      obtain ⟨X, cx, k8, oX, o2, o3, k1, k2, b⟩ := hcut
      go_upto_region 12 with fail
      go_cut [] (fun wx => Blk wx g8 #[.int .u8 128, .int .u8 (code : Nat), .int .u16 (nk : Nat), .int .u8 (nx : Nat), .int .u8 0, .int .u16 0, .int .u32 (bl : Nat), .int .u32 (oq : Nat), .int .u64 (cas : Nat), .slice X nx cx, .slice (some ⟨g2, 0, none⟩) nk ck2, .slice (some ⟨g3, 0, none⟩) nv cv2] 61 ∧ Own wx B9 X nx cx lx ∧ Own wx W5.heap.size (some ⟨g2, 0, none⟩) nk ck2 lk ∧ Own wx W5.heap.size (some ⟨g3, 0, none⟩) nv cv2 lv ∧ Blk wx w.heap.size #[.int .i64 op, .bool qt, .bool fu, .int .i64 0, .int .u32 (oq : Nat), .slice K nk ck, .slice V nv cv, .int .u32 (fl : Nat), .int .u32 (ex : Nat), .int .u64 (cas : Nat), .int .u64 (dl : Nat), .int .u64 (ini : Nat)] 26 ∧ Blk wx (w.heap.size + 1) #[.int .u8 0, .int .u8 0, .int .u16 0, .int .u8 0, .int .u8 0, .int .u16 0, .int .u32 0, .int .u32 0, .int .u64 0, .slice none 0 0, .slice none 0 0, .slice none 0 0] 61 ∧ Below w.heap.size w wx)
      case first =>
        obtain ⟨-, -, -, -, -, hc9, hk9, hv9, hx9, -, hb9⟩ := HB.out
        have hnx9 : nx ≤ 20 := by rw [HB.out.2.2.2.2.2.2.2.2.2.1]; exact hx9
        clear hx9
        have w1 : IntKind.u8.wrap (code : Int) = (code : Int) := wr8 hc9
        have w2 : IntKind.u16.wrap (nk : Int) = (nk : Int) := wr16 (Nat.lt_of_le_of_lt hk9 (by decide))
        have w3 : IntKind.u8.wrap (nx : Int) = (nx : Int) := wr8 (Nat.lt_of_le_of_lt hnx9 (by decide))
        have w4 := wrS hk9 hv9
        have w4' := wrS' hk9 hv9
        have w5 := wrT hk9 hv9 hnx9
        have w5' := wrT' hk9 hv9 hnx9
        have w6 := wrU hk9 hv9 hnx9 hb9
        clear hc9 hk9 hv9 hnx9 hb9
        have kf := (((((((((k8.set_ 0 (.int .u8 128)).set_ 1 (.int .u8 (code : Nat))).set_ 2 (.int .u16 (nk : Nat))).set_ 3 (.int .u8 (nx : Nat))).set_ 4 (.int .u8 0)).set_ 5 (.int .u16 0)).set_ 6 (.int .u32 (bl : Nat))).set_ 7 (.int .u32 (oq : Nat))).set_ 8 (.int .u64 (cas : Nat)))
        simp only [List.setIfInBounds_toArray, List.set_cons_zero, List.set_cons_succ] at kf
        have gs := (grown_trans (grown_trans (grown_trans (grown_trans (grown_trans (grown_trans (grown_trans (grown_trans (rdr_grown_set wc g8 0 (.int .u8 128)) (rdr_grown_set _ g8 1 (.int .u8 (code : Nat)))) (rdr_grown_set _ g8 2 (.int .u16 (nk : Nat)))) (rdr_grown_set _ g8 3 (.int .u8 (nx : Nat)))) (rdr_grown_set _ g8 4 (.int .u8 0))) (rdr_grown_set _ g8 5 (.int .u16 0))) (rdr_grown_set _ g8 6 (.int .u32 (bl : Nat)))) (rdr_grown_set _ g8 7 (.int .u32 (oq : Nat)))) (rdr_grown_set _ g8 8 (.int .u64 (cas : Nat))))
        have hFin : Blk ((((((((((wc.setCell ⟨g8, 0, none⟩ (.int .u8 128)).setCell ⟨g8, 1, none⟩ (.int .u8 (code : Nat))).setCell ⟨g8, 2, none⟩ (.int .u16 (nk : Nat))).setCell ⟨g8, 3, none⟩ (.int .u8 (nx : Nat))).setCell ⟨g8, 4, none⟩ (.int .u8 0)).setCell ⟨g8, 5, none⟩ (.int .u16 0)).setCell ⟨g8, 6, none⟩ (.int .u32 (bl : Nat))).setCell ⟨g8, 7, none⟩ (.int .u32 (oq : Nat))).setCell ⟨g8, 8, none⟩ (.int .u64 (cas : Nat)))) g8 #[.int .u8 128, .int .u8 (code : Nat), .int .u16 (nk : Nat), .int .u8 (nx : Nat), .int .u8 0, .int .u16 0, .int .u32 (bl : Nat), .int .u32 (oq : Nat), .int .u64 (cas : Nat), .slice X nx cx, .slice (some ⟨g2, 0, none⟩) nk ck2, .slice (some ⟨g3, 0, none⟩) nv cv2] 61 ∧ Own ((((((((((wc.setCell ⟨g8, 0, none⟩ (.int .u8 128)).setCell ⟨g8, 1, none⟩ (.int .u8 (code : Nat))).setCell ⟨g8, 2, none⟩ (.int .u16 (nk : Nat))).setCell ⟨g8, 3, none⟩ (.int .u8 (nx : Nat))).setCell ⟨g8, 4, none⟩ (.int .u8 0)).setCell ⟨g8, 5, none⟩ (.int .u16 0)).setCell ⟨g8, 6, none⟩ (.int .u32 (bl : Nat))).setCell ⟨g8, 7, none⟩ (.int .u32 (oq : Nat))).setCell ⟨g8, 8, none⟩ (.int .u64 (cas : Nat)))) B9 X nx cx lx ∧ Own ((((((((((wc.setCell ⟨g8, 0, none⟩ (.int .u8 128)).setCell ⟨g8, 1, none⟩ (.int .u8 (code : Nat))).setCell ⟨g8, 2, none⟩ (.int .u16 (nk : Nat))).setCell ⟨g8, 3, none⟩ (.int .u8 (nx : Nat))).setCell ⟨g8, 4, none⟩ (.int .u8 0)).setCell ⟨g8, 5, none⟩ (.int .u16 0)).setCell ⟨g8, 6, none⟩ (.int .u32 (bl : Nat))).setCell ⟨g8, 7, none⟩ (.int .u32 (oq : Nat))).setCell ⟨g8, 8, none⟩ (.int .u64 (cas : Nat)))) W5.heap.size (some ⟨g2, 0, none⟩) nk ck2 lk ∧ Own ((((((((((wc.setCell ⟨g8, 0, none⟩ (.int .u8 128)).setCell ⟨g8, 1, none⟩ (.int .u8 (code : Nat))).setCell ⟨g8, 2, none⟩ (.int .u16 (nk : Nat))).setCell ⟨g8, 3, none⟩ (.int .u8 (nx : Nat))).setCell ⟨g8, 4, none⟩ (.int .u8 0)).setCell ⟨g8, 5, none⟩ (.int .u16 0)).setCell ⟨g8, 6, none⟩ (.int .u32 (bl : Nat))).setCell ⟨g8, 7, none⟩ (.int .u32 (oq : Nat))).setCell ⟨g8, 8, none⟩ (.int .u64 (cas : Nat)))) W5.heap.size (some ⟨g3, 0, none⟩) nv cv2 lv ∧ Blk ((((((((((wc.setCell ⟨g8, 0, none⟩ (.int .u8 128)).setCell ⟨g8, 1, none⟩ (.int .u8 (code : Nat))).setCell ⟨g8, 2, none⟩ (.int .u16 (nk : Nat))).setCell ⟨g8, 3, none⟩ (.int .u8 (nx : Nat))).setCell ⟨g8, 4, none⟩ (.int .u8 0)).setCell ⟨g8, 5, none⟩ (.int .u16 0)).setCell ⟨g8, 6, none⟩ (.int .u32 (bl : Nat))).setCell ⟨g8, 7, none⟩ (.int .u32 (oq : Nat))).setCell ⟨g8, 8, none⟩ (.int .u64 (cas : Nat)))) w.heap.size #[.int .i64 op, .bool qt, .bool fu, .int .i64 0, .int .u32 (oq : Nat), .slice K nk ck, .slice V nv cv, .int .u32 (fl : Nat), .int .u32 (ex : Nat), .int .u64 (cas : Nat), .int .u64 (dl : Nat), .int .u64 (ini : Nat)] 26 ∧ Blk ((((((((((wc.setCell ⟨g8, 0, none⟩ (.int .u8 128)).setCell ⟨g8, 1, none⟩ (.int .u8 (code : Nat))).setCell ⟨g8, 2, none⟩ (.int .u16 (nk : Nat))).setCell ⟨g8, 3, none⟩ (.int .u8 (nx : Nat))).setCell ⟨g8, 4, none⟩ (.int .u8 0)).setCell ⟨g8, 5, none⟩ (.int .u16 0)).setCell ⟨g8, 6, none⟩ (.int .u32 (bl : Nat))).setCell ⟨g8, 7, none⟩ (.int .u32 (oq : Nat))).setCell ⟨g8, 8, none⟩ (.int .u64 (cas : Nat)))) (w.heap.size + 1) #[.int .u8 0, .int .u8 0, .int .u16 0, .int .u8 0, .int .u8 0, .int .u16 0, .int .u32 0, .int .u32 0, .int .u64 0, .slice none 0 0, .slice none 0 0, .slice none 0 0] 61 ∧ Below w.heap.size w ((((((((((wc.setCell ⟨g8, 0, none⟩ (.int .u8 128)).setCell ⟨g8, 1, none⟩ (.int .u8 (code : Nat))).setCell ⟨g8, 2, none⟩ (.int .u16 (nk : Nat))).setCell ⟨g8, 3, none⟩ (.int .u8 (nx : Nat))).setCell ⟨g8, 4, none⟩ (.int .u8 0)).setCell ⟨g8, 5, none⟩ (.int .u16 0)).setCell ⟨g8, 6, none⟩ (.int .u32 (bl : Nat))).setCell ⟨g8, 7, none⟩ (.int .u32 (oq : Nat))).setCell ⟨g8, 8, none⟩ (.int .u64 (cas : Nat)))) := ⟨kf, oX.kept gs HNE.out.2.2.2.2.1, o2.left gs HNE.out.1, o3.left gs HNE.out.2.1, k1.left gs HNE.out.2.2.1, k2.left gs HNE.out.2.2.2.1, b.trans (below_grown gs HNE.out.2.2.2.2.2.1 k8.lt)⟩
        clear kf gs
        obtain ⟨u0, u1, u2, u3, u4, u5, u6, u7, u8, u9, u10, u11⟩ := box12 k8
        have y0 := k8.frozen 0
        have y1 := k8.frozen 1
        have y2 := k8.frozen 2
        have y3 := k8.frozen 3
        have y4 := k8.frozen 4
        have y5 := k8.frozen 5
        have y6 := k8.frozen 6
        have y7 := k8.frozen 7
        have y8 := k8.frozen 8
        obtain ⟨p0, p1, p2, p3, p4, p5, p6, p7, p8, p9, p10, p11⟩ := box12 k1
        go_wp2_with fail
        go_meet
        exact hFin
      case rest =>
        clear k8 oX o2 o3 k1 k2 b
        obtain ⟨k8, oX, o2, o3, k1, k2, b⟩ := hcut
        go_upto_region 13 with fail
        go_cut [113] (fun s113 wx => s113 = .bool (!R) ∧ Blk wx g8 #[.int .u8 128, .int .u8 (code : Nat), .int .u16 (nk : Nat), .int .u8 (nx : Nat), .int .u8 0, .int .u16 0, .int .u32 (bl : Nat), .int .u32 (oq : Nat), .int .u64 (cas : Nat), .slice X nx cx, .slice (some ⟨g2, 0, none⟩) nk ck2, .slice (some ⟨g3, 0, none⟩) nv cv2] 61 ∧ Own wx B9 X nx cx lx ∧ Own wx W5.heap.size (some ⟨g2, 0, none⟩) nk ck2 lk ∧ Own wx W5.heap.size (some ⟨g3, 0, none⟩) nv cv2 lv ∧ Blk wx w.heap.size #[.int .i64 op, .bool qt, .bool fu, .int .i64 0, .int .u32 (oq : Nat), .slice K nk ck, .slice V nv cv, .int .u32 (fl : Nat), .int .u32 (ex : Nat), .int .u64 (cas : Nat), .int .u64 (dl : Nat), .int .u64 (ini : Nat)] 26 ∧ Blk wx (w.heap.size + 1) #[.int .u8 0, .int .u8 0, .int .u16 0, .int .u8 0, .int .u8 0, .int .u16 0, .int .u32 0, .int .u32 0, .int .u64 0, .slice none 0 0, .slice none 0 0, .slice none 0 0] 61 ∧ Below w.heap.size w wx)
        case first =>
          refine wp_region_noPanic ?_
          refine region_T (fun wx => Blk wx g8 #[.int .u8 128, .int .u8 (code : Nat), .int .u16 (nk : Nat), .int .u8 (nx : Nat), .int .u8 0, .int .u16 0, .int .u32 (bl : Nat), .int .u32 (oq : Nat), .int .u64 (cas : Nat), .slice X nx cx, .slice (some ⟨g2, 0, none⟩) nk ck2, .slice (some ⟨g3, 0, none⟩) nv cv2] 61 ∧ Blk wx w.heap.size #[.int .i64 op, .bool qt, .bool fu, .int .i64 0, .int .u32 (oq : Nat), .slice K nk ck, .slice V nv cv, .int .u32 (fl : Nat), .int .u32 (ex : Nat), .int .u64 (cas : Nat), .int .u64 (dl : Nat), .int .u64 (ini : Nat)] 26) 5 (by kernel_rfl) ?_
          have bD : Below wc.heap.size wc wc.drew := (Below.refl _ _).drew
          replace k8 := k8.step bD
          replace oX := oX.step bD
          replace o2 := o2.step bD
          replace o3 := o3.step bD
          replace k1 := k1.step bD
          replace k2 := k2.step bD
          replace b := below_step b bD
          have hHeld := And.intro k8 k1
          clear bD
          generalize wc.drew = Y0 at k8 oX o2 o3 k1 k2 b hHeld ⊢
          refine takeT (i := 0) (v := ?_) rfl (by kernel_rfl) (by kernel_rfl) (by decide) (by kernel_rfl) (by kernel_rfl) (fun _ _ _ h => h) (Or.inl ⟨by rfl, ?_⟩) hHeld ?_
          rotate_left
          · (intro wx hSw; obtain ⟨sa, sb⟩ := hSw; obtain ⟨c0, c1, c2, c3, c4, c5, c6, c7, c8, c9, c10, c11⟩ := box12 sa; obtain ⟨a0, a1, a2, a3, a4, a5, a6, a7, a8, a9, a10, a11⟩ := box12 sb; go_simp; try (with_reducible rfl))
          try simp only [Act.put, List.setIfInBounds_toArray, List.set_cons_zero, List.set_cons_succ]
          refine takeT (i := 2) (v := ?_) rfl (by kernel_rfl) (by kernel_rfl) (by decide) (by kernel_rfl) (by kernel_rfl) (fun _ _ _ h => h) (Or.inl ⟨by rfl, ?_⟩) hHeld ?_
          rotate_left
          · (intro wx hSw; obtain ⟨sa, sb⟩ := hSw; obtain ⟨c0, c1, c2, c3, c4, c5, c6, c7, c8, c9, c10, c11⟩ := box12 sa; obtain ⟨a0, a1, a2, a3, a4, a5, a6, a7, a8, a9, a10, a11⟩ := box12 sb; go_simp; try (with_reducible rfl))
          try simp only [Act.put, List.setIfInBounds_toArray, List.set_cons_zero, List.set_cons_succ]
          refine oneT (i := 1) rfl (by kernel_rfl) (fun KK hK => ?_)
          go_simp
          refine (HREQ.out Y0 X _ _ cx ck2 cv2 (oX.rd) (o2.rd) (o3.rd)).mono ?_
          rintro e Y1 ⟨K2, V2, nk2, cka, nv2, cva, rfl, rK2, rV2, b1⟩
          clear hHeld
          replace k8 := k8.step b1
          replace oX := oX.step b1
          replace o2 := o2.step b1
          replace o3 := o3.step b1
          replace k1 := k1.step b1
          replace k2 := k2.step b1
          replace b := below_step b b1
          have hHeld := And.intro k8 k1
          clear b1
          refine hK.out _ _ (fun _ => hHeld) ?_
          clear hK KK
          try simp only [Act.put, List.setIfInBounds_toArray, List.set_cons_zero, List.set_cons_succ]
          refine oneT (i := 3) rfl (by kernel_rfl) (fun KK hK => ?_)
          go_simp
          refine (HSAME.out Y1 K2 V2 nk2 cka nv2 cva rK2.rd rV2.rd ((HRR.out.1.below b).more b.size) ((HRR.out.2.below b).more b.size)).mono ?_
          rintro e Y2 ⟨rfl, b1⟩
          clear hHeld rK2 rV2
          replace k8 := k8.step b1
          replace oX := oX.step b1
          replace o2 := o2.step b1
          replace o3 := o3.step b1
          replace k1 := k1.step b1
          replace k2 := k2.step b1
          replace b := below_step b b1
          have hHeld := And.intro k8 k1
          clear b1
          refine hK.out _ _ (fun _ => hHeld) ?_
          clear hK KK
          try simp only [Act.put, List.setIfInBounds_toArray, List.set_cons_zero, List.set_cons_succ]
          refine takeT (i := 4) (v := ?_) rfl (by kernel_rfl) (by kernel_rfl) (by decide) (by kernel_rfl) (by kernel_rfl) (fun _ _ _ h => h) (Or.inl ⟨by rfl, ?_⟩) hHeld ?_
          rotate_left
          · (intro wx hSw; obtain ⟨sa, sb⟩ := hSw; obtain ⟨c0, c1, c2, c3, c4, c5, c6, c7, c8, c9, c10, c11⟩ := box12 sa; obtain ⟨a0, a1, a2, a3, a4, a5, a6, a7, a8, a9, a10, a11⟩ := box12 sb; go_simp; try (with_reducible rfl))
          try simp only [Act.put, List.setIfInBounds_toArray, List.set_cons_zero, List.set_cons_succ]
          refine doneT (by kernel_rfl) ?_ _
          refine NoPanic.normal ?_
          go_wp2_with fail
          go_meet
          exact ⟨rfl, k8, oX, o2, o3, k1, k2, b⟩
        case rest =>
          clear k8 oX o2 o3 k1 k2 b
          obtain ⟨rfl, k8, oX, o2, o3, k1, k2, b⟩ := hcut
          clear HREQ HSAME HLX HWE HWF HU HSX HO8 HRR
          cases R with
          | true =>
            simp only [Bool.not_true]
            obtain ⟨q0, q1, q2, q3, q4, q5, q6, q7, q8, q9, q10, q11⟩ := box12 k2
            have y0 := k2.frozen 0
            have y1 := k2.frozen 1
            have y2 := k2.frozen 2
            have y3 := k2.frozen 3
            have y4 := k2.frozen 4
            have y5 := k2.frozen 5
            have y6 := k2.frozen 6
            have y7 := k2.frozen 7
            have y8 := k2.frozen 8
            have y9 := k2.frozen 9
            have y10 := k2.frozen 10
            have y11 := k2.frozen 11
            obtain ⟨c0, c1, c2, c3, c4, c5, c6, c7, c8, c9, c10, c11⟩ := box12 k8
            have kf := blk_set12 k2 (.int .u8 128) (.int .u8 (code : Nat)) (.int .u16 (nk : Nat)) (.int .u8 (nx : Nat)) (.int .u8 0) (.int .u16 0) (.int .u32 (bl : Nat)) (.int .u32 (oq : Nat)) (.int .u64 (cas : Nat)) (.slice X nx cx) (.slice (some ⟨g2, 0, none⟩) nk ck2) (.slice (some ⟨g3, 0, none⟩) nv cv2)
            have gs := grown_set12 wc (w.heap.size + 1) (.int .u8 128) (.int .u8 (code : Nat)) (.int .u16 (nk : Nat)) (.int .u8 (nx : Nat)) (.int .u8 0) (.int .u16 0) (.int .u32 (bl : Nat)) (.int .u32 (oq : Nat)) (.int .u64 (cas : Nat)) (.slice X nx cx) (.slice (some ⟨g2, 0, none⟩) nk ck2) (.slice (some ⟨g3, 0, none⟩) nv cv2)
            have bf := b.trans (below_grown gs (Nat.le_succ _) k2.lt)
            obtain ⟨t0, t1, t2, t3, t4, t5, t6, t7, t8, t9, t10, t11⟩ := box12 kf
            have HBF := Lib.hid (And.intro (oX.kept gs HNE.out.2.2.2.2.2.2.1).rd (And.intro (o2.kept gs HNE.out.2.2.2.2.2.2.2).rd (And.intro (o3.kept gs HNE.out.2.2.2.2.2.2.2).rd bf)))
            clear kf gs b k1 k2 bf k8 oX o2 o3
            go_wp2_with fail
            refine bodyPost_ret (v := .tuple #[.agg #[.int .u8 128, .int .u8 (code : Nat), .int .u16 (nk : Nat), .int .u8 (nx : Nat), .int .u8 0, .int .u16 0, .int .u32 (bl : Nat), .int .u32 (oq : Nat), .int .u64 (cas : Nat), .slice X nx cx, .slice (some ⟨g2, 0, none⟩) nk ck2, .slice (some ⟨g3, 0, none⟩) nv cv2], .bool true]) (by simp [results, Try.results46, go_sem, t0, t1, t2, t3, t4, t5, t6, t7, t8, t9, t10, t11]) rfl ?_
            first | exact ⟨_, _, _, _, _, _, _, rfl, HB.out.2.2.2.2.2.2.2.2.2.1, HBF.out.1, HBF.out.2.1, HBF.out.2.2.1, HBF.out.2.2.2⟩ | exact ⟨fun _ => ⟨_, _, _, _, _, _, _, rfl, HB.out.2.2.2.2.2.2.2.2.2.1, HBF.out.1, HBF.out.2.1, HBF.out.2.2.1, HBF.out.2.2.2⟩, (fun h => by cases h)⟩
          | false =>
            simp only [Bool.not_false]
            obtain ⟨q0, q1, q2, q3, q4, q5, q6, q7, q8, q9, q10, q11⟩ := box12 k2
            have y0 := k2.frozen 0
            have y1 := k2.frozen 1
            have y2 := k2.frozen 2
            have y3 := k2.frozen 3
            have y4 := k2.frozen 4
            have y5 := k2.frozen 5
            have y6 := k2.frozen 6
            have y7 := k2.frozen 7
            have y8 := k2.frozen 8
            have y9 := k2.frozen 9
            have y10 := k2.frozen 10
            have y11 := k2.frozen 11
            have kf := blk_set12 k2 (.int .u8 0) (.int .u8 0) (.int .u16 0) (.int .u8 0) (.int .u8 0) (.int .u16 0) (.int .u32 0) (.int .u32 0) (.int .u64 0) (.slice none 0 0) (.slice none 0 0) (.slice none 0 0)
            have gs := grown_set12 wc (w.heap.size + 1) (.int .u8 0) (.int .u8 0) (.int .u16 0) (.int .u8 0) (.int .u8 0) (.int .u16 0) (.int .u32 0) (.int .u32 0) (.int .u64 0) (.slice none 0 0) (.slice none 0 0) (.slice none 0 0)
            have bf := b.trans (below_grown gs (Nat.le_succ _) k2.lt)
            obtain ⟨t0, t1, t2, t3, t4, t5, t6, t7, t8, t9, t10, t11⟩ := box12 kf
            have HBF := Lib.hid bf
            clear kf gs b k1 k2 bf k8 oX o2 o3
            go_wp2_with fail
            refine bodyPost_ret (v := .tuple #[.agg #[.int .u8 0, .int .u8 0, .int .u16 0, .int .u8 0, .int .u8 0, .int .u16 0, .int .u32 0, .int .u32 0, .int .u64 0, .slice none 0 0, .slice none 0 0, .slice none 0 0], .bool false]) (by simp [results, Try.results46, go_sem, t0, t1, t2, t3, t4, t5, t6, t7, t8, t9, t10, t11]) rfl ?_
            first | exact ⟨rfl, HBF.out⟩ | exact ⟨(fun h => by cases h), fun _ => ⟨rfl, HBF.out⟩⟩
end Go.Proofs.Ytnghmgbmflcngaa

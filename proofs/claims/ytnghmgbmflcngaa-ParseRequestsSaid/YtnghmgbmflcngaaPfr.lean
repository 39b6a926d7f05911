/- parse.Frame. Conditions: typed in each theorem. -/
import Derived.Test.YtnghmgbmflcngaaPrb
import Derived.Test.YtnghmgbmflcngaaZpar
import Derived.Test.YtnghmgbmflcngaaZfre
import Derived.Test.YtnghmgbmflcngaaZhld
import Derived.Deep.DeepCutAuto
import Derived.Deep.CutBlock
namespace Go.Proofs.Ytnghmgbmflcngaa
set_option linter.unusedVariables false
open Go.RowKit

set_option maxRecDepth 100000 in
set_option maxHeartbeats 2500000 in
theorem addx_any (g : Nat) (X : Option Addr) (nx cx : Nat) (lx : List UInt8) (A2 : Option Addr) (m c2 : Nat) (l2 : List UInt8) (w : World) (kx : Blk w g #[.slice X nx cx] 23) (ox : Own w (g + 1) X nx cx lx) (r : Rd w w.heap.size A2 m c2 l2) (hm : nx + m ≤ 1000) :
    Calls Try.prog 86 #[.slice A2 m c2, .pointer (some ⟨g, 0, none⟩)] w fun e w' => e = .returned (.tuple #[]) ∧ ∃ (X' : Option Addr) (c' : Nat), Blk w' g #[.slice X' (nx + m) c'] 23 ∧ Own w' (g + 1) X' (nx + m) c' (lx ++ l2) ∧ Below g w w' := by
  have p0 := box1 kx
  have hlt := kx.lt
  go_enter Try.func86, Try.ntmps86
  go_wp2_with (at_builtin; refine wpList_app8 _ rfl _ _ rfl (g + 1) X nx cx lx rfl ox w.heap.size A2 m c2 l2 rfl r (by omega) (by omega) ?_)
  intro X' c' w1 o1 b1
  have k1 : Blk w1 g #[.slice X nx cx] 23 := (b1.block g (Nat.lt_succ_self g)).trans kx
  have y0 := k1.frozen 0
  clear p0
  have p0 := box1 k1
  have B1 := Lib.hid b1
  clear b1
  go_wp2_with fail
  go_end0
  have gs := rdr_grown_set w1 g 0 (.slice X' (nx + m) c')
  exact ⟨rfl, X', c', k1.set_ 0 _, o1.kept gs (Nat.lt_succ_self g), (B1.out.mono (Nat.le_succ g)).trans (below_grown gs (Nat.le_refl g) k1.lt)⟩
def FxR (op : Int) (qt fu : Bool) (oq fl ex cas dl ini : Nat) (K V : Option Addr) (nk ck nv cv g6 : Nat) (w : World) (lx : List UInt8) (wx : World) : Prop := ∃ (X : Option Addr) (nx cx : Nat), Blk wx g6 #[.slice X nx cx] 23 ∧ Own wx (g6 + 1) X nx cx lx ∧ Blk wx w.heap.size #[.int .i64 op, .bool qt, .bool fu, .int .i64 0, .int .u32 (oq : Nat), .slice K nk ck, .slice V nv cv, .int .u32 (fl : Nat), .int .u32 (ex : Nat), .int .u64 (cas : Nat), .int .u64 (dl : Nat), .int .u64 (ini : Nat)] 26 ∧ Blk wx (w.heap.size + 1) #[.int .u8 0, .int .u8 0, .int .u16 0, .int .u8 0, .int .u8 0, .int .u16 0, .int .u32 0, .int .u32 0, .int .u64 0, .slice none 0 0, .slice none 0 0, .slice none 0 0] 61 ∧ Below w.heap.size w wx
/-- What Make gives, written out. -/
def MakeP (code oq bl nk nx nv : Nat) (lx lk lv : List UInt8) (w : World) (e : Ending) (w' : World) : Prop :=
  ∃ (X2 K2 V2 : Option Addr) (cx2 ck2 cv2 : Nat), e = .returned (.tuple #[.agg #[.int .u8 128, .int .u8 (code : Nat), .int .u16 (nk : Nat), .int .u8 (nx : Nat), .int .u8 0, .int .u16 0, .int .u32 (bl : Nat), .int .u32 (oq : Nat), .int .u64 0, .slice X2 nx cx2, .slice K2 nk ck2, .slice V2 nv cv2], .int .i64 0]) ∧ Own w' w.heap.size X2 nx cx2 lx ∧ Own w' w.heap.size K2 nk ck2 lk ∧ Own w' w.heap.size V2 nv cv2 lv ∧ Below w.heap.size w w'
def ReqP (op' : Int) (qt' fu' : Bool) (bd' : Int) (oq' : Nat) (lk lv : List UInt8) (fl' ex' cs' dl' ini' : Nat) (w : World) (e : Ending) (w' : World) : Prop :=
  ∃ (K2 V2 : Option Addr) (nk2 ck2 nv2 cv2 : Nat), e = .returned (.agg #[.int .i64 op', .bool qt', .bool fu', .int .i64 bd', .int .u32 (oq' : Nat), .slice K2 nk2 ck2, .slice V2 nv2 cv2, .int .u32 (fl' : Nat), .int .u32 (ex' : Nat), .int .u64 (cs' : Nat), .int .u64 (dl' : Nat), .int .u64 (ini' : Nat)]) ∧ Own w' w.heap.size K2 nk2 ck2 lk ∧ Own w' w.heap.size V2 nv2 cv2 lv ∧ Below w.heap.size w w'
def FxT (op : Int) (qt fu : Bool) (oq fl ex cas dl ini : Nat) (K V : Option Addr) (nk ck nv cv : Nat) (code nx bl : Nat) (X2 K2 V2 : Option Addr) (cx2 ck2 cv2 g9 : Nat) (w w9 wx : World) : Prop := Blk wx g9 #[.int .u8 128, .int .u8 (code : Nat), .int .u16 (nk : Nat), .int .u8 (nx : Nat), .int .u8 0, .int .u16 0, .int .u32 (bl : Nat), .int .u32 (oq : Nat), .int .u64 (cas : Nat), .slice X2 nx cx2, .slice K2 nk ck2, .slice V2 nv cv2] 61 ∧ Blk wx w.heap.size #[.int .i64 op, .bool qt, .bool fu, .int .i64 0, .int .u32 (oq : Nat), .slice K nk ck, .slice V nv cv, .int .u32 (fl : Nat), .int .u32 (ex : Nat), .int .u64 (cas : Nat), .int .u64 (dl : Nat), .int .u64 (ini : Nat)] 26 ∧ Blk wx (w.heap.size + 1) #[.int .u8 0, .int .u8 0, .int .u16 0, .int .u8 0, .int .u8 0, .int .u16 0, .int .u32 0, .int .u32 0, .int .u64 0, .slice none 0 0, .slice none 0 0, .slice none 0 0] 61 ∧ Below w.heap.size w wx ∧ Below w9.heap.size w9 wx
/-- The extras of a request's frame. -/
def xaB (sx fl dl ini : Nat) : List UInt8 := if sx = 8 then highB fl 4 else if sx = 20 then highB dl 8 ++ highB ini 8 else []
def xbB (put : Bool) (ex : Nat) : List UInt8 := if put then highB ex 4 else []
def putsEx (op : Int) (sx ex : Nat) : Bool := decide (0 < sx) || (decide (op = 8) && decide (ex ≠ 0))
theorem xaB_len (sx fl dl ini : Nat) : (xaB sx fl dl ini).length ≤ 16 := by
  unfold xaB
  split
  · rw [length_highB]; omega
  · split
    · rw [List.length_append, length_highB, length_highB]; omega
    · exact Nat.zero_le _
theorem xbB_len (put : Bool) (ex : Nat) : (xbB put ex).length ≤ 4 := by
  unfold xbB
  split
  · rw [length_highB]; omega
  · exact Nat.zero_le _
/-- What parse.Frame tells where a frame says the request. -/
def FrameOk (code oq cas bl nk nv : Nat) (lx lk lv : List UInt8) (w : World) (e : Ending) (w' : World) : Prop := ∃ (X K V : Option Addr) (nx cx ck cv : Nat), e = .returned (.tuple #[frV 128 code nk nx 0 0 bl oq cas (.slice X nx cx) (.slice K nk ck) (.slice V nv cv), .int .i64 0]) ∧ nx = lx.length ∧ Own w' w.heap.size X nx cx lx ∧ Own w' w.heap.size K nk ck lk ∧ Own w' w.heap.size V nv cv lv ∧ Below w.heap.size w w'
def FrameNo (w : World) (e : Ending) (w' : World) : Prop := e = .returned (.tuple #[zeroFr, .int .i64 2]) ∧ Below w.heap.size w w'
set_option maxRecDepth 100000 in
set_option maxHeartbeats 2500000 in
theorem pframe_yes (op : Int) (qt fu : Bool) (oq fl ex cas dl ini : Nat) (K V : Option Addr) (nk ck nv cv : Nat) (lk lv : List UInt8) (w : World) (rK : Rd w w.heap.size K nk ck lk) (rV : Rd w w.heap.size V nv cv lv) (hoq : oq < 4294967296) (hfl : fl < 4294967296) (hex : ex < 4294967296) (hdl : dl < 18446744073709551616) (hini : ini < 18446744073709551616) (code : Nat) (hcode : code < 256) (hc : codeOf op qt fu = some code) (sx : Nat) (sk sv : Bool) (hs : shapeOf op = (sx, sk, sv))
    (lx : List UInt8) (hlx : lx = xaB sx fl dl ini ++ xbB (putsEx op sx ex) ex) (nx : Nat) (hnx : nx = lx.length) (bl : Nat) (hbl : bl = nx + nk + nv) (hlong : ¬ tooLong nx nk nv) (hnn : nk + nv ≤ 281474976710656)
    (op' : Int) (qt' fu' : Bool) (bd' : Int) (oq' : Nat) (lk' lv' : List UInt8) (fl' ex' cs' dl' ini' : Nat)
    (hreq : ∀ (W : World) (X K V : Option Addr) (cx ck cv : Nat), Rd W W.heap.size X nx cx lx → Rd W W.heap.size K nk ck lk → Rd W W.heap.size V nv cv lv → Calls Try.prog 90 #[frV 128 code nk nx 0 0 bl oq cas (.slice X nx cx) (.slice K nk ck) (.slice V nv cv)] W (ReqQ op' qt' fu' bd' oq' lk' lv' fl' ex' cs' dl' ini' W))
    (hsm : reqSame op' op bd' 0 qt' qt fu' fu oq' oq fl' fl ex' ex cs' cas dl' dl ini' ini lk' lk lv' lv = true) :
    Calls Try.prog 42 #[reqV op qt fu 0 oq (.slice K nk ck) (.slice V nv cv) fl ex cas dl ini] w (FrameOk code oq cas bl nk nv lx lk lv w) := by
  have HCODE : Hid (∀ W, Calls Try.prog 43 #[.agg #[.int .i64 op, .bool qt, .bool fu, .int .i64 0, .int .u32 (oq : Nat), .slice K nk ck, .slice V nv cv, .int .u32 (fl : Nat), .int .u32 (ex : Nat), .int .u64 (cas : Nat), .int .u64 (dl : Nat), .int .u64 (ini : Nat)]] W fun e w' => e = .returned (.tuple #[.int .i64 (code : Nat), .bool true]) ∧ Below W.heap.size W w') := Lib.hid (fun W => by
    have h := code_any op qt fu oq (.slice K nk ck) (.slice V nv cv) fl ex cas dl ini W
    rw [hc] at h
    exact h)
  have HSH := Lib.hid (fun W => shaped_at hs W)
  have hfd : ∀ w : World, (Instr.field 131 (.agg #[.int .i64 (sx : Nat), .bool sk, .bool sv]) 0).run Try.prog w = .ok (.int .i64 (sx : Nat)) w := fun _ => by kernel_rfl
  have hxl : lx.length ≤ 20 := by
    rw [hlx, List.length_append]
    have h1 := xaB_len sx fl dl ini
    have h2 := xbB_len (putsEx op sx ex) ex
    omega
  have HLX := Lib.hid hlx
  have HREQ : Hid (∀ (W : World) (X K V : Option Addr) (cx ck cv : Nat), Rd W W.heap.size X nx cx lx → Rd W W.heap.size K nk ck lk → Rd W W.heap.size V nv cv lv → Calls Try.prog 90 #[.agg #[.int .u8 128, .int .u8 (code : Nat), .int .u16 (nk : Nat), .int .u8 (nx : Nat), .int .u8 0, .int .u16 0, .int .u32 (bl : Nat), .int .u32 (oq : Nat), .int .u64 (cas : Nat), .slice X nx cx, .slice K nk ck, .slice V nv cv]] W (ReqP op' qt' fu' bd' oq' lk' lv' fl' ex' cs' dl' ini' W)) := Lib.hid hreq
  have HSAME : Hid (∀ (W : World) (K2 V2 : Option Addr) (nk2 ck2 nv2 cv2 : Nat), Rd W W.heap.size K2 nk2 ck2 lk' → Rd W W.heap.size V2 nv2 cv2 lv' → Rd W W.heap.size K nk ck lk → Rd W W.heap.size V nv cv lv → Calls Try.prog 48 #[.agg #[.int .i64 op', .bool qt', .bool fu', .int .i64 bd', .int .u32 (oq' : Nat), .slice K2 nk2 ck2, .slice V2 nv2 cv2, .int .u32 (fl' : Nat), .int .u32 (ex' : Nat), .int .u64 (cs' : Nat), .int .u64 (dl' : Nat), .int .u64 (ini' : Nat)], .agg #[.int .i64 op, .bool qt, .bool fu, .int .i64 0, .int .u32 (oq : Nat), .slice K nk ck, .slice V nv cv, .int .u32 (fl : Nat), .int .u32 (ex : Nat), .int .u64 (cas : Nat), .int .u64 (dl : Nat), .int .u64 (ini : Nat)]] W (PSame (reqSame op' op bd' 0 qt' qt fu' fu oq' oq fl' fl ex' ex cs' cas dl' dl ini' ini lk' lk lv' lv) W)) := Lib.hid (fun W K2 V2 nk2 ck2 nv2 cv2 h1 h2 h3 h4 => qsame_any op' op bd' 0 qt' qt fu' fu oq' oq fl' fl ex' ex cs' cas dl' dl ini' ini K2 K V2 V nk2 ck2 nk ck nv2 cv2 nv cv lk' lk lv' lv W h1 h3 h2 h4)
  have HLG := Lib.hid hlong
  rw [hsm] at HSAME
  have HB := Lib.hid (And.intro hoq (And.intro hfl (And.intro hex (And.intro hdl (And.intro hini (And.intro hcode (And.intro hnn (And.intro hxl (And.intro hnx hbl)))))))))
  clear hlx hreq hlong hsm hnx hbl hoq hfl hex hdl hini hcode hnn hxl hc hs
  have k1 := (Blk.new w #[.int .i64 op, .bool qt, .bool fu, .int .i64 0, .int .u32 (oq : Nat), .slice K nk ck, .slice V nv cv, .int .u32 (fl : Nat), .int .u32 (ex : Nat), .int .u64 (cas : Nat), .int .u64 (dl : Nat), .int .u64 (ini : Nat)] 26).alloc (.cells #[.int .u8 0, .int .u8 0, .int .u16 0, .int .u8 0, .int .u8 0, .int .u16 0, .int .u32 0, .int .u32 0, .int .u64 0, .slice none 0 0, .slice none 0 0, .slice none 0 0] 61)
  have k2 := Blk.new (w.alloc (.cells #[.int .i64 op, .bool qt, .bool fu, .int .i64 0, .int .u32 (oq : Nat), .slice K nk ck, .slice V nv cv, .int .u32 (fl : Nat), .int .u32 (ex : Nat), .int .u64 (cas : Nat), .int .u64 (dl : Nat), .int .u64 (ini : Nat)] 26)) #[.int .u8 0, .int .u8 0, .int .u16 0, .int .u8 0, .int .u8 0, .int .u16 0, .int .u32 0, .int .u32 0, .int .u64 0, .slice none 0 0, .slice none 0 0, .slice none 0 0] 61
  have b := below_a1' (below_a1' (Below.refl w.heap.size w) (.cells #[.int .i64 op, .bool qt, .bool fu, .int .i64 0, .int .u32 (oq : Nat), .slice K nk ck, .slice V nv cv, .int .u32 (fl : Nat), .int .u32 (ex : Nat), .int .u64 (cas : Nat), .int .u64 (dl : Nat), .int .u64 (ini : Nat)] 26)) (.cells #[.int .u8 0, .int .u8 0, .int .u16 0, .int .u8 0, .int .u8 0, .int .u16 0, .int .u32 0, .int .u32 0, .int .u64 0, .slice none 0 0, .slice none 0 0, .slice none 0 0] 61)
  rw [World.size_alloc] at k2
  unfold reqV
  go_enter Try.func42, Try.ntmps42
  go_upto_region 1 with fail
  generalize (w.alloc (.cells #[.int .i64 op, .bool qt, .bool fu, .int .i64 0, .int .u32 (oq : Nat), .slice K nk ck, .slice V nv cv, .int .u32 (fl : Nat), .int .u32 (ex : Nat), .int .u64 (cas : Nat), .int .u64 (dl : Nat), .int .u64 (ini : Nat)] 26)).alloc (.cells #[.int .u8 0, .int .u8 0, .int .u16 0, .int .u8 0, .int .u8 0, .int .u16 0, .int .u32 0, .int .u32 0, .int .u64 0, .slice none 0 0, .slice none 0 0, .slice none 0 0] 61) = W0 at k1 k2 b ⊢
  obtain ⟨p0, p1, p2, p3, p4, p5, p6, p7, p8, p9, p10, p11⟩ := box12 k1
  go_wp2_with fail
  refine (HCODE.out W0).mono ?_
  rintro e w1 ⟨rfl, b1⟩
  replace k1 := k1.step b1
  replace k2 := k2.step b1
  replace b := below_step b b1
  clear b1 p0 p1 p2 p3 p4 p5 p6 p7 p8 p9 p10 p11
  go_upto_region 5 with fail
  have k6 := Blk.new w1 #[.slice none 0 0] 23
  have b4 := below_a1' (Below.refl w1.heap.size w1) (.cells #[.slice none 0 0] 23)
  have hg6 := k2.lt
  replace k1 := k1.step b4
  replace k2 := k2.step b4
  replace b := below_step b b4
  clear b4
  generalize w1.alloc (.cells #[.slice none 0 0] 23) = W5 at k1 k2 k6 b ⊢
  generalize w1.heap.size = g6 at k6 hg6 ⊢
  obtain ⟨p0, p1, p2, p3, p4, p5, p6, p7, p8, p9, p10, p11⟩ := box12 k1
  go_wp2_with fail
  refine (HSH.out W5).mono ?_
  rintro e w5 ⟨rfl, b1⟩
  replace k1 := k1.step b1
  replace k2 := k2.step b1
  replace k6 := k6.step b1
  replace b := below_step b b1
  clear b1 p0 p1 p2 p3 p4 p5 p6 p7 p8 p9 p10 p11
  obtain ⟨p0, p1, p2, p3, p4, p5, p6, p7, p8, p9, p10, p11⟩ := box12 k1
  go_upto_block 0 with fail
  go_cut [] (fun wx => FxR op qt fu oq fl ex cas dl ini K V nk ck nv cv g6 w (xaB sx fl dl ini) wx)
  case first =>
    by_cases h8 : sx = 8
    · have e8 : ((sx : Int) == 8) = true := beq_iff_eq.2 (by omega)
      have HX : Hid (xaB sx fl dl ini = highB fl 4) := Lib.hid (by subst h8; rfl)
      clear h8
      go_wp2_with fail
      refine (put32_any none 0 0 w5.heap.size fl HB.out.2.1 [] w5 (Rd.nil _ _) (Nat.le_refl _) (by omega)).mono ?_
      rintro e w6 ⟨A6, c6, rfl, o6, b6⟩
      replace k1 := k1.step b6
      replace k2 := k2.step b6
      replace k6 := k6.step b6
      replace b := below_step b b6
      clear b6 p0 p1 p2 p3 p4 p5 p6 p7 p8 p9 p10 p11
      simp only [List.nil_append, Nat.zero_add] at o6 ⊢
      go_wp2_with fail
      refine (addx_any g6 none 0 0 [] A6 4 c6 (highB fl 4) w6 k6 (Own.nil _ _) o6.rd (by omega)).mono ?_
      rintro e w7 ⟨rfl, X7, c7, k7, o7, b7⟩
      go_wp2_with fail
      go_meet
      have hg : Below (w.heap.size + 2) w6 w7 := b7.mono (by omega)
      refine ⟨X7, _, c7, k7, ?_, (hg.block _ (by omega)).trans k1, (hg.block _ (by omega)).trans k2, b.trans (hg.mono (by omega))⟩
      rw [HX.out]
      simpa using o7
    · have e8 : ((sx : Int) == 8) = false := beq_eq_false_iff_ne.2 (by omega)
      by_cases h20 : sx = 20
      · have e20 : ((sx : Int) == 20) = true := beq_iff_eq.2 (by omega)
        have HX : Hid (xaB sx fl dl ini = highB dl 8 ++ highB ini 8) := Lib.hid (by subst h20; rfl)
        clear h8 h20
        go_upto_region 11 with fail
        clear p0 p1 p2 p3 p4 p5 p6 p7 p8 p9 p10 p11
        refine wp_region_noPanic ?_
        refine region_T (fun wx => wx.cell? ⟨w.heap.size, 0, none⟩ = some (.int .i64 op) ∧ wx.cell? ⟨w.heap.size, 1, none⟩ = some (.bool qt) ∧ wx.cell? ⟨w.heap.size, 2, none⟩ = some (.bool fu) ∧ wx.cell? ⟨w.heap.size, 3, none⟩ = some (.int .i64 0) ∧ wx.cell? ⟨w.heap.size, 4, none⟩ = some (.int .u32 (oq : Nat)) ∧ wx.cell? ⟨w.heap.size, 5, none⟩ = some (.slice K nk ck) ∧ wx.cell? ⟨w.heap.size, 6, none⟩ = some (.slice V nv cv) ∧ wx.cell? ⟨w.heap.size, 7, none⟩ = some (.int .u32 (fl : Nat)) ∧ wx.cell? ⟨w.heap.size, 8, none⟩ = some (.int .u32 (ex : Nat)) ∧ wx.cell? ⟨w.heap.size, 9, none⟩ = some (.int .u64 (cas : Nat)) ∧ wx.cell? ⟨w.heap.size, 10, none⟩ = some (.int .u64 (dl : Nat)) ∧ wx.cell? ⟨w.heap.size, 11, none⟩ = some (.int .u64 (ini : Nat))) 8 (by kernel_rfl) ?_
        have bD : Below w5.heap.size w5 w5.drew := (Below.refl _ _).drew
        replace k1 := k1.step bD
        replace k2 := k2.step bD
        replace k6 := k6.step bD
        replace b := below_step b bD
        clear bD
        have hHeld := box12 k1
        generalize w5.drew = Y0 at b hHeld k1 k2 k6 ⊢
        refine takeT (i := 0) (v := ?_) rfl (by kernel_rfl) (by kernel_rfl) (by decide) (by kernel_rfl) (by kernel_rfl) (fun _ _ _ h => h) (Or.inl ⟨by rfl, ?_⟩) hHeld ?_
        rotate_left
        · (intro wx hSw; obtain ⟨a0, a1, a2, a3, a4, a5, a6, a7, a8, a9, a10, a11⟩ := hSw; go_simp; try (with_reducible rfl))
        try simp only [Act.put, List.setIfInBounds_toArray, List.set_cons_zero, List.set_cons_succ]
        refine takeT (i := 1) (v := ?_) rfl (by kernel_rfl) (by kernel_rfl) (by decide) (by kernel_rfl) (by kernel_rfl) (fun _ _ _ h => h) (Or.inl ⟨by rfl, ?_⟩) hHeld ?_
        rotate_left
        · (intro wx hSw; obtain ⟨a0, a1, a2, a3, a4, a5, a6, a7, a8, a9, a10, a11⟩ := hSw; go_simp; try (with_reducible rfl))
        try simp only [Act.put, List.setIfInBounds_toArray, List.set_cons_zero, List.set_cons_succ]
        refine takeT (i := 2) (v := ?_) rfl (by kernel_rfl) (by kernel_rfl) (by decide) (by kernel_rfl) (by kernel_rfl) (fun _ _ _ h => h) (Or.inl ⟨by rfl, ?_⟩) hHeld ?_
        rotate_left
        · (intro wx hSw; obtain ⟨a0, a1, a2, a3, a4, a5, a6, a7, a8, a9, a10, a11⟩ := hSw; go_simp; try (with_reducible rfl))
        try simp only [Act.put, List.setIfInBounds_toArray, List.set_cons_zero, List.set_cons_succ]
        refine takeT (i := 4) (v := ?_) rfl (by kernel_rfl) (by kernel_rfl) (by decide) (by kernel_rfl) (by kernel_rfl) (fun _ _ _ h => h) (Or.inl ⟨by rfl, ?_⟩) hHeld ?_
        rotate_left
        · (intro wx hSw; obtain ⟨a0, a1, a2, a3, a4, a5, a6, a7, a8, a9, a10, a11⟩ := hSw; go_simp; try (with_reducible rfl))
        try simp only [Act.put, List.setIfInBounds_toArray, List.set_cons_zero, List.set_cons_succ]
        refine takeT (i := 5) (v := ?_) rfl (by kernel_rfl) (by kernel_rfl) (by decide) (by kernel_rfl) (by kernel_rfl) (fun _ _ _ h => h) (Or.inl ⟨by rfl, ?_⟩) hHeld ?_
        rotate_left
        · (intro wx hSw; obtain ⟨a0, a1, a2, a3, a4, a5, a6, a7, a8, a9, a10, a11⟩ := hSw; go_simp; try (with_reducible rfl))
        try simp only [Act.put, List.setIfInBounds_toArray, List.set_cons_zero, List.set_cons_succ]
        refine oneT (i := 3) rfl (by kernel_rfl) (fun KK hK => ?_)
        go_simp
        refine (put64_any none 0 0 Y0.heap.size dl HB.out.2.2.2.1 [] Y0 (Rd.nil _ _) (Nat.le_refl _) (by omega)).mono ?_
        rintro e Y1 ⟨A6, c6, rfl, o6, b6⟩
        replace k1 := k1.step b6
        replace k2 := k2.step b6
        replace k6 := k6.step b6
        replace b := below_step b b6
        simp only [List.nil_append, Nat.zero_add] at o6 ⊢
        clear b6 hHeld
        have hHeld := box12 k1
        refine hK.out _ _ (fun _ => hHeld) ?_
        clear hK KK
        try simp only [Act.put, List.setIfInBounds_toArray, List.set_cons_zero, List.set_cons_succ]
        refine oneT (i := 6) rfl (by kernel_rfl) (fun KK hK => ?_)
        go_simp
        refine (put64_any A6 8 c6 Y1.heap.size ini HB.out.2.2.2.2.1 (highB dl 8) Y1 o6.rd (Nat.le_refl _) (by omega)).mono ?_
        rintro e Y2 ⟨A7, c7, rfl, o7, b6⟩
        replace k1 := k1.step b6
        replace k2 := k2.step b6
        replace k6 := k6.step b6
        replace b := below_step b b6
        clear b6 hHeld o6
        have hHeld := box12 k1
        refine hK.out _ _ (fun _ => hHeld) ?_
        clear hK KK
        try simp only [Act.put, List.setIfInBounds_toArray, List.set_cons_zero, List.set_cons_succ]
        refine oneT (i := 7) rfl (by kernel_rfl) (fun KK hK => ?_)
        go_simp
        refine (addx_any g6 none 0 0 [] A7 (8 + 8) c7 (highB dl 8 ++ highB ini 8) Y2 k6 (Own.nil _ _) o7.rd (by omega)).mono ?_
        rintro e Y3 ⟨rfl, X7, c8, k7, o8, b7⟩
        have hg : Below (w.heap.size + 2) Y2 Y3 := b7.mono (by omega)
        have k1' : Blk Y3 w.heap.size #[.int .i64 op, .bool qt, .bool fu, .int .i64 0, .int .u32 (oq : Nat), .slice K nk ck, .slice V nv cv, .int .u32 (fl : Nat), .int .u32 (ex : Nat), .int .u64 (cas : Nat), .int .u64 (dl : Nat), .int .u64 (ini : Nat)] 26 := (hg.block _ (by omega)).trans k1
        clear hHeld
        have hHeld := box12 k1'
        refine hK.out _ _ (fun _ => hHeld) ?_
        clear hK KK
        try simp only [Act.put, List.setIfInBounds_toArray, List.set_cons_zero, List.set_cons_succ]
        refine doneT (by kernel_rfl) ?_ _
        refine NoPanic.normal ?_
        go_wp2_with fail
        go_meet
        refine ⟨X7, _, c8, k7, ?_, k1', (hg.block _ (by omega)).trans k2, b.trans (hg.mono (by omega))⟩
        rw [HX.out]
        simpa using o8
      · have e20 : ((sx : Int) == 20) = false := beq_eq_false_iff_ne.2 (by omega)
        have HX : Hid (xaB sx fl dl ini = []) := Lib.hid (by unfold xaB; rw [if_neg h8, if_neg h20])
        clear h8 h20
        go_wp2_with fail
        go_meet
        refine ⟨none, 0, 0, k6, ?_, k1, k2, b⟩
        rw [HX.out]
        exact Own.nil _ _
  case rest =>
    clear p0 p1 p2 p3 p4 p5 p6 p7 p8 p9 p10 p11 k1 k2 k6 b
    obtain ⟨X, nX, cx, k6, oX, k1, k2, b⟩ := hcut
    obtain ⟨p0, p1, p2, p3, p4, p5, p6, p7, p8, p9, p10, p11⟩ := box12 k1
    generalize hput : putsEx op sx ex = put at HLX
    have hla := xaB_len sx fl dl ini
    generalize xaB sx fl dl ini = xa at oX HLX hla
    go_upto_region 12 with fail
    go_cut [53] (fun s53 wx => s53 = .bool put ∧ wc = wx)
    case first =>
      unfold putsEx at hput
      by_cases h0 : 0 < sx
      · have e0 : ((0 : Int) < (sx : Int)) = True := eq_true (by omega)
        have e0' : (0 < sx) = True := eq_true h0
        have HP : Hid (true = put) := Lib.hid (by rw [← hput, decide_eq_true h0]; rfl)
        clear hput h0
        go_wp2_with fail
        go_meet
        exact ⟨by rw [← HP.out], rfl⟩
      · have e0 : ((0 : Int) < (sx : Int)) = False := eq_false (by omega)
        have e0' : (0 < sx) = False := eq_false h0
        rw [decide_eq_false h0, Bool.false_or] at hput
        clear h0
        by_cases h1 : op = 8
        · have e1 : (op == 8) = true := beq_iff_eq.2 h1
          rw [decide_eq_true h1, Bool.true_and] at hput
          by_cases h2 : ex = 0
          · have e2 : ((ex : Int) != 0) = false := bne_eq_false_iff_eq.2 (by omega)
            have HP : Hid (false = put) := Lib.hid (by rw [← hput]; simp [h2])
            clear h1 h2 hput
            go_wp2_with fail
            go_meet
            exact ⟨by rw [← HP.out], rfl⟩
          · have e2 : ((ex : Int) != 0) = true := bne_iff_ne.2 (by omega)
            have HP : Hid (true = put) := Lib.hid (by rw [← hput]; simp [h2])
            clear h1 h2 hput
            go_wp2_with fail
            go_meet
            exact ⟨by rw [← HP.out], rfl⟩
        · have e1 : (op == 8) = false := beq_eq_false_iff_ne.2 h1
          have HP : Hid (false = put) := Lib.hid (by rw [← hput]; simp [h1])
          clear h1 hput
          go_wp2_with fail
          go_meet
          exact ⟨by rw [← HP.out], rfl⟩
    case rest =>
      obtain ⟨rfl, rfl⟩ := hcut
      clear hput
      go_upto_if 53 with fail
      go_cut [] (fun wx => FxR op qt fu oq fl ex cas dl ini K V nk ck nv cv g6 w lx wx)
      case first =>
        cases put with
        | true =>
          have HX : Hid (lx = xa ++ highB ex 4) := Lib.hid HLX.out
          have hnl := oX.len
          go_wp2_with fail
          refine (put32_any none 0 0 wc.heap.size ex HB.out.2.2.1 [] wc (Rd.nil _ _) (Nat.le_refl _) (by omega)).mono ?_
          rintro e w6 ⟨A6, c6, rfl, o6, b6⟩
          have k1 := k1.step b6
          have k2 := k2.step b6
          have k6 := k6.step b6
          have b := below_step b b6
          have oX := Own.step oX b6
          clear b6 p0 p1 p2 p3 p4 p5 p6 p7 p8 p9 p10 p11
          simp only [List.nil_append, Nat.zero_add] at o6 ⊢
          go_wp2_with fail
          refine (addx_any g6 X nX cx xa A6 4 c6 (highB ex 4) w6 k6 oX o6.rd (by omega)).mono ?_
          rintro e w7 ⟨rfl, X7, c7, k7, o7, b7⟩
          go_wp2_with fail
          go_meet
          have hg : Below (w.heap.size + 2) w6 w7 := b7.mono (by omega)
          refine ⟨X7, _, c7, k7, ?_, (hg.block _ (by omega)).trans k1, (hg.block _ (by omega)).trans k2, b.trans (hg.mono (by omega))⟩
          rw [HX.out]
          exact o7
        | false =>
          have HX : Hid (lx = xa) := Lib.hid (by rw [HLX.out]; exact List.append_nil _)
          go_wp2_with fail
          go_meet
          refine ⟨X, nX, cx, k6, ?_, k1, k2, b⟩
          rw [HX.out]
          exact oX
      case rest =>
        clear p0 p1 p2 p3 p4 p5 p6 p7 p8 p9 p10 p11 k1 k2 k6 b oX hla
        obtain ⟨X, n0, cx, k6, oX, k1, k2, b⟩ := hcut
        have hnl := oX.len
        have hnx := HB.out.2.2.2.2.2.2.2.2.1
        obtain rfl : nx = n0 := by omega
        clear hnl hnx
        have HC256 : IntKind.u8.wrap (code : Int) = (code : Int) := IntWalk.u8_in _ (by have := HB.out.2.2.2.2.2.1; omega)
        obtain ⟨p0, p1, p2, p3, p4, p5, p6, p7, p8, p9, p10, p11⟩ := box12 k1
        have x0 := box1 k6
        have HMAKE : Hid (Calls Try.prog 89 #[.int .u8 128, .int .u8 (code : Nat), .int .u32 (oq : Nat), .slice X nx cx, .slice K nk ck, .slice V nv cv] wc (MakeP code oq bl nk nx nv lx lk lv wc)) := Lib.hid (HB.out.2.2.2.2.2.2.2.2.2 ▸ make_Wa code oq HB.out.2.2.2.2.2.1 HB.out.1 X K V nx cx nk ck nv cv HLG.out lx lk lv wc oX.rd ((rK.below b).more b.size) ((rV.below b).more b.size))
        clear oX k6
        go_wp2_with fail
        refine HMAKE.out.mono ?_
        rintro e w9 ⟨X2, K2, V2, cx2, ck2, cv2, rfl, oX2, oK2, oV2, b9⟩
        have hw2 := k2.lt
        have hws := b.size
        replace k1 := k1.step b9
        replace k2 := k2.step b9
        replace b := below_step b b9
        clear b9 x0 p0 p1 p2 p3 p4 p5 p6 p7 p8 p9 p10 p11 HMAKE
        go_upto_region 15 with fail
        have k9 := Blk.new w9 #[.int .u8 128, .int .u8 (code : Nat), .int .u16 (nk : Nat), .int .u8 (nx : Nat), .int .u8 0, .int .u16 0, .int .u32 (bl : Nat), .int .u32 (oq : Nat), .int .u64 0, .slice X2 nx cx2, .slice K2 nk ck2, .slice V2 nv cv2] 61
        have b4 := below_a1' (Below.refl w9.heap.size w9) (.cells #[.int .u8 128, .int .u8 (code : Nat), .int .u16 (nk : Nat), .int .u8 (nx : Nat), .int .u8 0, .int .u16 0, .int .u32 (bl : Nat), .int .u32 (oq : Nat), .int .u64 0, .slice X2 nx cx2, .slice K2 nk ck2, .slice V2 nv cv2] 61)
        have hg9 := k2.lt
        replace k1 := k1.step b4
        replace k2 := k2.step b4
        replace b := below_step b b4
        generalize w9.alloc (.cells #[.int .u8 128, .int .u8 (code : Nat), .int .u16 (nk : Nat), .int .u8 (nx : Nat), .int .u8 0, .int .u16 0, .int .u32 (bl : Nat), .int .u32 (oq : Nat), .int .u64 0, .slice X2 nx cx2, .slice K2 nk ck2, .slice V2 nv cv2] 61) = W9 at k1 k2 k9 b b4 ⊢
        obtain ⟨g9, hG⟩ : ∃ g9, g9 = w9.heap.size := ⟨_, rfl⟩
        rw [← hG] at k9 hg9 ⊢
        obtain ⟨p0, p1, p2, p3, p4, p5, p6, p7, p8, p9, p10, p11⟩ := box12 k1
        obtain ⟨z0, z1, z2, z3, z4, z5, z6, z7, z8, z9, z10, z11⟩ := box12 k9
        have y8 := k9.frozen 8
        have HG := Lib.hid hG
        clear hG
        go_upto_region 18 with fail
        have hG := HG.out
        have gq := rdr_grown_set W9 g9 8 (.int .u64 (cas : Nat))
        replace k1 := k1.leftC gq (by omega)
        replace k2 := k2.leftC gq (by omega)
        replace b := b.trans (below_grown gq (by omega) k9.lt)
        replace b4 := b4.trans (below_grown gq (by omega) k9.lt)
        replace k9 : Blk (W9.setCell ⟨g9, 8, none⟩ (.int .u64 (cas : Nat))) g9 #[.int .u8 128, .int .u8 (code : Nat), .int .u16 (nk : Nat), .int .u8 (nx : Nat), .int .u8 0, .int .u16 0, .int .u32 (bl : Nat), .int .u32 (oq : Nat), .int .u64 (cas : Nat), .slice X2 nx cx2, .slice K2 nk ck2, .slice V2 nv cv2] 61 := k9.set_ 8 _
        clear hG gq y8 p0 p1 p2 p3 p4 p5 p6 p7 p8 p9 p10 p11 z0 z1 z2 z3 z4 z5 z6 z7 z8 z9 z10 z11
        generalize W9.setCell ⟨g9, 8, none⟩ (.int .u64 (cas : Nat)) = W10 at k1 k2 k9 b b4 ⊢
        go_cut [83] (fun s83 wx => s83 = .bool false ∧ FxT op qt fu oq fl ex cas dl ini K V nk ck nv cv code nx bl X2 K2 V2 cx2 ck2 cv2 g9 w w9 wx)
        case first =>
          refine wp_region_noPanic ?_
          refine region_T (fun wx => (wx.cell? ⟨w.heap.size, 0, none⟩ = some (.int .i64 op) ∧ wx.cell? ⟨w.heap.size, 1, none⟩ = some (.bool qt) ∧ wx.cell? ⟨w.heap.size, 2, none⟩ = some (.bool fu) ∧ wx.cell? ⟨w.heap.size, 3, none⟩ = some (.int .i64 0) ∧ wx.cell? ⟨w.heap.size, 4, none⟩ = some (.int .u32 (oq : Nat)) ∧ wx.cell? ⟨w.heap.size, 5, none⟩ = some (.slice K nk ck) ∧ wx.cell? ⟨w.heap.size, 6, none⟩ = some (.slice V nv cv) ∧ wx.cell? ⟨w.heap.size, 7, none⟩ = some (.int .u32 (fl : Nat)) ∧ wx.cell? ⟨w.heap.size, 8, none⟩ = some (.int .u32 (ex : Nat)) ∧ wx.cell? ⟨w.heap.size, 9, none⟩ = some (.int .u64 (cas : Nat)) ∧ wx.cell? ⟨w.heap.size, 10, none⟩ = some (.int .u64 (dl : Nat)) ∧ wx.cell? ⟨w.heap.size, 11, none⟩ = some (.int .u64 (ini : Nat))) ∧ (wx.cell? ⟨g9, 0, none⟩ = some (.int .u8 128) ∧ wx.cell? ⟨g9, 1, none⟩ = some (.int .u8 (code : Nat)) ∧ wx.cell? ⟨g9, 2, none⟩ = some (.int .u16 (nk : Nat)) ∧ wx.cell? ⟨g9, 3, none⟩ = some (.int .u8 (nx : Nat)) ∧ wx.cell? ⟨g9, 4, none⟩ = some (.int .u8 0) ∧ wx.cell? ⟨g9, 5, none⟩ = some (.int .u16 0) ∧ wx.cell? ⟨g9, 6, none⟩ = some (.int .u32 (bl : Nat)) ∧ wx.cell? ⟨g9, 7, none⟩ = some (.int .u32 (oq : Nat)) ∧ wx.cell? ⟨g9, 8, none⟩ = some (.int .u64 (cas : Nat)) ∧ wx.cell? ⟨g9, 9, none⟩ = some (.slice X2 nx cx2) ∧ wx.cell? ⟨g9, 10, none⟩ = some (.slice K2 nk ck2) ∧ wx.cell? ⟨g9, 11, none⟩ = some (.slice V2 nv cv2))) 5 (by kernel_rfl) ?_
          have bD : Below W10.heap.size W10 W10.drew := (Below.refl _ _).drew
          have k1 := k1.step bD
          have k2 := k2.step bD
          have k9 := k9.step bD
          have b := below_step b bD
          have b4 := below_step b4 bD
          clear bD
          have hHeld := And.intro (box12 k1) (box12 k9)
          generalize W10.drew = Y0 at b b4 hHeld k1 k2 k9 ⊢
          refine takeT (i := 0) (v := ?_) rfl (by kernel_rfl) (by kernel_rfl) (by decide) (by kernel_rfl) (by kernel_rfl) (fun _ _ _ h => h) (Or.inl ⟨by rfl, ?_⟩) hHeld ?_
          rotate_left
          · (intro wx hSw; obtain ⟨⟨a0, a1, a2, a3, a4, a5, a6, a7, a8, a9, a10, a11⟩, c0, c1, c2, c3, c4, c5, c6, c7, c8, c9, c10, c11⟩ := hSw; go_simp; try (with_reducible rfl))
          try simp only [Act.put, List.setIfInBounds_toArray, List.set_cons_zero, List.set_cons_succ]
          refine takeT (i := 2) (v := ?_) rfl (by kernel_rfl) (by kernel_rfl) (by decide) (by kernel_rfl) (by kernel_rfl) (fun _ _ _ h => h) (Or.inl ⟨by rfl, ?_⟩) hHeld ?_
          rotate_left
          · (intro wx hSw; obtain ⟨⟨a0, a1, a2, a3, a4, a5, a6, a7, a8, a9, a10, a11⟩, c0, c1, c2, c3, c4, c5, c6, c7, c8, c9, c10, c11⟩ := hSw; go_simp; try (with_reducible rfl))
          try simp only [Act.put, List.setIfInBounds_toArray, List.set_cons_zero, List.set_cons_succ]
          refine oneT (i := 1) rfl (by kernel_rfl) (fun KK hK => ?_)
          go_simp
          refine (HREQ.out Y0 X2 K2 V2 cx2 ck2 cv2 (oX2.below b4).rd (oK2.below b4).rd (oV2.below b4).rd).mono ?_
          rintro e Y1 ⟨K3, V3, nk3, ck3, nv3, cv3, rfl, oK3, oV3, b1⟩
          have k1 := k1.step b1
          have k2 := k2.step b1
          have k9 := k9.step b1
          have b := below_step b b1
          have b4 := below_step b4 b1
          clear b1 hHeld
          have hHeld := And.intro (box12 k1) (box12 k9)
          refine hK.out _ _ (fun _ => hHeld) ?_
          clear hK KK
          try simp only [Act.put, List.setIfInBounds_toArray, List.set_cons_zero, List.set_cons_succ]
          refine oneT (i := 3) rfl (by kernel_rfl) (fun KK hK => ?_)
          go_simp
          refine (HSAME.out Y1 K3 V3 nk3 ck3 nv3 cv3 oK3.rd oV3.rd ((rK.below b).more b.size) ((rV.below b).more b.size)).mono ?_
          rintro e Y2 ⟨rfl, b1⟩
          have k1 := k1.step b1
          have k2 := k2.step b1
          have k9 := k9.step b1
          have b := below_step b b1
          have b4 := below_step b4 b1
          clear b1 hHeld
          have hHeld := And.intro (box12 k1) (box12 k9)
          refine hK.out _ _ (fun _ => hHeld) ?_
          clear hK KK
          try simp only [Act.put, List.setIfInBounds_toArray, List.set_cons_zero, List.set_cons_succ]
          refine oneT (i := 4) rfl (by kernel_rfl) (fun KK hK => ?_)
          go_simp
          refine hK.out _ _ (fun _ => hHeld) ?_
          clear hK KK
          try simp only [Act.put, List.setIfInBounds_toArray, List.set_cons_zero, List.set_cons_succ]
          refine doneT (by kernel_rfl) ?_ _
          refine NoPanic.normal ?_
          go_wp2_with fail
          go_meet
          exact ⟨rfl, k9, k1, k2, b, b4⟩
        case rest =>
          obtain ⟨rfl, k9, k1, k2, b, b4⟩ := hcut
          obtain ⟨z0, z1, z2, z3, z4, z5, z6, z7, z8, z9, z10, z11⟩ := box12 k9
          obtain ⟨u0, u1, u2, u3, u4, u5, u6, u7, u8, u9, u10, u11⟩ := box12 k2
          have y0 := k2.frozen 0
          have y1 := k2.frozen 1
          have y2 := k2.frozen 2
          have y3 := k2.frozen 3
          have y4 := k2.frozen 4
          have y5 := k2.frozen 5
          have y6 := k2.frozen 6
          have y7 := k2.frozen 7
          have y8 := k2.frozen 8
          have y9 := k2.frozen 9
          have y10 := k2.frozen 10
          have y11 := k2.frozen 11
          have kf := blk_set12 k2 (.int .u8 128) (.int .u8 (code : Nat)) (.int .u16 (nk : Nat)) (.int .u8 (nx : Nat)) (.int .u8 0) (.int .u16 0) (.int .u32 (bl : Nat)) (.int .u32 (oq : Nat)) (.int .u64 (cas : Nat)) (.slice X2 nx cx2) (.slice K2 nk ck2) (.slice V2 nv cv2)
          have gs := grown_set12 wc (w.heap.size + 1) (.int .u8 128) (.int .u8 (code : Nat)) (.int .u16 (nk : Nat)) (.int .u8 (nx : Nat)) (.int .u8 0) (.int .u16 0) (.int .u32 (bl : Nat)) (.int .u32 (oq : Nat)) (.int .u64 (cas : Nat)) (.slice X2 nx cx2) (.slice K2 nk ck2) (.slice V2 nv cv2)
          have bf := b.trans (below_grown gs (by omega) k2.lt)
          obtain ⟨t0, t1, t2, t3, t4, t5, t6, t7, t8, t9, t10, t11⟩ := box12 kf
          have oXf := ((oX2.below b4).kept gs (by omega)).more (B' := w.heap.size) (by omega)
          have oKf := ((oK2.below b4).kept gs (by omega)).more (B' := w.heap.size) (by omega)
          have oVf := ((oV2.below b4).kept gs (by omega)).more (B' := w.heap.size) (by omega)
          clear kf gs b k1 k2
          go_wp2_with fail
          refine bodyPost_ret (v := .tuple #[.agg #[.int .u8 128, .int .u8 (code : Nat), .int .u16 (nk : Nat), .int .u8 (nx : Nat), .int .u8 0, .int .u16 0, .int .u32 (bl : Nat), .int .u32 (oq : Nat), .int .u64 (cas : Nat), .slice X2 nx cx2, .slice K2 nk ck2, .slice V2 nv cv2], .int .i64 0]) (by simp [results, Try.results42, go_sem, t0, t1, t2, t3, t4, t5, t6, t7, t8, t9, t10, t11]) rfl ?_
          exact ⟨X2, K2, V2, nx, cx2, ck2, cv2, rfl, HB.out.2.2.2.2.2.2.2.2.1, oXf, oKf, oVf, bf⟩
end Go.Proofs.Ytnghmgbmflcngaa

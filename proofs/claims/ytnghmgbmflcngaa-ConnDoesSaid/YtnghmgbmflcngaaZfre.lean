/- Merged texts: Fre, Frw, Freb, Frf, Frh, Frp, Frg. Conditions: typed in each theorem. -/
import Derived.Test.YtnghmgbmflcngaaZfra
import Derived.Test.YtnghmgbmflcngaaOpen
import Derived.Lib.SlBytesConst
import Derived.Deep.DeepCutAuto
import Derived.Test.YtnghmgbmflcngaaZbas
namespace Go.Proofs.Ytnghmgbmflcngaa
set_option linter.unusedVariables false
section
open Go.RowKit
theorem blk_set12 {w : World} {g : Nat} {T : TypeId} {c0 c1 c2 c3 c4 c5 c6 c7 c8 c9 c10 c11 : Value} (h : Blk w g #[c0, c1, c2, c3, c4, c5, c6, c7, c8, c9, c10, c11] T) (v0 v1 v2 v3 v4 v5 v6 v7 v8 v9 v10 v11 : Value) : Blk ((((((((((((w.setCell ⟨g, 0, none⟩ v0).setCell ⟨g, 1, none⟩ v1).setCell ⟨g, 2, none⟩ v2).setCell ⟨g, 3, none⟩ v3).setCell ⟨g, 4, none⟩ v4).setCell ⟨g, 5, none⟩ v5).setCell ⟨g, 6, none⟩ v6).setCell ⟨g, 7, none⟩ v7).setCell ⟨g, 8, none⟩ v8).setCell ⟨g, 9, none⟩ v9).setCell ⟨g, 10, none⟩ v10).setCell ⟨g, 11, none⟩ v11) g #[v0, v1, v2, v3, v4, v5, v6, v7, v8, v9, v10, v11] T := by
  have h0 : Blk _ g #[v0, c1, c2, c3, c4, c5, c6, c7, c8, c9, c10, c11] T := h.set_ 0 v0
  have h1 : Blk _ g #[v0, v1, c2, c3, c4, c5, c6, c7, c8, c9, c10, c11] T := h0.set_ 1 v1
  have h2 : Blk _ g #[v0, v1, v2, c3, c4, c5, c6, c7, c8, c9, c10, c11] T := h1.set_ 2 v2
  have h3 : Blk _ g #[v0, v1, v2, v3, c4, c5, c6, c7, c8, c9, c10, c11] T := h2.set_ 3 v3
  have h4 : Blk _ g #[v0, v1, v2, v3, v4, c5, c6, c7, c8, c9, c10, c11] T := h3.set_ 4 v4
  have h5 : Blk _ g #[v0, v1, v2, v3, v4, v5, c6, c7, c8, c9, c10, c11] T := h4.set_ 5 v5
  have h6 : Blk _ g #[v0, v1, v2, v3, v4, v5, v6, c7, c8, c9, c10, c11] T := h5.set_ 6 v6
  have h7 : Blk _ g #[v0, v1, v2, v3, v4, v5, v6, v7, c8, c9, c10, c11] T := h6.set_ 7 v7
  have h8 : Blk _ g #[v0, v1, v2, v3, v4, v5, v6, v7, v8, c9, c10, c11] T := h7.set_ 8 v8
  have h9 : Blk _ g #[v0, v1, v2, v3, v4, v5, v6, v7, v8, v9, c10, c11] T := h8.set_ 9 v9
  have h10 : Blk _ g #[v0, v1, v2, v3, v4, v5, v6, v7, v8, v9, v10, c11] T := h9.set_ 10 v10
  have h11 : Blk _ g #[v0, v1, v2, v3, v4, v5, v6, v7, v8, v9, v10, v11] T := h10.set_ 11 v11
  exact h11
theorem grown_set12 (w : World) (g : Nat) (v0 v1 v2 v3 v4 v5 v6 v7 v8 v9 v10 v11 : Value) : w.grownBy ((((((((((((w.setCell ⟨g, 0, none⟩ v0).setCell ⟨g, 1, none⟩ v1).setCell ⟨g, 2, none⟩ v2).setCell ⟨g, 3, none⟩ v3).setCell ⟨g, 4, none⟩ v4).setCell ⟨g, 5, none⟩ v5).setCell ⟨g, 6, none⟩ v6).setCell ⟨g, 7, none⟩ v7).setCell ⟨g, 8, none⟩ v8).setCell ⟨g, 9, none⟩ v9).setCell ⟨g, 10, none⟩ v10).setCell ⟨g, 11, none⟩ v11) (some g) := grown_trans (grown_trans (grown_trans (grown_trans (grown_trans (grown_trans (grown_trans (grown_trans (grown_trans (grown_trans (grown_trans (rdr_grown_set w g 0 v0) (rdr_grown_set _ g 1 v1)) (rdr_grown_set _ g 2 v2)) (rdr_grown_set _ g 3 v3)) (rdr_grown_set _ g 4 v4)) (rdr_grown_set _ g 5 v5)) (rdr_grown_set _ g 6 v6)) (rdr_grown_set _ g 7 v7)) (rdr_grown_set _ g 8 v8)) (rdr_grown_set _ g 9 v9)) (rdr_grown_set _ g 10 v10)) (rdr_grown_set _ g 11 v11)
end
section
open Go.RowKit
def MakeOw (mg op oq : Nat) (nx nk nv : Nat) (lx lk lv : List UInt8) (w : World) (e : Ending) (w' : World) : Prop :=
  ∃ (X K V : Option Addr) (cx ck cv : Nat), e = .returned (.tuple #[frV mg op nk nx 0 0 (nx + nk + nv) oq 0 (.slice X nx cx) (.slice K nk ck) (.slice V nv cv), .int .i64 0]) ∧ Own w' w.heap.size X nx cx lx ∧ Own w' w.heap.size K nk ck lk ∧ Own w' w.heap.size V nv cv lv ∧ Below w.heap.size w w'
set_option maxRecDepth 100000 in
set_option maxHeartbeats 8000000 in
theorem make_Wb (op oq : Nat) (hop : op < 256) (hoq : oq < 4294967296) (X K V : Option Addr) (nx cx nk ck nv cv : Nat) (hl : ¬ tooLong nx nk nv) (lx lk lv : List UInt8) (w : World)
    (rx : Rd w w.heap.size X nx cx lx) (rk : Rd w w.heap.size K nk ck lk) (rv : Rd w w.heap.size V nv cv lv) :
    Calls Try.prog 89 #[.int .u8 129, .int .u8 op, .int .u32 oq, .slice X nx cx, .slice K nk ck, .slice V nv cv] w (MakeOw 129 op oq nx nk nv lx lk lv w) := by
  unfold tooLong at hl
  have a1 : nx ≤ 255 := by omega
  have a2 : nk ≤ 65535 := by omega
  have a3 : nv ≤ 2048 := by omega
  have a4 : nx + nk + nv ≤ 2048 := by omega
  clear hl
  have b : Below w.heap.size w ((w.alloc (.cells #[.int .u8 0, .int .u8 0, .int .u16 0, .int .u8 0, .int .u8 0, .int .u16 0, .int .u32 0, .int .u32 0, .int .u64 0, .slice none 0 0, .slice none 0 0, .slice none 0 0] 61)).alloc (.cells #[.int .u8 129, .int .u8 op, .int .u16 nk, .int .u8 nx, .int .u8 0, .int .u16 0, .int .u32 ((nx : Int) + nk + nv), .int .u32 oq, .int .u64 0] 59)).drew := (below_a1' (below_a1' (Below.refl _ _) _) _).drew
  have k0 : Blk ((w.alloc (.cells #[.int .u8 0, .int .u8 0, .int .u16 0, .int .u8 0, .int .u8 0, .int .u16 0, .int .u32 0, .int .u32 0, .int .u64 0, .slice none 0 0, .slice none 0 0, .slice none 0 0] 61)).alloc (.cells #[.int .u8 129, .int .u8 op, .int .u16 nk, .int .u8 nx, .int .u8 0, .int .u16 0, .int .u32 ((nx : Int) + nk + nv), .int .u32 oq, .int .u64 0] 59)).drew w.heap.size #[.int .u8 0, .int .u8 0, .int .u16 0, .int .u8 0, .int .u8 0, .int .u16 0, .int .u32 0, .int .u32 0, .int .u64 0, .slice none 0 0, .slice none 0 0, .slice none 0 0] 61 := (Blk.new w _ _).alloc _
  have k1 : Blk ((w.alloc (.cells #[.int .u8 0, .int .u8 0, .int .u16 0, .int .u8 0, .int .u8 0, .int .u16 0, .int .u32 0, .int .u32 0, .int .u64 0, .slice none 0 0, .slice none 0 0, .slice none 0 0] 61)).alloc (.cells #[.int .u8 129, .int .u8 op, .int .u16 nk, .int .u8 nx, .int .u8 0, .int .u16 0, .int .u32 ((nx : Int) + nk + nv), .int .u32 oq, .int .u64 0] 59)).drew (w.heap.size + 1) #[.int .u8 129, .int .u8 op, .int .u16 nk, .int .u8 nx, .int .u8 0, .int .u16 0, .int .u32 ((nx : Int) + nk + nv), .int .u32 oq, .int .u64 0] 59 := by
    have := Blk.new (w.alloc (.cells #[.int .u8 0, .int .u8 0, .int .u16 0, .int .u8 0, .int .u8 0, .int .u16 0, .int .u32 0, .int .u32 0, .int .u64 0, .slice none 0 0, .slice none 0 0, .slice none 0 0] 61)) #[.int .u8 129, .int .u8 op, .int .u16 nk, .int .u8 nx, .int .u8 0, .int .u16 0, .int .u32 ((nx : Int) + nk + nv), .int .u32 oq, .int .u64 0] 59
    simp only [World.size_alloc] at this
    exact this
  obtain ⟨p0, p1, p2, p3, p4, p5, p6, p7, p8⟩ := box9 k1
  obtain ⟨z0, z1, z2, z3, z4, z5, z6, z7, z8, z9, z10, z11⟩ := box12 k0
  have y0 := k0.frozen 0
  have y1 := k0.frozen 1
  have y2 := k0.frozen 2
  have y3 := k0.frozen 3
  have y4 := k0.frozen 4
  have y5 := k0.frozen 5
  have y6 := k0.frozen 6
  have y7 := k0.frozen 7
  have y8 := k0.frozen 8
  have y9 := k0.frozen 9
  have y10 := k0.frozen 10
  have y11 := k0.frozen 11
  go_enter Try.func89, Try.ntmps89
  go_wp2_with fail
  go_region_held3 (fun w' => w'.cell? ⟨w.heap.size + 1, 0, none⟩ = some (.int .u8 129) ∧ w'.cell? ⟨w.heap.size + 1, 1, none⟩ = some (.int .u8 op) ∧ w'.cell? ⟨w.heap.size + 1, 2, none⟩ = some (.int .u16 nk) ∧ w'.cell? ⟨w.heap.size + 1, 3, none⟩ = some (.int .u8 nx) ∧ w'.cell? ⟨w.heap.size + 1, 4, none⟩ = some (.int .u8 0) ∧ w'.cell? ⟨w.heap.size + 1, 5, none⟩ = some (.int .u16 0) ∧ w'.cell? ⟨w.heap.size + 1, 6, none⟩ = some (.int .u32 ((nx : Int) + nk + nv)) ∧ w'.cell? ⟨w.heap.size + 1, 7, none⟩ = some (.int .u32 oq) ∧ w'.cell? ⟨w.heap.size + 1, 8, none⟩ = some (.int .u64 0)) (first | (with_reducible exact ⟨p0, p1, p2, p3, p4, p5, p6, p7, p8⟩) | go_keep)
      (first
        | (go_at_call 99
           have ltX := k0.lt
           refine (clone_any X nx cx w.heap.size lx _ (rx.below b) b.size (by omega)).mono ?_
           rintro e wz ⟨AX, cX, rfl, oX, bz⟩
           replace k0 := k0.step bz
           replace k1 := k1.step bz
           replace b := below_step b bz
           try replace oK := Own.step oK bz
           try replace oV := Own.step oV bz
           clear bz p0 p1 p2 p3 p4 p5 p6 p7 p8 z0 z1 z2 z3 z4 z5 z6 z7 z8 z9 z10 z11 y0 y1 y2 y3 y4 y5 y6 y7 y8 y9 y10 y11
           obtain ⟨z0, z1, z2, z3, z4, z5, z6, z7, z8, z9, z10, z11⟩ := box12 k0
           have y0 := k0.frozen 0
           have y1 := k0.frozen 1
           have y2 := k0.frozen 2
           have y3 := k0.frozen 3
           have y4 := k0.frozen 4
           have y5 := k0.frozen 5
           have y6 := k0.frozen 6
           have y7 := k0.frozen 7
           have y8 := k0.frozen 8
           have y9 := k0.frozen 9
           have y10 := k0.frozen 10
           have y11 := k0.frozen 11
           obtain ⟨p0, p1, p2, p3, p4, p5, p6, p7, p8⟩ := box9 k1)
        | (go_at_call 99
           have ltK := k0.lt
           refine (clone_any K nk ck w.heap.size lk _ (rk.below b) b.size (by omega)).mono ?_
           rintro e wz ⟨AK, cK, rfl, oK, bz⟩
           replace k0 := k0.step bz
           replace k1 := k1.step bz
           replace b := below_step b bz
           try replace oX := Own.step oX bz
           try replace oV := Own.step oV bz
           clear bz p0 p1 p2 p3 p4 p5 p6 p7 p8 z0 z1 z2 z3 z4 z5 z6 z7 z8 z9 z10 z11 y0 y1 y2 y3 y4 y5 y6 y7 y8 y9 y10 y11
           obtain ⟨z0, z1, z2, z3, z4, z5, z6, z7, z8, z9, z10, z11⟩ := box12 k0
           have y0 := k0.frozen 0
           have y1 := k0.frozen 1
           have y2 := k0.frozen 2
           have y3 := k0.frozen 3
           have y4 := k0.frozen 4
           have y5 := k0.frozen 5
           have y6 := k0.frozen 6
           have y7 := k0.frozen 7
           have y8 := k0.frozen 8
           have y9 := k0.frozen 9
           have y10 := k0.frozen 10
           have y11 := k0.frozen 11
           obtain ⟨p0, p1, p2, p3, p4, p5, p6, p7, p8⟩ := box9 k1)
        | (go_at_call 99
           have ltV := k0.lt
           refine (clone_any V nv cv w.heap.size lv _ (rv.below b) b.size (by omega)).mono ?_
           rintro e wz ⟨AV, cV, rfl, oV, bz⟩
           replace k0 := k0.step bz
           replace k1 := k1.step bz
           replace b := below_step b bz
           try replace oX := Own.step oX bz
           try replace oK := Own.step oK bz
           clear bz p0 p1 p2 p3 p4 p5 p6 p7 p8 z0 z1 z2 z3 z4 z5 z6 z7 z8 z9 z10 z11 y0 y1 y2 y3 y4 y5 y6 y7 y8 y9 y10 y11
           obtain ⟨z0, z1, z2, z3, z4, z5, z6, z7, z8, z9, z10, z11⟩ := box12 k0
           have y0 := k0.frozen 0
           have y1 := k0.frozen 1
           have y2 := k0.frozen 2
           have y3 := k0.frozen 3
           have y4 := k0.frozen 4
           have y5 := k0.frozen 5
           have y6 := k0.frozen 6
           have y7 := k0.frozen 7
           have y8 := k0.frozen 8
           have y9 := k0.frozen 9
           have y10 := k0.frozen 10
           have y11 := k0.frozen 11
           obtain ⟨p0, p1, p2, p3, p4, p5, p6, p7, p8⟩ := box9 k1))
  all_goals
    have kf := blk_set12 k0 (.int .u8 129) (.int .u8 op) (.int .u16 nk) (.int .u8 nx) (.int .u8 0) (.int .u16 0) (.int .u32 ((nx : Int) + nk + nv)) (.int .u32 oq) (.int .u64 0) (.slice AX nx cX) (.slice AK nk cK) (.slice AV nv cV)
    have hg := grown_set12 wz w.heap.size (.int .u8 129) (.int .u8 op) (.int .u16 nk) (.int .u8 nx) (.int .u8 0) (.int .u16 0) (.int .u32 ((nx : Int) + nk + nv)) (.int .u32 oq) (.int .u64 0) (.slice AX nx cX) (.slice AK nk cK) (.slice AV nv cV)
    have bf := b.trans (below_grown hg (Nat.le_refl _) k0.lt)
    have rX := (oX.kept hg ltX).more (Nat.le_of_lt ltX)
    have rK := (oK.kept hg ltK).more (Nat.le_of_lt ltK)
    have rV := (oV.kept hg ltV).more (Nat.le_of_lt ltV)
    obtain ⟨t0, t1, t2, t3, t4, t5, t6, t7, t8, t9, t10, t11⟩ := box12 kf
    clear hg b k0 k1 oX oK oV p0 p1 p2 p3 p4 p5 p6 p7 p8
    go_wp2_with fail
    refine bodyPost_ret (v := .tuple #[.agg #[.int .u8 129, .int .u8 op, .int .u16 nk, .int .u8 nx, .int .u8 0, .int .u16 0, .int .u32 ((nx : Int) + nk + nv), .int .u32 oq, .int .u64 0, .slice AX nx cX, .slice AK nk cK, .slice AV nv cV], .int .i64 0]) (by simp [results, Try.results89, go_sem, t0, t1, t2, t3, t4, t5, t6, t7, t8, t9, t10, t11]) rfl ?_
    exact ⟨AX, AK, AV, cX, cK, cV, rfl, rX, rK, rV, bf⟩
end
section
open Go.RowKit
end
section
open Go.ChangeShapes Go.WideShapes Go.ChangeAt Go.RowKit
theorem Blk.drewN {w : World} {g : Nat} {cs : Array Value} {T : TypeId} (h : Blk w g cs T) (q : Nat) : Blk (w.drewN q) g cs T := h
section
variable {H : Type} {enc : TypeId × Value → H} {W : World}
end
end
section
open Go.RowKit
end
section
open Go.ChangeShapes Go.WideShapes Go.ChangeAt Go.RowKit
section
variable {H : Type} {enc : TypeId × Value → H} {W : World}
end
end
section
open Go.RowKit
theorem blk_set9 {w : World} {g : Nat} {T : TypeId} {c0 c1 c2 c3 c4 c5 c6 c7 c8 : Value} (h : Blk w g #[c0, c1, c2, c3, c4, c5, c6, c7, c8] T) (v0 v1 v2 v3 v4 v5 v6 v7 v8 : Value) : Blk (((((((((w.setCell ⟨g, 0, none⟩ v0).setCell ⟨g, 1, none⟩ v1).setCell ⟨g, 2, none⟩ v2).setCell ⟨g, 3, none⟩ v3).setCell ⟨g, 4, none⟩ v4).setCell ⟨g, 5, none⟩ v5).setCell ⟨g, 6, none⟩ v6).setCell ⟨g, 7, none⟩ v7).setCell ⟨g, 8, none⟩ v8) g #[v0, v1, v2, v3, v4, v5, v6, v7, v8] T := by
  have h0 : Blk _ g #[v0, c1, c2, c3, c4, c5, c6, c7, c8] T := h.set_ 0 v0
  have h1 : Blk _ g #[v0, v1, c2, c3, c4, c5, c6, c7, c8] T := h0.set_ 1 v1
  have h2 : Blk _ g #[v0, v1, v2, c3, c4, c5, c6, c7, c8] T := h1.set_ 2 v2
  have h3 : Blk _ g #[v0, v1, v2, v3, c4, c5, c6, c7, c8] T := h2.set_ 3 v3
  have h4 : Blk _ g #[v0, v1, v2, v3, v4, c5, c6, c7, c8] T := h3.set_ 4 v4
  have h5 : Blk _ g #[v0, v1, v2, v3, v4, v5, c6, c7, c8] T := h4.set_ 5 v5
  have h6 : Blk _ g #[v0, v1, v2, v3, v4, v5, v6, c7, c8] T := h5.set_ 6 v6
  have h7 : Blk _ g #[v0, v1, v2, v3, v4, v5, v6, v7, c8] T := h6.set_ 7 v7
  have h8 : Blk _ g #[v0, v1, v2, v3, v4, v5, v6, v7, v8] T := h7.set_ 8 v8
  exact h8
theorem grown_set9 (w : World) (g : Nat) (v0 v1 v2 v3 v4 v5 v6 v7 v8 : Value) : w.grownBy (((((((((w.setCell ⟨g, 0, none⟩ v0).setCell ⟨g, 1, none⟩ v1).setCell ⟨g, 2, none⟩ v2).setCell ⟨g, 3, none⟩ v3).setCell ⟨g, 4, none⟩ v4).setCell ⟨g, 5, none⟩ v5).setCell ⟨g, 6, none⟩ v6).setCell ⟨g, 7, none⟩ v7).setCell ⟨g, 8, none⟩ v8) (some g) := grown_trans (grown_trans (grown_trans (grown_trans (grown_trans (grown_trans (grown_trans (grown_trans (rdr_grown_set w g 0 v0) (rdr_grown_set _ g 1 v1)) (rdr_grown_set _ g 2 v2)) (rdr_grown_set _ g 3 v3)) (rdr_grown_set _ g 4 v4)) (rdr_grown_set _ g 5 v5)) (rdr_grown_set _ g 6 v6)) (rdr_grown_set _ g 7 v7)) (rdr_grown_set _ g 8 v8)
theorem hdF_of (l : List UInt8) : HdF (fld l 0 1) (fld l 1 1) (fld l 2 2) (fld l 4 1) (fld l 5 1) (fld l 6 2) (fld l 8 4) (fld l 12 4) (fld l 16 8) :=
  ⟨fld_lt l 0 1, fld_lt l 1 1, fld_lt l 2 2, fld_lt l 4 1, fld_lt l 5 1, fld_lt l 6 2, fld_lt l 8 4, fld_lt l 12 4, fld_lt l 16 8⟩
def zeroHd : Value := .agg #[.int .u8 0, .int .u8 0, .int .u16 0, .int .u8 0, .int .u8 0, .int .u16 0, .int .u32 0, .int .u32 0, .int .u64 0]
def GhNo (err : Int) (w : World) (e : Ending) (w' : World) : Prop := e = .returned (.tuple #[zeroHd, .int .i64 err]) ∧ Below w.heap.size w w'
def GhOk (mg op kl el ty st bl oq cas : Nat) (w : World) (e : Ending) (w' : World) : Prop := e = .returned (.tuple #[hdV mg op kl el ty st bl oq cas, .int .i64 0]) ∧ Below w.heap.size w w'
set_option maxRecDepth 100000 in
theorem gh_short (A : Option Addr) (n c : Nat) (hn : n < 24) (w : World) : Calls Try.prog 97 #[.slice A n c] w (GhNo 9 w) := by
  go_enter Try.func97, Try.ntmps97
  go_wp2_with fail
  refine bodyPost_ret (v := .tuple #[.agg #[.int .u8 0, .int .u8 0, .int .u16 0, .int .u8 0, .int .u8 0, .int .u16 0, .int .u32 0, .int .u32 0, .int .u64 0], .int .i64 9]) (by simp [results, Try.results97, go_sem]) rfl ?_
  exact ⟨rfl, below_a1' (Below.refl _ _) _⟩
set_option maxRecDepth 100000 in
set_option maxHeartbeats 4000000 in
theorem gh_ok (A : Option Addr) (n c : Nat) (l : List UInt8) (w : World) (h : Rd w w.heap.size A n c l) (hn : 24 ≤ n) (hm : mayB (fld l 0 1) (fld l 2 2) (fld l 4 1) (fld l 8 4) = true) :
    Calls Try.prog 97 #[.slice A n c] w (GhOk (fld l 0 1) (fld l 1 1) (fld l 2 2) (fld l 4 1) (fld l 5 1) (fld l 6 2) (fld l 8 4) (fld l 12 4) (fld l 16 8) w) := by
  have hF := hdF_of l
  have rp := rd_pre h hn
  have hcap := h.cap
  have hmax := h.max
  unfold maxLen at hmax
  generalize hmg : fld l 0 1 = mg at hF hm ⊢
  generalize hop : fld l 1 1 = op at hF hm ⊢
  generalize hkl : fld l 2 2 = kl at hF hm ⊢
  generalize hel : fld l 4 1 = el at hF hm ⊢
  generalize hty : fld l 5 1 = ty at hF hm ⊢
  generalize hst : fld l 6 2 = st at hF hm ⊢
  generalize hbl : fld l 8 4 = bl at hF hm ⊢
  generalize hoq : fld l 12 4 = oq at hF hm ⊢
  generalize hcas : fld l 16 8 = cas at hF hm ⊢
  have Hmg := Lib.hid (show mg = fld (l.take 24) 0 1 from by rw [fld_take (by omega), hmg])
  have Hop := Lib.hid (show op = fld (l.take 24) 1 1 from by rw [fld_take (by omega), hop])
  have Hkl := Lib.hid (show kl = fld (l.take 24) 2 2 from by rw [fld_take (by omega), hkl])
  have Hel := Lib.hid (show el = fld (l.take 24) 4 1 from by rw [fld_take (by omega), hel])
  have Hty := Lib.hid (show ty = fld (l.take 24) 5 1 from by rw [fld_take (by omega), hty])
  have Hst := Lib.hid (show st = fld (l.take 24) 6 2 from by rw [fld_take (by omega), hst])
  have Hbl := Lib.hid (show bl = fld (l.take 24) 8 4 from by rw [fld_take (by omega), hbl])
  have Hoq := Lib.hid (show oq = fld (l.take 24) 12 4 from by rw [fld_take (by omega), hoq])
  have Hcas := Lib.hid (show cas = fld (l.take 24) 16 8 from by rw [fld_take (by omega), hcas])
  clear hmg hop hkl hel hty hst hbl hoq hcas h
  have hl24 := rp.len
  generalize l.take 24 = l24 at rp hl24 Hmg Hop Hkl Hel Hty Hst Hbl Hoq Hcas
  have HL := Lib.hid hl24
  have HM := Lib.hid hm
  have HF := Lib.hid hF
  obtain ⟨f0, f1, f2, f3, f4, f5, f6, f7, f8⟩ := hF
  clear hl24 hm
  have k0 := Blk.new w #[.int .u8 0, .int .u8 0, .int .u16 0, .int .u8 0, .int .u8 0, .int .u16 0, .int .u32 0, .int .u32 0, .int .u64 0] 59
  have b0 : Below w.heap.size w (w.alloc (.cells #[.int .u8 0, .int .u8 0, .int .u16 0, .int .u8 0, .int .u8 0, .int .u16 0, .int .u32 0, .int .u32 0, .int .u64 0] 59)) := below_a1' (Below.refl _ _) _
  have hz : (w.alloc (.cells #[.int .u8 0, .int .u8 0, .int .u16 0, .int .u8 0, .int .u8 0, .int .u16 0, .int .u32 0, .int .u32 0, .int .u64 0] 59)).heap.size = w.heap.size + 1 := by simp
  go_enter Try.func97, Try.ntmps97
  go_wp2_with fail
  generalize w.alloc (.cells #[.int .u8 0, .int .u8 0, .int .u16 0, .int .u8 0, .int .u8 0, .int .u16 0, .int .u32 0, .int .u32 0, .int .u64 0] 59) = W0 at k0 b0 hz ⊢
  have HZ := Lib.hid hz
  clear hz
  refine (read_any A 24 c _ l24 W0 ((rp.below b0).more b0.size) (Nat.le_refl _) (by omega)).mono ?_
  rintro e w1 ⟨g, rfl, h0, bb⟩
  go_wp2_with fail
  refine (u8_at l24 0 mg Hmg.out g _ _ h0 (by rw [HL.out]; omega)).mono ?_
  rintro e w2 ⟨rfl, h1, g0⟩
  replace bb := bb.trans (below_grown g0 h0.ge h0.lt)
  clear g0 h0
  go_wp2_with fail
  refine (u8_at l24 1 op Hop.out g _ _ h1 (by rw [HL.out]; omega)).mono ?_
  rintro e w3 ⟨rfl, h2, g1⟩
  replace bb := bb.trans (below_grown g1 h1.ge h1.lt)
  clear g1 h1
  go_wp2_with fail
  refine (u16_at l24 2 kl Hkl.out g _ _ h2 (by rw [HL.out]; omega)).mono ?_
  rintro e w4 ⟨rfl, h3, g2⟩
  replace bb := bb.trans (below_grown g2 h2.ge h2.lt)
  clear g2 h2
  go_wp2_with fail
  refine (u8_at l24 4 el Hel.out g _ _ h3 (by rw [HL.out]; omega)).mono ?_
  rintro e w5 ⟨rfl, h4, g3⟩
  replace bb := bb.trans (below_grown g3 h3.ge h3.lt)
  clear g3 h3
  go_wp2_with fail
  refine (u8_at l24 5 ty Hty.out g _ _ h4 (by rw [HL.out]; omega)).mono ?_
  rintro e w6 ⟨rfl, h5, g4⟩
  replace bb := bb.trans (below_grown g4 h4.ge h4.lt)
  clear g4 h4
  go_wp2_with fail
  refine (u16_at l24 6 st Hst.out g _ _ h5 (by rw [HL.out]; omega)).mono ?_
  rintro e w7 ⟨rfl, h6, g5⟩
  replace bb := bb.trans (below_grown g5 h5.ge h5.lt)
  clear g5 h5
  go_wp2_with fail
  refine (u32_at l24 8 bl Hbl.out g _ _ h6 (by rw [HL.out]; omega)).mono ?_
  rintro e w8 ⟨rfl, h7, g6⟩
  replace bb := bb.trans (below_grown g6 h6.ge h6.lt)
  clear g6 h6
  go_wp2_with fail
  refine (u32_at l24 12 oq Hoq.out g _ _ h7 (by rw [HL.out]; omega)).mono ?_
  rintro e w9 ⟨rfl, h8, g7⟩
  replace bb := bb.trans (below_grown g7 h7.ge h7.lt)
  clear g7 h7
  go_wp2_with fail
  refine (u64_at l24 16 cas Hcas.out g _ _ h8 (by rw [HL.out]; omega)).mono ?_
  rintro e w10 ⟨rfl, h9, g8⟩
  replace bb := bb.trans (below_grown g8 h8.ge h8.lt)
  clear g8 h8
  go_wp2_with fail
  refine (may_any mg op kl el ty st bl oq cas HF.out _).mono ?_
  rintro e w12 ⟨rfl, bm⟩
  rw [HM.out]
  have b12 : Below W0.heap.size W0 w12 := (bb.alloc bb.size _).trans (bm.mono (by simp; exact Nat.le_succ_of_le bb.size))
  have kx : Blk w12 w.heap.size #[.int .u8 0, .int .u8 0, .int .u16 0, .int .u8 0, .int .u8 0, .int .u16 0, .int .u32 0, .int .u32 0, .int .u64 0] 59 := (b12.block _ k0.lt).trans k0
  have bf := b0.trans (b12.mono (by rw [HZ.out]; omega))
  have k5 : Blk w12 w10.heap.size #[.int .u8 (mg : Nat), .int .u8 (op : Nat), .int .u16 (kl : Nat), .int .u8 (el : Nat), .int .u8 (ty : Nat), .int .u16 (st : Nat), .int .u32 (bl : Nat), .int .u32 (oq : Nat), .int .u64 (cas : Nat)] 59 := (Blk.new w10 _ _).step bm
  obtain ⟨p0, p1, p2, p3, p4, p5, p6, p7, p8⟩ := box9 k5
  obtain ⟨z0, z1, z2, z3, z4, z5, z6, z7, z8⟩ := box9 kx
  have y0 := kx.frozen 0
  have y1 := kx.frozen 1
  have y2 := kx.frozen 2
  have y3 := kx.frozen 3
  have y4 := kx.frozen 4
  have y5 := kx.frozen 5
  have y6 := kx.frozen 6
  have y7 := kx.frozen 7
  have y8 := kx.frozen 8
  have kf := blk_set9 kx (.int .u8 (mg : Nat)) (.int .u8 (op : Nat)) (.int .u16 (kl : Nat)) (.int .u8 (el : Nat)) (.int .u8 (ty : Nat)) (.int .u16 (st : Nat)) (.int .u32 (bl : Nat)) (.int .u32 (oq : Nat)) (.int .u64 (cas : Nat))
  have hg := grown_set9 w12 w.heap.size (.int .u8 (mg : Nat)) (.int .u8 (op : Nat)) (.int .u16 (kl : Nat)) (.int .u8 (el : Nat)) (.int .u8 (ty : Nat)) (.int .u16 (st : Nat)) (.int .u32 (bl : Nat)) (.int .u32 (oq : Nat)) (.int .u64 (cas : Nat))
  have bff := bf.trans (below_grown hg (Nat.le_refl _) kx.lt)
  obtain ⟨t0, t1, t2, t3, t4, t5, t6, t7, t8⟩ := box9 kf
  clear hg kf bb k0 kx k5
  go_wp2_with fail
  refine bodyPost_ret (v := .tuple #[.agg #[.int .u8 (mg : Nat), .int .u8 (op : Nat), .int .u16 (kl : Nat), .int .u8 (el : Nat), .int .u8 (ty : Nat), .int .u16 (st : Nat), .int .u32 (bl : Nat), .int .u32 (oq : Nat), .int .u64 (cas : Nat)], .int .i64 0]) (by simp [results, Try.results97, go_sem, t0, t1, t2, t3, t4, t5, t6, t7, t8]) rfl ?_
  exact ⟨rfl, bff⟩
set_option maxRecDepth 100000 in
set_option maxHeartbeats 4000000 in
theorem gh_bad (A : Option Addr) (n c : Nat) (l : List UInt8) (w : World) (h : Rd w w.heap.size A n c l) (hn : 24 ≤ n) (hm : mayB (fld l 0 1) (fld l 2 2) (fld l 4 1) (fld l 8 4) = false) :
    Calls Try.prog 97 #[.slice A n c] w (GhNo 290 w) := by
  have hF := hdF_of l
  have rp := rd_pre h hn
  have hcap := h.cap
  have hmax := h.max
  unfold maxLen at hmax
  generalize hmg : fld l 0 1 = mg at hF hm
  generalize hop : fld l 1 1 = op at hF hm
  generalize hkl : fld l 2 2 = kl at hF hm
  generalize hel : fld l 4 1 = el at hF hm
  generalize hty : fld l 5 1 = ty at hF hm
  generalize hst : fld l 6 2 = st at hF hm
  generalize hbl : fld l 8 4 = bl at hF hm
  generalize hoq : fld l 12 4 = oq at hF hm
  generalize hcas : fld l 16 8 = cas at hF hm
  have Hmg := Lib.hid (show mg = fld (l.take 24) 0 1 from by rw [fld_take (by omega), hmg])
  have Hop := Lib.hid (show op = fld (l.take 24) 1 1 from by rw [fld_take (by omega), hop])
  have Hkl := Lib.hid (show kl = fld (l.take 24) 2 2 from by rw [fld_take (by omega), hkl])
  have Hel := Lib.hid (show el = fld (l.take 24) 4 1 from by rw [fld_take (by omega), hel])
  have Hty := Lib.hid (show ty = fld (l.take 24) 5 1 from by rw [fld_take (by omega), hty])
  have Hst := Lib.hid (show st = fld (l.take 24) 6 2 from by rw [fld_take (by omega), hst])
  have Hbl := Lib.hid (show bl = fld (l.take 24) 8 4 from by rw [fld_take (by omega), hbl])
  have Hoq := Lib.hid (show oq = fld (l.take 24) 12 4 from by rw [fld_take (by omega), hoq])
  have Hcas := Lib.hid (show cas = fld (l.take 24) 16 8 from by rw [fld_take (by omega), hcas])
  clear hmg hop hkl hel hty hst hbl hoq hcas h
  have hl24 := rp.len
  generalize l.take 24 = l24 at rp hl24 Hmg Hop Hkl Hel Hty Hst Hbl Hoq Hcas
  have HL := Lib.hid hl24
  have HM := Lib.hid hm
  have HF := Lib.hid hF
  obtain ⟨f0, f1, f2, f3, f4, f5, f6, f7, f8⟩ := hF
  clear hl24 hm
  have k0 := Blk.new w #[.int .u8 0, .int .u8 0, .int .u16 0, .int .u8 0, .int .u8 0, .int .u16 0, .int .u32 0, .int .u32 0, .int .u64 0] 59
  have b0 : Below w.heap.size w (w.alloc (.cells #[.int .u8 0, .int .u8 0, .int .u16 0, .int .u8 0, .int .u8 0, .int .u16 0, .int .u32 0, .int .u32 0, .int .u64 0] 59)) := below_a1' (Below.refl _ _) _
  have hz : (w.alloc (.cells #[.int .u8 0, .int .u8 0, .int .u16 0, .int .u8 0, .int .u8 0, .int .u16 0, .int .u32 0, .int .u32 0, .int .u64 0] 59)).heap.size = w.heap.size + 1 := by simp
  go_enter Try.func97, Try.ntmps97
  go_wp2_with fail
  generalize w.alloc (.cells #[.int .u8 0, .int .u8 0, .int .u16 0, .int .u8 0, .int .u8 0, .int .u16 0, .int .u32 0, .int .u32 0, .int .u64 0] 59) = W0 at k0 b0 hz ⊢
  have HZ := Lib.hid hz
  clear hz
  refine (read_any A 24 c _ l24 W0 ((rp.below b0).more b0.size) (Nat.le_refl _) (by omega)).mono ?_
  rintro e w1 ⟨g, rfl, h0, bb⟩
  go_wp2_with fail
  refine (u8_at l24 0 mg Hmg.out g _ _ h0 (by rw [HL.out]; omega)).mono ?_
  rintro e w2 ⟨rfl, h1, g0⟩
  replace bb := bb.trans (below_grown g0 h0.ge h0.lt)
  clear g0 h0
  go_wp2_with fail
  refine (u8_at l24 1 op Hop.out g _ _ h1 (by rw [HL.out]; omega)).mono ?_
  rintro e w3 ⟨rfl, h2, g1⟩
  replace bb := bb.trans (below_grown g1 h1.ge h1.lt)
  clear g1 h1
  go_wp2_with fail
  refine (u16_at l24 2 kl Hkl.out g _ _ h2 (by rw [HL.out]; omega)).mono ?_
  rintro e w4 ⟨rfl, h3, g2⟩
  replace bb := bb.trans (below_grown g2 h2.ge h2.lt)
  clear g2 h2
  go_wp2_with fail
  refine (u8_at l24 4 el Hel.out g _ _ h3 (by rw [HL.out]; omega)).mono ?_
  rintro e w5 ⟨rfl, h4, g3⟩
  replace bb := bb.trans (below_grown g3 h3.ge h3.lt)
  clear g3 h3
  go_wp2_with fail
  refine (u8_at l24 5 ty Hty.out g _ _ h4 (by rw [HL.out]; omega)).mono ?_
  rintro e w6 ⟨rfl, h5, g4⟩
  replace bb := bb.trans (below_grown g4 h4.ge h4.lt)
  clear g4 h4
  go_wp2_with fail
  refine (u16_at l24 6 st Hst.out g _ _ h5 (by rw [HL.out]; omega)).mono ?_
  rintro e w7 ⟨rfl, h6, g5⟩
  replace bb := bb.trans (below_grown g5 h5.ge h5.lt)
  clear g5 h5
  go_wp2_with fail
  refine (u32_at l24 8 bl Hbl.out g _ _ h6 (by rw [HL.out]; omega)).mono ?_
  rintro e w8 ⟨rfl, h7, g6⟩
  replace bb := bb.trans (below_grown g6 h6.ge h6.lt)
  clear g6 h6
  go_wp2_with fail
  refine (u32_at l24 12 oq Hoq.out g _ _ h7 (by rw [HL.out]; omega)).mono ?_
  rintro e w9 ⟨rfl, h8, g7⟩
  replace bb := bb.trans (below_grown g7 h7.ge h7.lt)
  clear g7 h7
  go_wp2_with fail
  refine (u64_at l24 16 cas Hcas.out g _ _ h8 (by rw [HL.out]; omega)).mono ?_
  rintro e w10 ⟨rfl, h9, g8⟩
  replace bb := bb.trans (below_grown g8 h8.ge h8.lt)
  clear g8 h8
  go_wp2_with fail
  refine (may_any mg op kl el ty st bl oq cas HF.out _).mono ?_
  rintro e w12 ⟨rfl, bm⟩
  rw [HM.out]
  have b12 : Below W0.heap.size W0 w12 := (bb.alloc bb.size _).trans (bm.mono (by simp; exact Nat.le_succ_of_le bb.size))
  have kx : Blk w12 w.heap.size #[.int .u8 0, .int .u8 0, .int .u16 0, .int .u8 0, .int .u8 0, .int .u16 0, .int .u32 0, .int .u32 0, .int .u64 0] 59 := (b12.block _ k0.lt).trans k0
  have bf := b0.trans (b12.mono (by rw [HZ.out]; omega))
  have k5 : Blk w12 w10.heap.size #[.int .u8 (mg : Nat), .int .u8 (op : Nat), .int .u16 (kl : Nat), .int .u8 (el : Nat), .int .u8 (ty : Nat), .int .u16 (st : Nat), .int .u32 (bl : Nat), .int .u32 (oq : Nat), .int .u64 (cas : Nat)] 59 := (Blk.new w10 _ _).step bm
  obtain ⟨p0, p1, p2, p3, p4, p5, p6, p7, p8⟩ := box9 k5
  obtain ⟨z0, z1, z2, z3, z4, z5, z6, z7, z8⟩ := box9 kx
  have y0 := kx.frozen 0
  have y1 := kx.frozen 1
  have y2 := kx.frozen 2
  have y3 := kx.frozen 3
  have y4 := kx.frozen 4
  have y5 := kx.frozen 5
  have y6 := kx.frozen 6
  have y7 := kx.frozen 7
  have y8 := kx.frozen 8
  have kf := blk_set9 kx (.int .u8 0) (.int .u8 0) (.int .u16 0) (.int .u8 0) (.int .u8 0) (.int .u16 0) (.int .u32 0) (.int .u32 0) (.int .u64 0)
  have hg := grown_set9 w12 w.heap.size (.int .u8 0) (.int .u8 0) (.int .u16 0) (.int .u8 0) (.int .u8 0) (.int .u16 0) (.int .u32 0) (.int .u32 0) (.int .u64 0)
  have bff := bf.trans (below_grown hg (Nat.le_refl _) kx.lt)
  obtain ⟨t0, t1, t2, t3, t4, t5, t6, t7, t8⟩ := box9 kf
  clear hg kf bb k0 kx k5
  go_wp2_with fail
  refine bodyPost_ret (v := .tuple #[.agg #[.int .u8 0, .int .u8 0, .int .u16 0, .int .u8 0, .int .u8 0, .int .u16 0, .int .u32 0, .int .u32 0, .int .u64 0], .int .i64 290]) (by simp [results, Try.results97, go_sem, t0, t1, t2, t3, t4, t5, t6, t7, t8]) rfl ?_
  exact ⟨rfl, bff⟩
end
end Go.Proofs.Ytnghmgbmflcngaa

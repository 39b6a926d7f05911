/- Merged texts: Fre, Frw, Freb, Frf, Frh, Frp, Frg. Conditions: typed in each theorem. -/
import Derived.Test.YtnghmgbmflcngaaZfra
import Derived.Test.YtnghmgbmflcngaaOpen
import Derived.Lib.SlBytesConst
import Derived.Deep.DeepCutAuto
import Derived.Test.YtnghmgbmflcngaaZbas
namespace Go.Proofs.Ytnghmgbmflcngaa
set_option linter.unusedVariables false
section
open Go.RowKit

/-- Twelve cells of a block, each written. -/
theorem blk_set12 {w : World} {g : Nat} {T : TypeId} {c0 c1 c2 c3 c4 c5 c6 c7 c8 c9 c10 c11 : Value} (h : Blk w g #[c0, c1, c2, c3, c4, c5, c6, c7, c8, c9, c10, c11] T) (v0 v1 v2 v3 v4 v5 v6 v7 v8 v9 v10 v11 : Value) : Blk ((((((((((((w.setCell ⟨g, 0, none⟩ v0).setCell ⟨g, 1, none⟩ v1).setCell ⟨g, 2, none⟩ v2).setCell ⟨g, 3, none⟩ v3).setCell ⟨g, 4, none⟩ v4).setCell ⟨g, 5, none⟩ v5).setCell ⟨g, 6, none⟩ v6).setCell ⟨g, 7, none⟩ v7).setCell ⟨g, 8, none⟩ v8).setCell ⟨g, 9, none⟩ v9).setCell ⟨g, 10, none⟩ v10).setCell ⟨g, 11, none⟩ v11) g #[v0, v1, v2, v3, v4, v5, v6, v7, v8, v9, v10, v11] T := by
  have h0 : Blk _ g #[v0, c1, c2, c3, c4, c5, c6, c7, c8, c9, c10, c11] T := h.set_ 0 v0
  have h1 : Blk _ g #[v0, v1, c2, c3, c4, c5, c6, c7, c8, c9, c10, c11] T := h0.set_ 1 v1
  have h2 : Blk _ g #[v0, v1, v2, c3, c4, c5, c6, c7, c8, c9, c10, c11] T := h1.set_ 2 v2
  have h3 : Blk _ g #[v0, v1, v2, v3, c4, c5, c6, c7, c8, c9, c10, c11] T := h2.set_ 3 v3
  have h4 : Blk _ g #[v0, v1, v2, v3, v4, c5, c6, c7, c8, c9, c10, c11] T := h3.set_ 4 v4
  have h5 : Blk _ g #[v0, v1, v2, v3, v4, v5, c6, c7, c8, c9, c10, c11] T := h4.set_ 5 v5
  have h6 : Blk _ g #[v0, v1, v2, v3, v4, v5, v6, c7, c8, c9, c10, c11] T := h5.set_ 6 v6
  have h7 : Blk _ g #[v0, v1, v2, v3, v4, v5, v6, v7, c8, c9, c10, c11] T := h6.set_ 7 v7
  have h8 : Blk _ g #[v0, v1, v2, v3, v4, v5, v6, v7, v8, c9, c10, c11] T := h7.set_ 8 v8
  have h9 : Blk _ g #[v0, v1, v2, v3, v4, v5, v6, v7, v8, v9, c10, c11] T := h8.set_ 9 v9
  have h10 : Blk _ g #[v0, v1, v2, v3, v4, v5, v6, v7, v8, v9, v10, c11] T := h9.set_ 10 v10
  have h11 : Blk _ g #[v0, v1, v2, v3, v4, v5, v6, v7, v8, v9, v10, v11] T := h10.set_ 11 v11
  exact h11
theorem grown_set12 (w : World) (g : Nat) (v0 v1 v2 v3 v4 v5 v6 v7 v8 v9 v10 v11 : Value) : w.grownBy ((((((((((((w.setCell ⟨g, 0, none⟩ v0).setCell ⟨g, 1, none⟩ v1).setCell ⟨g, 2, none⟩ v2).setCell ⟨g, 3, none⟩ v3).setCell ⟨g, 4, none⟩ v4).setCell ⟨g, 5, none⟩ v5).setCell ⟨g, 6, none⟩ v6).setCell ⟨g, 7, none⟩ v7).setCell ⟨g, 8, none⟩ v8).setCell ⟨g, 9, none⟩ v9).setCell ⟨g, 10, none⟩ v10).setCell ⟨g, 11, none⟩ v11) (some g) := grown_trans (grown_trans (grown_trans (grown_trans (grown_trans (grown_trans (grown_trans (grown_trans (grown_trans (grown_trans (grown_trans (rdr_grown_set w g 0 v0) (rdr_grown_set _ g 1 v1)) (rdr_grown_set _ g 2 v2)) (rdr_grown_set _ g 3 v3)) (rdr_grown_set _ g 4 v4)) (rdr_grown_set _ g 5 v5)) (rdr_grown_set _ g 6 v6)) (rdr_grown_set _ g 7 v7)) (rdr_grown_set _ g 8 v8)) (rdr_grown_set _ g 9 v9)) (rdr_grown_set _ g 10 v10)) (rdr_grown_set _ g 11 v11)
def MakeOk (mg op oq : Nat) (nx nk nv : Nat) (lx lk lv : List UInt8) (w : World) (e : Ending) (w' : World) : Prop :=
  ∃ (X K V : Option Addr) (cx ck cv : Nat), e = .returned (.tuple #[frV mg op nk nx 0 0 (nx + nk + nv) oq 0 (.slice X nx cx) (.slice K nk ck) (.slice V nv cv), .int .i64 0]) ∧ Rd w' w'.heap.size X nx cx lx ∧ Rd w' w'.heap.size K nk ck lk ∧ Rd w' w'.heap.size V nv cv lv ∧ Below w.heap.size w w'
set_option maxRecDepth 100000 in
set_option maxHeartbeats 8000000 in
theorem make_Oa (op oq : Nat) (hop : op < 256) (hoq : oq < 4294967296) (X K V : Option Addr) (nx cx nk ck nv cv : Nat) (hl : ¬ tooLong nx nk nv) (lx lk lv : List UInt8) (w : World)
    (rx : Rd w w.heap.size X nx cx lx) (rk : Rd w w.heap.size K nk ck lk) (rv : Rd w w.heap.size V nv cv lv) :
    Calls Try.prog 89 #[.int .u8 128, .int .u8 op, .int .u32 oq, .slice X nx cx, .slice K nk ck, .slice V nv cv] w (MakeOk 128 op oq nx nk nv lx lk lv w) := by
  unfold tooLong at hl
  have a1 : nx ≤ 255 := by omega
  have a2 : nk ≤ 65535 := by omega
  have a3 : nv ≤ 2048 := by omega
  have a4 : nx + nk + nv ≤ 2048 := by omega
  clear hl
  have b : Below w.heap.size w ((w.alloc (.cells #[.int .u8 0, .int .u8 0, .int .u16 0, .int .u8 0, .int .u8 0, .int .u16 0, .int .u32 0, .int .u32 0, .int .u64 0, .slice none 0 0, .slice none 0 0, .slice none 0 0] 61)).alloc (.cells #[.int .u8 128, .int .u8 op, .int .u16 nk, .int .u8 nx, .int .u8 0, .int .u16 0, .int .u32 ((nx : Int) + nk + nv), .int .u32 oq, .int .u64 0] 59)).drew := (below_a1' (below_a1' (Below.refl _ _) _) _).drew
  have k0 : Blk ((w.alloc (.cells #[.int .u8 0, .int .u8 0, .int .u16 0, .int .u8 0, .int .u8 0, .int .u16 0, .int .u32 0, .int .u32 0, .int .u64 0, .slice none 0 0, .slice none 0 0, .slice none 0 0] 61)).alloc (.cells #[.int .u8 128, .int .u8 op, .int .u16 nk, .int .u8 nx, .int .u8 0, .int .u16 0, .int .u32 ((nx : Int) + nk + nv), .int .u32 oq, .int .u64 0] 59)).drew w.heap.size #[.int .u8 0, .int .u8 0, .int .u16 0, .int .u8 0, .int .u8 0, .int .u16 0, .int .u32 0, .int .u32 0, .int .u64 0, .slice none 0 0, .slice none 0 0, .slice none 0 0] 61 := (Blk.new w _ _).alloc _
  have k1 : Blk ((w.alloc (.cells #[.int .u8 0, .int .u8 0, .int .u16 0, .int .u8 0, .int .u8 0, .int .u16 0, .int .u32 0, .int .u32 0, .int .u64 0, .slice none 0 0, .slice none 0 0, .slice none 0 0] 61)).alloc (.cells #[.int .u8 128, .int .u8 op, .int .u16 nk, .int .u8 nx, .int .u8 0, .int .u16 0, .int .u32 ((nx : Int) + nk + nv), .int .u32 oq, .int .u64 0] 59)).drew (w.heap.size + 1) #[.int .u8 128, .int .u8 op, .int .u16 nk, .int .u8 nx, .int .u8 0, .int .u16 0, .int .u32 ((nx : Int) + nk + nv), .int .u32 oq, .int .u64 0] 59 := by
    have := Blk.new (w.alloc (.cells #[.int .u8 0, .int .u8 0, .int .u16 0, .int .u8 0, .int .u8 0, .int .u16 0, .int .u32 0, .int .u32 0, .int .u64 0, .slice none 0 0, .slice none 0 0, .slice none 0 0] 61)) #[.int .u8 128, .int .u8 op, .int .u16 nk, .int .u8 nx, .int .u8 0, .int .u16 0, .int .u32 ((nx : Int) + nk + nv), .int .u32 oq, .int .u64 0] 59
    simp only [World.size_alloc] at this
    exact this
  obtain ⟨p0, p1, p2, p3, p4, p5, p6, p7, p8⟩ := box9 k1
  obtain ⟨z0, z1, z2, z3, z4, z5, z6, z7, z8, z9, z10, z11⟩ := box12 k0
  have y0 := k0.frozen 0
  have y1 := k0.frozen 1
  have y2 := k0.frozen 2
  have y3 := k0.frozen 3
  have y4 := k0.frozen 4
  have y5 := k0.frozen 5
  have y6 := k0.frozen 6
  have y7 := k0.frozen 7
  have y8 := k0.frozen 8
  have y9 := k0.frozen 9
  have y10 := k0.frozen 10
  have y11 := k0.frozen 11
  go_enter Try.func89, Try.ntmps89
  go_wp2_with fail
  go_region_held3 (fun w' => w'.cell? ⟨w.heap.size + 1, 0, none⟩ = some (.int .u8 128) ∧ w'.cell? ⟨w.heap.size + 1, 1, none⟩ = some (.int .u8 op) ∧ w'.cell? ⟨w.heap.size + 1, 2, none⟩ = some (.int .u16 nk) ∧ w'.cell? ⟨w.heap.size + 1, 3, none⟩ = some (.int .u8 nx) ∧ w'.cell? ⟨w.heap.size + 1, 4, none⟩ = some (.int .u8 0) ∧ w'.cell? ⟨w.heap.size + 1, 5, none⟩ = some (.int .u16 0) ∧ w'.cell? ⟨w.heap.size + 1, 6, none⟩ = some (.int .u32 ((nx : Int) + nk + nv)) ∧ w'.cell? ⟨w.heap.size + 1, 7, none⟩ = some (.int .u32 oq) ∧ w'.cell? ⟨w.heap.size + 1, 8, none⟩ = some (.int .u64 0)) (first | (with_reducible exact ⟨p0, p1, p2, p3, p4, p5, p6, p7, p8⟩) | go_keep)
      (first
        | (go_at_call 99
           have ltX := k0.lt
           refine (clone_any X nx cx w.heap.size lx _ (rx.below b) b.size (by omega)).mono ?_
           rintro e wz ⟨AX, cX, rfl, oX, bz⟩
           replace k0 := k0.step bz
           replace k1 := k1.step bz
           replace b := below_step b bz
           try replace oK := Own.step oK bz
           try replace oV := Own.step oV bz
           clear bz p0 p1 p2 p3 p4 p5 p6 p7 p8 z0 z1 z2 z3 z4 z5 z6 z7 z8 z9 z10 z11 y0 y1 y2 y3 y4 y5 y6 y7 y8 y9 y10 y11
           obtain ⟨z0, z1, z2, z3, z4, z5, z6, z7, z8, z9, z10, z11⟩ := box12 k0
           have y0 := k0.frozen 0
           have y1 := k0.frozen 1
           have y2 := k0.frozen 2
           have y3 := k0.frozen 3
           have y4 := k0.frozen 4
           have y5 := k0.frozen 5
           have y6 := k0.frozen 6
           have y7 := k0.frozen 7
           have y8 := k0.frozen 8
           have y9 := k0.frozen 9
           have y10 := k0.frozen 10
           have y11 := k0.frozen 11
           obtain ⟨p0, p1, p2, p3, p4, p5, p6, p7, p8⟩ := box9 k1)
        | (go_at_call 99
           have ltK := k0.lt
           refine (clone_any K nk ck w.heap.size lk _ (rk.below b) b.size (by omega)).mono ?_
           rintro e wz ⟨AK, cK, rfl, oK, bz⟩
           replace k0 := k0.step bz
           replace k1 := k1.step bz
           replace b := below_step b bz
           try replace oX := Own.step oX bz
           try replace oV := Own.step oV bz
           clear bz p0 p1 p2 p3 p4 p5 p6 p7 p8 z0 z1 z2 z3 z4 z5 z6 z7 z8 z9 z10 z11 y0 y1 y2 y3 y4 y5 y6 y7 y8 y9 y10 y11
           obtain ⟨z0, z1, z2, z3, z4, z5, z6, z7, z8, z9, z10, z11⟩ := box12 k0
           have y0 := k0.frozen 0
           have y1 := k0.frozen 1
           have y2 := k0.frozen 2
           have y3 := k0.frozen 3
           have y4 := k0.frozen 4
           have y5 := k0.frozen 5
           have y6 := k0.frozen 6
           have y7 := k0.frozen 7
           have y8 := k0.frozen 8
           have y9 := k0.frozen 9
           have y10 := k0.frozen 10
           have y11 := k0.frozen 11
           obtain ⟨p0, p1, p2, p3, p4, p5, p6, p7, p8⟩ := box9 k1)
        | (go_at_call 99
           have ltV := k0.lt
           refine (clone_any V nv cv w.heap.size lv _ (rv.below b) b.size (by omega)).mono ?_
           rintro e wz ⟨AV, cV, rfl, oV, bz⟩
           replace k0 := k0.step bz
           replace k1 := k1.step bz
           replace b := below_step b bz
           try replace oX := Own.step oX bz
           try replace oK := Own.step oK bz
           clear bz p0 p1 p2 p3 p4 p5 p6 p7 p8 z0 z1 z2 z3 z4 z5 z6 z7 z8 z9 z10 z11 y0 y1 y2 y3 y4 y5 y6 y7 y8 y9 y10 y11
           obtain ⟨z0, z1, z2, z3, z4, z5, z6, z7, z8, z9, z10, z11⟩ := box12 k0
           have y0 := k0.frozen 0
           have y1 := k0.frozen 1
           have y2 := k0.frozen 2
           have y3 := k0.frozen 3
           have y4 := k0.frozen 4
           have y5 := k0.frozen 5
           have y6 := k0.frozen 6
           have y7 := k0.frozen 7
           have y8 := k0.frozen 8
           have y9 := k0.frozen 9
           have y10 := k0.frozen 10
           have y11 := k0.frozen 11
           obtain ⟨p0, p1, p2, p3, p4, p5, p6, p7, p8⟩ := box9 k1))
  all_goals
    have kf := blk_set12 k0 (.int .u8 128) (.int .u8 op) (.int .u16 nk) (.int .u8 nx) (.int .u8 0) (.int .u16 0) (.int .u32 ((nx : Int) + nk + nv)) (.int .u32 oq) (.int .u64 0) (.slice AX nx cX) (.slice AK nk cK) (.slice AV nv cV)
    have hg := grown_set12 wz w.heap.size (.int .u8 128) (.int .u8 op) (.int .u16 nk) (.int .u8 nx) (.int .u8 0) (.int .u16 0) (.int .u32 ((nx : Int) + nk + nv)) (.int .u32 oq) (.int .u64 0) (.slice AX nx cX) (.slice AK nk cK) (.slice AV nv cV)
    have bf := b.trans (below_grown hg (Nat.le_refl _) k0.lt)
    have rX := (oX.kept hg ltX).rd
    have rK := (oK.kept hg ltK).rd
    have rV := (oV.kept hg ltV).rd
    obtain ⟨t0, t1, t2, t3, t4, t5, t6, t7, t8, t9, t10, t11⟩ := box12 kf
    clear hg b k0 k1 oX oK oV p0 p1 p2 p3 p4 p5 p6 p7 p8
    go_wp2_with fail
    refine bodyPost_ret (v := .tuple #[.agg #[.int .u8 128, .int .u8 op, .int .u16 nk, .int .u8 nx, .int .u8 0, .int .u16 0, .int .u32 ((nx : Int) + nk + nv), .int .u32 oq, .int .u64 0, .slice AX nx cX, .slice AK nk cK, .slice AV nv cV], .int .i64 0]) (by simp [results, Try.results89, go_sem, t0, t1, t2, t3, t4, t5, t6, t7, t8, t9, t10, t11]) rfl ?_
    exact ⟨AX, AK, AV, cX, cK, cV, rfl, rX, rK, rV, bf⟩
end
section
open Go.RowKit

def MakeOw (mg op oq : Nat) (nx nk nv : Nat) (lx lk lv : List UInt8) (w : World) (e : Ending) (w' : World) : Prop :=
  ∃ (X K V : Option Addr) (cx ck cv : Nat), e = .returned (.tuple #[frV mg op nk nx 0 0 (nx + nk + nv) oq 0 (.slice X nx cx) (.slice K nk ck) (.slice V nv cv), .int .i64 0]) ∧ Own w' w.heap.size X nx cx lx ∧ Own w' w.heap.size K nk ck lk ∧ Own w' w.heap.size V nv cv lv ∧ Below w.heap.size w w'
set_option maxRecDepth 100000 in
set_option maxHeartbeats 8000000 in
theorem make_Wa (op oq : Nat) (hop : op < 256) (hoq : oq < 4294967296) (X K V : Option Addr) (nx cx nk ck nv cv : Nat) (hl : ¬ tooLong nx nk nv) (lx lk lv : List UInt8) (w : World)
    (rx : Rd w w.heap.size X nx cx lx) (rk : Rd w w.heap.size K nk ck lk) (rv : Rd w w.heap.size V nv cv lv) :
    Calls Try.prog 89 #[.int .u8 128, .int .u8 op, .int .u32 oq, .slice X nx cx, .slice K nk ck, .slice V nv cv] w (MakeOw 128 op oq nx nk nv lx lk lv w) := by
  unfold tooLong at hl
  have a1 : nx ≤ 255 := by omega
  have a2 : nk ≤ 65535 := by omega
  have a3 : nv ≤ 2048 := by omega
  have a4 : nx + nk + nv ≤ 2048 := by omega
  clear hl
  have b : Below w.heap.size w ((w.alloc (.cells #[.int .u8 0, .int .u8 0, .int .u16 0, .int .u8 0, .int .u8 0, .int .u16 0, .int .u32 0, .int .u32 0, .int .u64 0, .slice none 0 0, .slice none 0 0, .slice none 0 0] 61)).alloc (.cells #[.int .u8 128, .int .u8 op, .int .u16 nk, .int .u8 nx, .int .u8 0, .int .u16 0, .int .u32 ((nx : Int) + nk + nv), .int .u32 oq, .int .u64 0] 59)).drew := (below_a1' (below_a1' (Below.refl _ _) _) _).drew
  have k0 : Blk ((w.alloc (.cells #[.int .u8 0, .int .u8 0, .int .u16 0, .int .u8 0, .int .u8 0, .int .u16 0, .int .u32 0, .int .u32 0, .int .u64 0, .slice none 0 0, .slice none 0 0, .slice none 0 0] 61)).alloc (.cells #[.int .u8 128, .int .u8 op, .int .u16 nk, .int .u8 nx, .int .u8 0, .int .u16 0, .int .u32 ((nx : Int) + nk + nv), .int .u32 oq, .int .u64 0] 59)).drew w.heap.size #[.int .u8 0, .int .u8 0, .int .u16 0, .int .u8 0, .int .u8 0, .int .u16 0, .int .u32 0, .int .u32 0, .int .u64 0, .slice none 0 0, .slice none 0 0, .slice none 0 0] 61 := (Blk.new w _ _).alloc _
  have k1 : Blk ((w.alloc (.cells #[.int .u8 0, .int .u8 0, .int .u16 0, .int .u8 0, .int .u8 0, .int .u16 0, .int .u32 0, .int .u32 0, .int .u64 0, .slice none 0 0, .slice none 0 0, .slice none 0 0] 61)).alloc (.cells #[.int .u8 128, .int .u8 op, .int .u16 nk, .int .u8 nx, .int .u8 0, .int .u16 0, .int .u32 ((nx : Int) + nk + nv), .int .u32 oq, .int .u64 0] 59)).drew (w.heap.size + 1) #[.int .u8 128, .int .u8 op, .int .u16 nk, .int .u8 nx, .int .u8 0, .int .u16 0, .int .u32 ((nx : Int) + nk + nv), .int .u32 oq, .int .u64 0] 59 := by
    have := Blk.new (w.alloc (.cells #[.int .u8 0, .int .u8 0, .int .u16 0, .int .u8 0, .int .u8 0, .int .u16 0, .int .u32 0, .int .u32 0, .int .u64 0, .slice none 0 0, .slice none 0 0, .slice none 0 0] 61)) #[.int .u8 128, .int .u8 op, .int .u16 nk, .int .u8 nx, .int .u8 0, .int .u16 0, .int .u32 ((nx : Int) + nk + nv), .int .u32 oq, .int .u64 0] 59
    simp only [World.size_alloc] at this
    exact this
  obtain ⟨p0, p1, p2, p3, p4, p5, p6, p7, p8⟩ := box9 k1
  obtain ⟨z0, z1, z2, z3, z4, z5, z6, z7, z8, z9, z10, z11⟩ := box12 k0
  have y0 := k0.frozen 0
  have y1 := k0.frozen 1
  have y2 := k0.frozen 2
  have y3 := k0.frozen 3
  have y4 := k0.frozen 4
  have y5 := k0.frozen 5
  have y6 := k0.frozen 6
  have y7 := k0.frozen 7
  have y8 := k0.frozen 8
  have y9 := k0.frozen 9
  have y10 := k0.frozen 10
  have y11 := k0.frozen 11
  go_enter Try.func89, Try.ntmps89
  go_wp2_with fail
  go_region_held3 (fun w' => w'.cell? ⟨w.heap.size + 1, 0, none⟩ = some (.int .u8 128) ∧ w'.cell? ⟨w.heap.size + 1, 1, none⟩ = some (.int .u8 op) ∧ w'.cell? ⟨w.heap.size + 1, 2, none⟩ = some (.int .u16 nk) ∧ w'.cell? ⟨w.heap.size + 1, 3, none⟩ = some (.int .u8 nx) ∧ w'.cell? ⟨w.heap.size + 1, 4, none⟩ = some (.int .u8 0) ∧ w'.cell? ⟨w.heap.size + 1, 5, none⟩ = some (.int .u16 0) ∧ w'.cell? ⟨w.heap.size + 1, 6, none⟩ = some (.int .u32 ((nx : Int) + nk + nv)) ∧ w'.cell? ⟨w.heap.size + 1, 7, none⟩ = some (.int .u32 oq) ∧ w'.cell? ⟨w.heap.size + 1, 8, none⟩ = some (.int .u64 0)) (first | (with_reducible exact ⟨p0, p1, p2, p3, p4, p5, p6, p7, p8⟩) | go_keep)
      (first
        | (go_at_call 99
           have ltX := k0.lt
           refine (clone_any X nx cx w.heap.size lx _ (rx.below b) b.size (by omega)).mono ?_
           rintro e wz ⟨AX, cX, rfl, oX, bz⟩
           replace k0 := k0.step bz
           replace k1 := k1.step bz
           replace b := below_step b bz
           try replace oK := Own.step oK bz
           try replace oV := Own.step oV bz
           clear bz p0 p1 p2 p3 p4 p5 p6 p7 p8 z0 z1 z2 z3 z4 z5 z6 z7 z8 z9 z10 z11 y0 y1 y2 y3 y4 y5 y6 y7 y8 y9 y10 y11
           obtain ⟨z0, z1, z2, z3, z4, z5, z6, z7, z8, z9, z10, z11⟩ := box12 k0
           have y0 := k0.frozen 0
           have y1 := k0.frozen 1
           have y2 := k0.frozen 2
           have y3 := k0.frozen 3
           have y4 := k0.frozen 4
           have y5 := k0.frozen 5
           have y6 := k0.frozen 6
           have y7 := k0.frozen 7
           have y8 := k0.frozen 8
           have y9 := k0.frozen 9
           have y10 := k0.frozen 10
           have y11 := k0.frozen 11
           obtain ⟨p0, p1, p2, p3, p4, p5, p6, p7, p8⟩ := box9 k1)
        | (go_at_call 99
           have ltK := k0.lt
           refine (clone_any K nk ck w.heap.size lk _ (rk.below b) b.size (by omega)).mono ?_
           rintro e wz ⟨AK, cK, rfl, oK, bz⟩
           replace k0 := k0.step bz
           replace k1 := k1.step bz
           replace b := below_step b bz
           try replace oX := Own.step oX bz
           try replace oV := Own.step oV bz
           clear bz p0 p1 p2 p3 p4 p5 p6 p7 p8 z0 z1 z2 z3 z4 z5 z6 z7 z8 z9 z10 z11 y0 y1 y2 y3 y4 y5 y6 y7 y8 y9 y10 y11
           obtain ⟨z0, z1, z2, z3, z4, z5, z6, z7, z8, z9, z10, z11⟩ := box12 k0
           have y0 := k0.frozen 0
           have y1 := k0.frozen 1
           have y2 := k0.frozen 2
           have y3 := k0.frozen 3
           have y4 := k0.frozen 4
           have y5 := k0.frozen 5
           have y6 := k0.frozen 6
           have y7 := k0.frozen 7
           have y8 := k0.frozen 8
           have y9 := k0.frozen 9
           have y10 := k0.frozen 10
           have y11 := k0.frozen 11
           obtain ⟨p0, p1, p2, p3, p4, p5, p6, p7, p8⟩ := box9 k1)
        | (go_at_call 99
           have ltV := k0.lt
           refine (clone_any V nv cv w.heap.size lv _ (rv.below b) b.size (by omega)).mono ?_
           rintro e wz ⟨AV, cV, rfl, oV, bz⟩
           replace k0 := k0.step bz
           replace k1 := k1.step bz
           replace b := below_step b bz
           try replace oX := Own.step oX bz
           try replace oK := Own.step oK bz
           clear bz p0 p1 p2 p3 p4 p5 p6 p7 p8 z0 z1 z2 z3 z4 z5 z6 z7 z8 z9 z10 z11 y0 y1 y2 y3 y4 y5 y6 y7 y8 y9 y10 y11
           obtain ⟨z0, z1, z2, z3, z4, z5, z6, z7, z8, z9, z10, z11⟩ := box12 k0
           have y0 := k0.frozen 0
           have y1 := k0.frozen 1
           have y2 := k0.frozen 2
           have y3 := k0.frozen 3
           have y4 := k0.frozen 4
           have y5 := k0.frozen 5
           have y6 := k0.frozen 6
           have y7 := k0.frozen 7
           have y8 := k0.frozen 8
           have y9 := k0.frozen 9
           have y10 := k0.frozen 10
           have y11 := k0.frozen 11
           obtain ⟨p0, p1, p2, p3, p4, p5, p6, p7, p8⟩ := box9 k1))
  all_goals
    have kf := blk_set12 k0 (.int .u8 128) (.int .u8 op) (.int .u16 nk) (.int .u8 nx) (.int .u8 0) (.int .u16 0) (.int .u32 ((nx : Int) + nk + nv)) (.int .u32 oq) (.int .u64 0) (.slice AX nx cX) (.slice AK nk cK) (.slice AV nv cV)
    have hg := grown_set12 wz w.heap.size (.int .u8 128) (.int .u8 op) (.int .u16 nk) (.int .u8 nx) (.int .u8 0) (.int .u16 0) (.int .u32 ((nx : Int) + nk + nv)) (.int .u32 oq) (.int .u64 0) (.slice AX nx cX) (.slice AK nk cK) (.slice AV nv cV)
    have bf := b.trans (below_grown hg (Nat.le_refl _) k0.lt)
    have rX := (oX.kept hg ltX).more (Nat.le_of_lt ltX)
    have rK := (oK.kept hg ltK).more (Nat.le_of_lt ltK)
    have rV := (oV.kept hg ltV).more (Nat.le_of_lt ltV)
    obtain ⟨t0, t1, t2, t3, t4, t5, t6, t7, t8, t9, t10, t11⟩ := box12 kf
    clear hg b k0 k1 oX oK oV p0 p1 p2 p3 p4 p5 p6 p7 p8
    go_wp2_with fail
    refine bodyPost_ret (v := .tuple #[.agg #[.int .u8 128, .int .u8 op, .int .u16 nk, .int .u8 nx, .int .u8 0, .int .u16 0, .int .u32 ((nx : Int) + nk + nv), .int .u32 oq, .int .u64 0, .slice AX nx cX, .slice AK nk cK, .slice AV nv cV], .int .i64 0]) (by simp [results, Try.results89, go_sem, t0, t1, t2, t3, t4, t5, t6, t7, t8, t9, t10, t11]) rfl ?_
    exact ⟨AX, AK, AV, cX, cK, cV, rfl, rX, rK, rV, bf⟩
set_option maxRecDepth 100000 in
set_option maxHeartbeats 8000000 in
theorem make_Wb (op oq : Nat) (hop : op < 256) (hoq : oq < 4294967296) (X K V : Option Addr) (nx cx nk ck nv cv : Nat) (hl : ¬ tooLong nx nk nv) (lx lk lv : List UInt8) (w : World)
    (rx : Rd w w.heap.size X nx cx lx) (rk : Rd w w.heap.size K nk ck lk) (rv : Rd w w.heap.size V nv cv lv) :
    Calls Try.prog 89 #[.int .u8 129, .int .u8 op, .int .u32 oq, .slice X nx cx, .slice K nk ck, .slice V nv cv] w (MakeOw 129 op oq nx nk nv lx lk lv w) := by
  unfold tooLong at hl
  have a1 : nx ≤ 255 := by omega
  have a2 : nk ≤ 65535 := by omega
  have a3 : nv ≤ 2048 := by omega
  have a4 : nx + nk + nv ≤ 2048 := by omega
  clear hl
  have b : Below w.heap.size w ((w.alloc (.cells #[.int .u8 0, .int .u8 0, .int .u16 0, .int .u8 0, .int .u8 0, .int .u16 0, .int .u32 0, .int .u32 0, .int .u64 0, .slice none 0 0, .slice none 0 0, .slice none 0 0] 61)).alloc (.cells #[.int .u8 129, .int .u8 op, .int .u16 nk, .int .u8 nx, .int .u8 0, .int .u16 0, .int .u32 ((nx : Int) + nk + nv), .int .u32 oq, .int .u64 0] 59)).drew := (below_a1' (below_a1' (Below.refl _ _) _) _).drew
  have k0 : Blk ((w.alloc (.cells #[.int .u8 0, .int .u8 0, .int .u16 0, .int .u8 0, .int .u8 0, .int .u16 0, .int .u32 0, .int .u32 0, .int .u64 0, .slice none 0 0, .slice none 0 0, .slice none 0 0] 61)).alloc (.cells #[.int .u8 129, .int .u8 op, .int .u16 nk, .int .u8 nx, .int .u8 0, .int .u16 0, .int .u32 ((nx : Int) + nk + nv), .int .u32 oq, .int .u64 0] 59)).drew w.heap.size #[.int .u8 0, .int .u8 0, .int .u16 0, .int .u8 0, .int .u8 0, .int .u16 0, .int .u32 0, .int .u32 0, .int .u64 0, .slice none 0 0, .slice none 0 0, .slice none 0 0] 61 := (Blk.new w _ _).alloc _
  have k1 : Blk ((w.alloc (.cells #[.int .u8 0, .int .u8 0, .int .u16 0, .int .u8 0, .int .u8 0, .int .u16 0, .int .u32 0, .int .u32 0, .int .u64 0, .slice none 0 0, .slice none 0 0, .slice none 0 0] 61)).alloc (.cells #[.int .u8 129, .int .u8 op, .int .u16 nk, .int .u8 nx, .int .u8 0, .int .u16 0, .int .u32 ((nx : Int) + nk + nv), .int .u32 oq, .int .u64 0] 59)).drew (w.heap.size + 1) #[.int .u8 129, .int .u8 op, .int .u16 nk, .int .u8 nx, .int .u8 0, .int .u16 0, .int .u32 ((nx : Int) + nk + nv), .int .u32 oq, .int .u64 0] 59 := by
    have := Blk.new (w.alloc (.cells #[.int .u8 0, .int .u8 0, .int .u16 0, .int .u8 0, .int .u8 0, .int .u16 0, .int .u32 0, .int .u32 0, .int .u64 0, .slice none 0 0, .slice none 0 0, .slice none 0 0] 61)) #[.int .u8 129, .int .u8 op, .int .u16 nk, .int .u8 nx, .int .u8 0, .int .u16 0, .int .u32 ((nx : Int) + nk + nv), .int .u32 oq, .int .u64 0] 59
    simp only [World.size_alloc] at this
    exact this
  obtain ⟨p0, p1, p2, p3, p4, p5, p6, p7, p8⟩ := box9 k1
  obtain ⟨z0, z1, z2, z3, z4, z5, z6, z7, z8, z9, z10, z11⟩ := box12 k0
  have y0 := k0.frozen 0
  have y1 := k0.frozen 1
  have y2 := k0.frozen 2
  have y3 := k0.frozen 3
  have y4 := k0.frozen 4
  have y5 := k0.frozen 5
  have y6 := k0.frozen 6
  have y7 := k0.frozen 7
  have y8 := k0.frozen 8
  have y9 := k0.frozen 9
  have y10 := k0.frozen 10
  have y11 := k0.frozen 11
  go_enter Try.func89, Try.ntmps89
  go_wp2_with fail
  go_region_held3 (fun w' => w'.cell? ⟨w.heap.size + 1, 0, none⟩ = some (.int .u8 129) ∧ w'.cell? ⟨w.heap.size + 1, 1, none⟩ = some (.int .u8 op) ∧ w'.cell? ⟨w.heap.size + 1, 2, none⟩ = some (.int .u16 nk) ∧ w'.cell? ⟨w.heap.size + 1, 3, none⟩ = some (.int .u8 nx) ∧ w'.cell? ⟨w.heap.size + 1, 4, none⟩ = some (.int .u8 0) ∧ w'.cell? ⟨w.heap.size + 1, 5, none⟩ = some (.int .u16 0) ∧ w'.cell? ⟨w.heap.size + 1, 6, none⟩ = some (.int .u32 ((nx : Int) + nk + nv)) ∧ w'.cell? ⟨w.heap.size + 1, 7, none⟩ = some (.int .u32 oq) ∧ w'.cell? ⟨w.heap.size + 1, 8, none⟩ = some (.int .u64 0)) (first | (with_reducible exact ⟨p0, p1, p2, p3, p4, p5, p6, p7, p8⟩) | go_keep)
      (first
        | (go_at_call 99
           have ltX := k0.lt
           refine (clone_any X nx cx w.heap.size lx _ (rx.below b) b.size (by omega)).mono ?_
           rintro e wz ⟨AX, cX, rfl, oX, bz⟩
           replace k0 := k0.step bz
           replace k1 := k1.step bz
           replace b := below_step b bz
           try replace oK := Own.step oK bz
           try replace oV := Own.step oV bz
           clear bz p0 p1 p2 p3 p4 p5 p6 p7 p8 z0 z1 z2 z3 z4 z5 z6 z7 z8 z9 z10 z11 y0 y1 y2 y3 y4 y5 y6 y7 y8 y9 y10 y11
           obtain ⟨z0, z1, z2, z3, z4, z5, z6, z7, z8, z9, z10, z11⟩ := box12 k0
           have y0 := k0.frozen 0
           have y1 := k0.frozen 1
           have y2 := k0.frozen 2
           have y3 := k0.frozen 3
           have y4 := k0.frozen 4
           have y5 := k0.frozen 5
           have y6 := k0.frozen 6
           have y7 := k0.frozen 7
           have y8 := k0.frozen 8
           have y9 := k0.frozen 9
           have y10 := k0.frozen 10
           have y11 := k0.frozen 11
           obtain ⟨p0, p1, p2, p3, p4, p5, p6, p7, p8⟩ := box9 k1)
        | (go_at_call 99
           have ltK := k0.lt
           refine (clone_any K nk ck w.heap.size lk _ (rk.below b) b.size (by omega)).mono ?_
           rintro e wz ⟨AK, cK, rfl, oK, bz⟩
           replace k0 := k0.step bz
           replace k1 := k1.step bz
           replace b := below_step b bz
           try replace oX := Own.step oX bz
           try replace oV := Own.step oV bz
           clear bz p0 p1 p2 p3 p4 p5 p6 p7 p8 z0 z1 z2 z3 z4 z5 z6 z7 z8 z9 z10 z11 y0 y1 y2 y3 y4 y5 y6 y7 y8 y9 y10 y11
           obtain ⟨z0, z1, z2, z3, z4, z5, z6, z7, z8, z9, z10, z11⟩ := box12 k0
           have y0 := k0.frozen 0
           have y1 := k0.frozen 1
           have y2 := k0.frozen 2
           have y3 := k0.frozen 3
           have y4 := k0.frozen 4
           have y5 := k0.frozen 5
           have y6 := k0.frozen 6
           have y7 := k0.frozen 7
           have y8 := k0.frozen 8
           have y9 := k0.frozen 9
           have y10 := k0.frozen 10
           have y11 := k0.frozen 11
           obtain ⟨p0, p1, p2, p3, p4, p5, p6, p7, p8⟩ := box9 k1)
        | (go_at_call 99
           have ltV := k0.lt
           refine (clone_any V nv cv w.heap.size lv _ (rv.below b) b.size (by omega)).mono ?_
           rintro e wz ⟨AV, cV, rfl, oV, bz⟩
           replace k0 := k0.step bz
           replace k1 := k1.step bz
           replace b := below_step b bz
           try replace oX := Own.step oX bz
           try replace oK := Own.step oK bz
           clear bz p0 p1 p2 p3 p4 p5 p6 p7 p8 z0 z1 z2 z3 z4 z5 z6 z7 z8 z9 z10 z11 y0 y1 y2 y3 y4 y5 y6 y7 y8 y9 y10 y11
           obtain ⟨z0, z1, z2, z3, z4, z5, z6, z7, z8, z9, z10, z11⟩ := box12 k0
           have y0 := k0.frozen 0
           have y1 := k0.frozen 1
           have y2 := k0.frozen 2
           have y3 := k0.frozen 3
           have y4 := k0.frozen 4
           have y5 := k0.frozen 5
           have y6 := k0.frozen 6
           have y7 := k0.frozen 7
           have y8 := k0.frozen 8
           have y9 := k0.frozen 9
           have y10 := k0.frozen 10
           have y11 := k0.frozen 11
           obtain ⟨p0, p1, p2, p3, p4, p5, p6, p7, p8⟩ := box9 k1))
  all_goals
    have kf := blk_set12 k0 (.int .u8 129) (.int .u8 op) (.int .u16 nk) (.int .u8 nx) (.int .u8 0) (.int .u16 0) (.int .u32 ((nx : Int) + nk + nv)) (.int .u32 oq) (.int .u64 0) (.slice AX nx cX) (.slice AK nk cK) (.slice AV nv cV)
    have hg := grown_set12 wz w.heap.size (.int .u8 129) (.int .u8 op) (.int .u16 nk) (.int .u8 nx) (.int .u8 0) (.int .u16 0) (.int .u32 ((nx : Int) + nk + nv)) (.int .u32 oq) (.int .u64 0) (.slice AX nx cX) (.slice AK nk cK) (.slice AV nv cV)
    have bf := b.trans (below_grown hg (Nat.le_refl _) k0.lt)
    have rX := (oX.kept hg ltX).more (Nat.le_of_lt ltX)
    have rK := (oK.kept hg ltK).more (Nat.le_of_lt ltK)
    have rV := (oV.kept hg ltV).more (Nat.le_of_lt ltV)
    obtain ⟨t0, t1, t2, t3, t4, t5, t6, t7, t8, t9, t10, t11⟩ := box12 kf
    clear hg b k0 k1 oX oK oV p0 p1 p2 p3 p4 p5 p6 p7 p8
    go_wp2_with fail
    refine bodyPost_ret (v := .tuple #[.agg #[.int .u8 129, .int .u8 op, .int .u16 nk, .int .u8 nx, .int .u8 0, .int .u16 0, .int .u32 ((nx : Int) + nk + nv), .int .u32 oq, .int .u64 0, .slice AX nx cX, .slice AK nk cK, .slice AV nv cV], .int .i64 0]) (by simp [results, Try.results89, go_sem, t0, t1, t2, t3, t4, t5, t6, t7, t8, t9, t10, t11]) rfl ?_
    exact ⟨AX, AK, AV, cX, cK, cV, rfl, rX, rK, rV, bf⟩
end
section
open Go.RowKit

set_option maxRecDepth 100000 in
set_option maxHeartbeats 8000000 in
theorem make_Ob (op oq : Nat) (hop : op < 256) (hoq : oq < 4294967296) (X K V : Option Addr) (nx cx nk ck nv cv : Nat) (hl : ¬ tooLong nx nk nv) (lx lk lv : List UInt8) (w : World)
    (rx : Rd w w.heap.size X nx cx lx) (rk : Rd w w.heap.size K nk ck lk) (rv : Rd w w.heap.size V nv cv lv) :
    Calls Try.prog 89 #[.int .u8 129, .int .u8 op, .int .u32 oq, .slice X nx cx, .slice K nk ck, .slice V nv cv] w (MakeOk 129 op oq nx nk nv lx lk lv w) := by
  unfold tooLong at hl
  have a1 : nx ≤ 255 := by omega
  have a2 : nk ≤ 65535 := by omega
  have a3 : nv ≤ 2048 := by omega
  have a4 : nx + nk + nv ≤ 2048 := by omega
  clear hl
  have b : Below w.heap.size w ((w.alloc (.cells #[.int .u8 0, .int .u8 0, .int .u16 0, .int .u8 0, .int .u8 0, .int .u16 0, .int .u32 0, .int .u32 0, .int .u64 0, .slice none 0 0, .slice none 0 0, .slice none 0 0] 61)).alloc (.cells #[.int .u8 129, .int .u8 op, .int .u16 nk, .int .u8 nx, .int .u8 0, .int .u16 0, .int .u32 ((nx : Int) + nk + nv), .int .u32 oq, .int .u64 0] 59)).drew := (below_a1' (below_a1' (Below.refl _ _) _) _).drew
  have k0 : Blk ((w.alloc (.cells #[.int .u8 0, .int .u8 0, .int .u16 0, .int .u8 0, .int .u8 0, .int .u16 0, .int .u32 0, .int .u32 0, .int .u64 0, .slice none 0 0, .slice none 0 0, .slice none 0 0] 61)).alloc (.cells #[.int .u8 129, .int .u8 op, .int .u16 nk, .int .u8 nx, .int .u8 0, .int .u16 0, .int .u32 ((nx : Int) + nk + nv), .int .u32 oq, .int .u64 0] 59)).drew w.heap.size #[.int .u8 0, .int .u8 0, .int .u16 0, .int .u8 0, .int .u8 0, .int .u16 0, .int .u32 0, .int .u32 0, .int .u64 0, .slice none 0 0, .slice none 0 0, .slice none 0 0] 61 := (Blk.new w _ _).alloc _
  have k1 : Blk ((w.alloc (.cells #[.int .u8 0, .int .u8 0, .int .u16 0, .int .u8 0, .int .u8 0, .int .u16 0, .int .u32 0, .int .u32 0, .int .u64 0, .slice none 0 0, .slice none 0 0, .slice none 0 0] 61)).alloc (.cells #[.int .u8 129, .int .u8 op, .int .u16 nk, .int .u8 nx, .int .u8 0, .int .u16 0, .int .u32 ((nx : Int) + nk + nv), .int .u32 oq, .int .u64 0] 59)).drew (w.heap.size + 1) #[.int .u8 129, .int .u8 op, .int .u16 nk, .int .u8 nx, .int .u8 0, .int .u16 0, .int .u32 ((nx : Int) + nk + nv), .int .u32 oq, .int .u64 0] 59 := by
    have := Blk.new (w.alloc (.cells #[.int .u8 0, .int .u8 0, .int .u16 0, .int .u8 0, .int .u8 0, .int .u16 0, .int .u32 0, .int .u32 0, .int .u64 0, .slice none 0 0, .slice none 0 0, .slice none 0 0] 61)) #[.int .u8 129, .int .u8 op, .int .u16 nk, .int .u8 nx, .int .u8 0, .int .u16 0, .int .u32 ((nx : Int) + nk + nv), .int .u32 oq, .int .u64 0] 59
    simp only [World.size_alloc] at this
    exact this
  obtain ⟨p0, p1, p2, p3, p4, p5, p6, p7, p8⟩ := box9 k1
  obtain ⟨z0, z1, z2, z3, z4, z5, z6, z7, z8, z9, z10, z11⟩ := box12 k0
  have y0 := k0.frozen 0
  have y1 := k0.frozen 1
  have y2 := k0.frozen 2
  have y3 := k0.frozen 3
  have y4 := k0.frozen 4
  have y5 := k0.frozen 5
  have y6 := k0.frozen 6
  have y7 := k0.frozen 7
  have y8 := k0.frozen 8
  have y9 := k0.frozen 9
  have y10 := k0.frozen 10
  have y11 := k0.frozen 11
  go_enter Try.func89, Try.ntmps89
  go_wp2_with fail
  go_region_held3 (fun w' => w'.cell? ⟨w.heap.size + 1, 0, none⟩ = some (.int .u8 129) ∧ w'.cell? ⟨w.heap.size + 1, 1, none⟩ = some (.int .u8 op) ∧ w'.cell? ⟨w.heap.size + 1, 2, none⟩ = some (.int .u16 nk) ∧ w'.cell? ⟨w.heap.size + 1, 3, none⟩ = some (.int .u8 nx) ∧ w'.cell? ⟨w.heap.size + 1, 4, none⟩ = some (.int .u8 0) ∧ w'.cell? ⟨w.heap.size + 1, 5, none⟩ = some (.int .u16 0) ∧ w'.cell? ⟨w.heap.size + 1, 6, none⟩ = some (.int .u32 ((nx : Int) + nk + nv)) ∧ w'.cell? ⟨w.heap.size + 1, 7, none⟩ = some (.int .u32 oq) ∧ w'.cell? ⟨w.heap.size + 1, 8, none⟩ = some (.int .u64 0)) (first | (with_reducible exact ⟨p0, p1, p2, p3, p4, p5, p6, p7, p8⟩) | go_keep)
      (first
        | (go_at_call 99
           have ltX := k0.lt
           refine (clone_any X nx cx w.heap.size lx _ (rx.below b) b.size (by omega)).mono ?_
           rintro e wz ⟨AX, cX, rfl, oX, bz⟩
           replace k0 := k0.step bz
           replace k1 := k1.step bz
           replace b := below_step b bz
           try replace oK := Own.step oK bz
           try replace oV := Own.step oV bz
           clear bz p0 p1 p2 p3 p4 p5 p6 p7 p8 z0 z1 z2 z3 z4 z5 z6 z7 z8 z9 z10 z11 y0 y1 y2 y3 y4 y5 y6 y7 y8 y9 y10 y11
           obtain ⟨z0, z1, z2, z3, z4, z5, z6, z7, z8, z9, z10, z11⟩ := box12 k0
           have y0 := k0.frozen 0
           have y1 := k0.frozen 1
           have y2 := k0.frozen 2
           have y3 := k0.frozen 3
           have y4 := k0.frozen 4
           have y5 := k0.frozen 5
           have y6 := k0.frozen 6
           have y7 := k0.frozen 7
           have y8 := k0.frozen 8
           have y9 := k0.frozen 9
           have y10 := k0.frozen 10
           have y11 := k0.frozen 11
           obtain ⟨p0, p1, p2, p3, p4, p5, p6, p7, p8⟩ := box9 k1)
        | (go_at_call 99
           have ltK := k0.lt
           refine (clone_any K nk ck w.heap.size lk _ (rk.below b) b.size (by omega)).mono ?_
           rintro e wz ⟨AK, cK, rfl, oK, bz⟩
           replace k0 := k0.step bz
           replace k1 := k1.step bz
           replace b := below_step b bz
           try replace oX := Own.step oX bz
           try replace oV := Own.step oV bz
           clear bz p0 p1 p2 p3 p4 p5 p6 p7 p8 z0 z1 z2 z3 z4 z5 z6 z7 z8 z9 z10 z11 y0 y1 y2 y3 y4 y5 y6 y7 y8 y9 y10 y11
           obtain ⟨z0, z1, z2, z3, z4, z5, z6, z7, z8, z9, z10, z11⟩ := box12 k0
           have y0 := k0.frozen 0
           have y1 := k0.frozen 1
           have y2 := k0.frozen 2
           have y3 := k0.frozen 3
           have y4 := k0.frozen 4
           have y5 := k0.frozen 5
           have y6 := k0.frozen 6
           have y7 := k0.frozen 7
           have y8 := k0.frozen 8
           have y9 := k0.frozen 9
           have y10 := k0.frozen 10
           have y11 := k0.frozen 11
           obtain ⟨p0, p1, p2, p3, p4, p5, p6, p7, p8⟩ := box9 k1)
        | (go_at_call 99
           have ltV := k0.lt
           refine (clone_any V nv cv w.heap.size lv _ (rv.below b) b.size (by omega)).mono ?_
           rintro e wz ⟨AV, cV, rfl, oV, bz⟩
           replace k0 := k0.step bz
           replace k1 := k1.step bz
           replace b := below_step b bz
           try replace oX := Own.step oX bz
           try replace oK := Own.step oK bz
           clear bz p0 p1 p2 p3 p4 p5 p6 p7 p8 z0 z1 z2 z3 z4 z5 z6 z7 z8 z9 z10 z11 y0 y1 y2 y3 y4 y5 y6 y7 y8 y9 y10 y11
           obtain ⟨z0, z1, z2, z3, z4, z5, z6, z7, z8, z9, z10, z11⟩ := box12 k0
           have y0 := k0.frozen 0
           have y1 := k0.frozen 1
           have y2 := k0.frozen 2
           have y3 := k0.frozen 3
           have y4 := k0.frozen 4
           have y5 := k0.frozen 5
           have y6 := k0.frozen 6
           have y7 := k0.frozen 7
           have y8 := k0.frozen 8
           have y9 := k0.frozen 9
           have y10 := k0.frozen 10
           have y11 := k0.frozen 11
           obtain ⟨p0, p1, p2, p3, p4, p5, p6, p7, p8⟩ := box9 k1))
  all_goals
    have kf := blk_set12 k0 (.int .u8 129) (.int .u8 op) (.int .u16 nk) (.int .u8 nx) (.int .u8 0) (.int .u16 0) (.int .u32 ((nx : Int) + nk + nv)) (.int .u32 oq) (.int .u64 0) (.slice AX nx cX) (.slice AK nk cK) (.slice AV nv cV)
    have hg := grown_set12 wz w.heap.size (.int .u8 129) (.int .u8 op) (.int .u16 nk) (.int .u8 nx) (.int .u8 0) (.int .u16 0) (.int .u32 ((nx : Int) + nk + nv)) (.int .u32 oq) (.int .u64 0) (.slice AX nx cX) (.slice AK nk cK) (.slice AV nv cV)
    have bf := b.trans (below_grown hg (Nat.le_refl _) k0.lt)
    have rX := (oX.kept hg ltX).rd
    have rK := (oK.kept hg ltK).rd
    have rV := (oV.kept hg ltV).rd
    obtain ⟨t0, t1, t2, t3, t4, t5, t6, t7, t8, t9, t10, t11⟩ := box12 kf
    clear hg b k0 k1 oX oK oV p0 p1 p2 p3 p4 p5 p6 p7 p8
    go_wp2_with fail
    refine bodyPost_ret (v := .tuple #[.agg #[.int .u8 129, .int .u8 op, .int .u16 nk, .int .u8 nx, .int .u8 0, .int .u16 0, .int .u32 ((nx : Int) + nk + nv), .int .u32 oq, .int .u64 0, .slice AX nx cX, .slice AK nk cK, .slice AV nv cV], .int .i64 0]) (by simp [results, Try.results89, go_sem, t0, t1, t2, t3, t4, t5, t6, t7, t8, t9, t10, t11]) rfl ?_
    exact ⟨AX, AK, AV, cX, cK, cV, rfl, rX, rK, rV, bf⟩
end
section
open Go.ChangeShapes Go.WideShapes Go.ChangeAt Go.RowKit

theorem eqB_rfl (l : List UInt8) : eqB l l = true := decide_eq_true rfl
theorem Blk.drewN {w : World} {g : Nat} {cs : Array Value} {T : TypeId} (h : Blk w g cs T) (q : Nat) : Blk (w.drewN q) g cs T := h
set_option maxRecDepth 100000 in
set_option maxHeartbeats 2000000 in
theorem fsame_yes (mg op kl el ty st bl oq cas : Nat) (X K V X' K' V' : Option Addr) (nx cx nk ck nv cv nx' cx' nk' ck' nv' cv' : Nat) (lx lk lv : List UInt8) (w : World)
    (rx : Rd w w.heap.size X nx cx lx) (rk : Rd w w.heap.size K nk ck lk) (rv : Rd w w.heap.size V nv cv lv) (rx' : Rd w w.heap.size X' nx' cx' lx) (rk' : Rd w w.heap.size K' nk' ck' lk) (rv' : Rd w w.heap.size V' nv' cv' lv) :
    Calls Try.prog 47 #[frV mg op kl el ty st bl oq cas (.slice X nx cx) (.slice K nk ck) (.slice V nv cv), frV mg op kl el ty st bl oq cas (.slice X' nx' cx') (.slice K' nk' ck') (.slice V' nv' cv')] w (BoxQ (.bool true) w) := by
  have k0 : Blk _ _ (frC mg op kl el ty st bl oq cas (.slice X nx cx) (.slice K nk ck) (.slice V nv cv)) _ := Blk.new w _ 61
  have k1 := Blk.new (w.alloc (.cells (frC mg op kl el ty st bl oq cas (.slice X nx cx) (.slice K nk ck) (.slice V nv cv)) 61)) (frC mg op kl el ty st bl oq cas (.slice X' nx' cx') (.slice K' nk' ck') (.slice V' nv' cv')) 61
  have b : Below w.heap.size w ((w.alloc (.cells (frC mg op kl el ty st bl oq cas (.slice X nx cx) (.slice K nk ck) (.slice V nv cv)) 61)).alloc (.cells (frC mg op kl el ty st bl oq cas (.slice X' nx' cx') (.slice K' nk' ck') (.slice V' nv' cv')) 61)) := below_a1' (below_a1' (Below.refl _ _) _) _
  replace k0 := k0.alloc (.cells (frC mg op kl el ty st bl oq cas (.slice X' nx' cx') (.slice K' nk' ck') (.slice V' nv' cv')) 61)
  simp only [World.size_alloc] at k1
  unfold frV
  unfold frC at *
  go_enter Try.func47, Try.ntmps47
  go_wp2_with fail
  refine (same_any X X' nx cx nx' cx' w.heap.size lx lx _ (rx.below b) (rx'.below b)).mono ?_
  rintro e w1 ⟨rfl, hq⟩
  have bq := quiet_self hq
  clear hq
  replace k0 := k0.step bq
  replace k1 := k1.step bq
  replace b := below_step b bq
  clear bq
  obtain ⟨z0, z1, z2, z3, z4, z5, z6, z7, z8, z9, z10, z11⟩ := box12 k0
  obtain ⟨y0, y1, y2, y3, y4, y5, y6, y7, y8, y9, y10, y11⟩ := box12 k1
  rw [eqB_rfl]
  go_wp2_with fail
  refine (same_any K K' nk ck nk' ck' w.heap.size lk lk _ (rk.below b) (rk'.below b)).mono ?_
  rintro e w2 ⟨rfl, hq⟩
  have bq := quiet_self hq
  clear hq z0 z1 z2 z3 z4 z5 z6 z7 z8 z9 z10 z11 y0 y1 y2 y3 y4 y5 y6 y7 y8 y9 y10 y11
  replace k0 := k0.step bq
  replace k1 := k1.step bq
  replace b := below_step b bq
  clear bq
  obtain ⟨z0, z1, z2, z3, z4, z5, z6, z7, z8, z9, z10, z11⟩ := box12 k0
  obtain ⟨y0, y1, y2, y3, y4, y5, y6, y7, y8, y9, y10, y11⟩ := box12 k1
  rw [eqB_rfl]
  go_wp2_with fail
  refine (same_any V V' nv cv nv' cv' w.heap.size lv lv _ (rv.below b) (rv'.below b)).mono ?_
  rintro e w3 ⟨rfl, hq⟩
  have bq := quiet_self hq
  replace b := below_step b bq
  rw [eqB_rfl]
  clear hq bq
  go_wp2_with fail
  go_ret
  exact ⟨rfl, b⟩

section
variable {H : Type} {enc : TypeId × Value → H} {W : World}
def mdV (mg op oq : Nat) (X K V : Value) : Value := .agg #[.int .u8 mg, .int .u8 op, .int .u32 oq, X, K, V]
def Mad (W : World) (mg op oq : Nat) (AX : Option Addr) (nx cx : Nat) (lx : List UInt8) (AK : Option Addr) (nk ck : Nat) (lk : List UInt8) (AV : Option Addr) (nv cv : Nat) (lv : List UInt8) : Prop :=
  mg < 256 ∧ op < 256 ∧ oq < 4294967296 ∧ Rd W W.heap.size AX nx cx lx ∧ Rd W W.heap.size AK nk ck lk ∧ Rd W W.heap.size AV nv cv lv
end

theorem own_row {w : World} {B n c : Nat} {A : Option Addr} {l : List UInt8} (h : Own w B A (n + 1) c l) : ∃ k, A = some ⟨k, 0, none⟩ ∧ B ≤ k ∧ k < w.heap.size := by
  rcases h.2 with ⟨hv, h0⟩ | ⟨g, cap, cur, hv, hg, hh, r⟩
  · omega
  · injection hv with e1
    exact ⟨g, e1, hg, (Array.getElem?_eq_some_iff.1 hh).1⟩
theorem rd_const (w : World) (y : UInt8) : Rd (w.alloc (.cells #[.int .u8 (y.toNat : Int)] 5 (1, 2))) (w.alloc (.cells #[.int .u8 (y.toNat : Int)] 5 (1, 2))).heap.size (some ⟨w.heap.size, 0, none⟩) 1 1 [y] := by
  refine ⟨rfl, Nat.le_refl _, by simp [maxLen], (fun h => by cases h), fun ad hA _ => by injection hA with h; subst h; simp, fun ad i u hA hu => ?_⟩
  injection hA with h
  subst h
  have hi : i = 0 := by
    have := (List.getElem?_eq_some_iff.1 hu).1
    simp [cbs] at this; omega
  subst hi
  have := cell_of_row (w.alloc (.cells #[.int .u8 (y.toNat : Int)] 5 (1, 2))) w.heap.size 0 _ _ (1, 2) (heap_alloc_new w _)
  rw [show (⟨w.heap.size, 0, none⟩ : Addr).add 0 = ⟨w.heap.size, 0, none⟩ from rfl, this]
  simpa [cbs, cb] using hu
end
section
open Go.RowKit

set_option maxRecDepth 100000 in
set_option maxHeartbeats 4000000 in
theorem header19_any (mg op kl el ty st bl oq cas : Nat) (hf : HdF mg op kl el ty st bl oq cas) (w : World) :
    Calls Try.prog 117 #[hdV mg op kl el ty st bl oq cas] w (BytesQ 24 (hdB mg op kl el ty st bl oq cas) w) := by
  obtain ⟨f0, f1, f2, f3, f4, f5, f6, f7, f8⟩ := hf
  have k0 : Blk _ _ (hdC mg op kl el ty st bl oq cas) _ := Blk.new w _ 59
  have bd : Below w.heap.size w (w.alloc (.cells (hdC mg op kl el ty st bl oq cas) 59)).drew := (below_a1' (Below.refl _ _) _).drew
  have ba : Below w.heap.size w ((w.alloc (.cells (hdC mg op kl el ty st bl oq cas) 59)).alloc (.cells #[.int .u8 (mg : Int), .int .u8 (op : Int)] 5)).drew := (below_a1' (below_a1' (Below.refl _ _) _) _).drew
  have o1a : Own ((w.alloc (.cells (hdC mg op kl el ty st bl oq cas) 59)).alloc (.cells #[.int .u8 (mg : Int), .int .u8 (op : Int)] 5)).drew 0 (some ⟨w.heap.size + 1, 0, none⟩) 2 2 [UInt8.ofNat mg, UInt8.ofNat op] := own_two f0 f1 0 _ (by simp) (by omega)
  have k0a : Blk ((w.alloc (.cells (hdC mg op kl el ty st bl oq cas) 59)).alloc (.cells #[.int .u8 (mg : Int), .int .u8 (op : Int)] 5)).drew w.heap.size (hdC mg op kl el ty st bl oq cas) 59 := k0.alloc _
  replace k0 : Blk (w.alloc (.cells (hdC mg op kl el ty st bl oq cas) 59)).drew w.heap.size (hdC mg op kl el ty st bl oq cas) 59 := k0
  unfold hdC at bd ba o1a k0a k0
  unfold hdV
  go_enter Try.func117, Try.ntmps117
  go_upto_region 1 with fail
  go_cut [3] (fun s wx => ∃ (A3 : Option Addr) (c3 : Nat), s = .slice A3 4 c3 ∧ Own wx w.heap.size A3 4 c3 ([UInt8.ofNat mg, UInt8.ofNat op] ++ highB kl 2) ∧ Blk wx w.heap.size (hdC mg op kl el ty st bl oq cas) 59 ∧ Below w.heap.size w wx)
  case first =>
    obtain ⟨q0, q1, q2, q3, q4, q5, q6, q7, q8⟩ := box9 k0
    have hw : IntKind.u64.wrap (kl : Int) = (kl : Int) := by rw [IntKind.wrap_u64]; omega
    have hw2 : (kl : Int) % 18446744073709551616 = (kl : Int) := by omega
    go_region_held3 (fun w' => w'.cell? ⟨w.heap.size, 0, none⟩ = some (.int .u8 mg) ∧ w'.cell? ⟨w.heap.size, 1, none⟩ = some (.int .u8 op) ∧ w'.cell? ⟨w.heap.size, 2, none⟩ = some (.int .u16 kl)) (first | (with_reducible exact ⟨q0, q1, q2⟩) | go_keep)
      (first
        | (go_at_call 81
           (first | rw [hw] | rw [hw2] | skip)
           refine (high_any kl 2 (by omega) (by omega) _).mono ?_
           rintro e w2 ⟨A2, c2, rfl, o2, b2⟩
           first
             | (have b := by with_reducible exact below_step ba b2
                have k1 := k0a.step b2
                have o1 := o1a.rd.step b2)
             | (have b := by with_reducible exact below_step bd b2
                have k1 := k0.step b2)
           clear q0 q1 q2 q3 q4 q5 q6 q7 q8 k0 k0a o1a ba bd
           obtain ⟨q0, q1, q2, q3, q4, q5, q6, q7, q8⟩ := box9 k1)
        | (go_at_call 82
           refine (both_any (some ⟨w.heap.size + 1, 0, none⟩) A2 2 2 2 c2 _ [UInt8.ofNat mg, UInt8.ofNat op] _ _ o1 o2.rd (Nat.le_refl _) (by omega)).mono ?_
           rintro e w3 ⟨A3, c3, rfl, o3, b3⟩
           replace k1 := k1.step b3
           have hw3 := b.size
           replace b := below_step b b3
           replace o3 := o3.more hw3
           clear q0 q1 q2 q3 q4 q5 q6 q7 q8 hw3
           obtain ⟨q0, q1, q2, q3, q4, q5, q6, q7, q8⟩ := box9 k1)
        | (go_at_call 82
           refine (both_any (some ⟨w2.heap.size, 0, none⟩) A2 2 2 2 c2 _ [UInt8.ofNat mg, UInt8.ofNat op] _ _ (Own.rd (own_two f0 f1 0 _ rfl (by omega))) ((o2.rd.alloc (Nat.le_refl _) _).more (by simp)) (Nat.le_refl _) (by omega)).mono ?_
           rintro e w3 ⟨A3, c3, rfl, o3, b3⟩
           replace k1 := (k1.alloc _).step b3
           have hw3 := (below_a1 b (Nat.le_refl _) (.cells #[.int .u8 (mg : Int), .int .u8 (op : Int)] 5)).size
           replace b := below_step (below_a1 b (Nat.le_refl _) _) b3
           replace o3 := o3.more hw3
           clear q0 q1 q2 q3 q4 q5 q6 q7 q8 hw3
           obtain ⟨q0, q1, q2, q3, q4, q5, q6, q7, q8⟩ := box9 k1))
    all_goals
      go_wp2_with fail
      go_meet
      exact ⟨A3, c3, rfl, o3, k1, b⟩
  case rest =>
    obtain ⟨A3, c3, rfl, o3, k1, b⟩ := hcut
    clear k0 k0a bd ba o1a
    obtain ⟨w3, rfl⟩ : ∃ w3 : World, w3 = wc := ⟨_, rfl⟩
    obtain ⟨q0, q1, q2, q3, q4, q5, q6, q7, q8⟩ := box9 k1
    go_wp2_with fail
    have r1 : Rd (w3.alloc (.cells #[.int .u8 (el : Int), .int .u8 (ty : Int)] 5)) (w3.heap.size + 1) A3 4 c3 ([UInt8.ofNat mg, UInt8.ofNat op] ++ highB kl 2) := (o3.rd.alloc (Nat.le_refl _) _).more (Nat.le_succ _)
    have r2 : Rd (w3.alloc (.cells #[.int .u8 (el : Int), .int .u8 (ty : Int)] 5)) (w3.heap.size + 1) (some ⟨w3.heap.size, 0, none⟩) 2 2 [UInt8.ofNat el, UInt8.ofNat ty] := (Own.rd (own_two (w := w3) f3 f4 0 _ rfl (Nat.zero_le _))).more (by simp)
    refine (both_any A3 (some ⟨w3.heap.size, 0, none⟩) 4 c3 2 2 (w3.heap.size + 1) _ _ _ r1 r2 (by simp) (by omega)).mono ?_
    rintro e w4 ⟨A4, c4, rfl, o4, b4⟩
    replace k1 := (k1.alloc _).step b4
    replace b := below_step (below_a1 b (Nat.le_refl _) _) b4
    clear q0 q1 q2 q3 q4 q5 q6 q7 q8 o3 b4 r1 r2
    obtain ⟨q0, q1, q2, q3, q4, q5, q6, q7, q8⟩ := box9 k1
    go_wp2_with fail
    refine (high_any st 2 (by omega) (by omega) _).mono ?_
    rintro e w5 ⟨A5, c5, rfl, o5, b5⟩
    replace k1 := k1.step b5
    replace o4 := o4.rd.step b5
    replace b := below_step b b5
    clear q0 q1 q2 q3 q4 q5 q6 q7 q8
    obtain ⟨q0, q1, q2, q3, q4, q5, q6, q7, q8⟩ := box9 k1
    go_wp2_with fail
    refine (both_any A4 A5 6 c4 2 c5 _ _ _ _ o4 o5.rd (Nat.le_refl _) (by omega)).mono ?_
    rintro e w6 ⟨A6, c6, rfl, o6, b6⟩
    replace k1 := k1.step b6
    have hsz := b.size
    replace b := below_step b b6
    clear q0 q1 q2 q3 q4 q5 q6 q7 q8 o4 o5 b5 b6
    replace o6 := o6.more hsz
    clear hsz
    obtain ⟨q0, q1, q2, q3, q4, q5, q6, q7, q8⟩ := box9 k1
    go_wp2_with fail
    refine (high_any bl 4 (by omega) (by omega) _).mono ?_
    rintro e w7 ⟨A7, c7, rfl, o7, b7⟩
    replace k1 := k1.step b7
    replace o6 := o6.rd.step b7
    replace b := below_step b b7
    clear q0 q1 q2 q3 q4 q5 q6 q7 q8
    obtain ⟨q0, q1, q2, q3, q4, q5, q6, q7, q8⟩ := box9 k1
    go_wp2_with fail
    refine (both_any A6 A7 8 c6 4 c7 _ _ _ _ o6 o7.rd (Nat.le_refl _) (by omega)).mono ?_
    rintro e w8 ⟨A8, c8, rfl, o8, b8⟩
    replace k1 := k1.step b8
    have hsz := b.size
    replace b := below_step b b8
    clear q0 q1 q2 q3 q4 q5 q6 q7 q8 o6 o7 b7 b8
    replace o8 := o8.more hsz
    clear hsz
    obtain ⟨q0, q1, q2, q3, q4, q5, q6, q7, q8⟩ := box9 k1
    go_wp2_with fail
    refine (high_any oq 4 (by omega) (by omega) _).mono ?_
    rintro e w9 ⟨A9, c9, rfl, o9, b9⟩
    replace k1 := k1.step b9
    replace o8 := o8.rd.step b9
    replace b := below_step b b9
    clear q0 q1 q2 q3 q4 q5 q6 q7 q8
    obtain ⟨q0, q1, q2, q3, q4, q5, q6, q7, q8⟩ := box9 k1
    go_wp2_with fail
    refine (both_any A8 A9 12 c8 4 c9 _ _ _ _ o8 o9.rd (Nat.le_refl _) (by omega)).mono ?_
    rintro e w10 ⟨A10, c10, rfl, o10, b10⟩
    replace k1 := k1.step b10
    have hsz := b.size
    replace b := below_step b b10
    clear q0 q1 q2 q3 q4 q5 q6 q7 q8 o8 o9 b9 b10
    replace o10 := o10.more hsz
    clear hsz
    obtain ⟨q0, q1, q2, q3, q4, q5, q6, q7, q8⟩ := box9 k1
    go_wp2_with fail
    refine (high_any cas 8 (by omega) (by omega) _).mono ?_
    rintro e w11 ⟨A11, c11, rfl, o11, b11⟩
    replace k1 := k1.step b11
    replace o10 := o10.rd.step b11
    replace b := below_step b b11
    clear q0 q1 q2 q3 q4 q5 q6 q7 q8
    obtain ⟨q0, q1, q2, q3, q4, q5, q6, q7, q8⟩ := box9 k1
    go_wp2_with fail
    refine (both_any A10 A11 16 c10 8 c11 _ _ _ _ o10 o11.rd (Nat.le_refl _) (by omega)).mono ?_
    rintro e w12 ⟨A12, c12, rfl, o12, b12⟩
    replace k1 := k1.step b12
    have hsz := b.size
    replace b := below_step b b12
    clear q0 q1 q2 q3 q4 q5 q6 q7 q8 o10 o11 b11 b12
    replace o12 := o12.more hsz
    clear hsz
    obtain ⟨q0, q1, q2, q3, q4, q5, q6, q7, q8⟩ := box9 k1
    go_wp2_with fail
    go_ret
    exact ⟨A12, c12, rfl, o12, b⟩
end
section
open Go.ChangeShapes Go.WideShapes Go.ChangeAt Go.RowKit

theorem put_no (mg op kl el ty st bl oq cas : Nat) (hf : HdF mg op kl el ty st bl oq cas) (X K V : Option Addr) (nx cx nk ck nv cv : Nat) (hn : nx + nk + nv ≤ 9223372036854775807) (hw : wrongE mg kl el bl nx nk nv ≠ 0) (w : World) :
    Calls Try.prog 58 #[frV mg op kl el ty st bl oq cas (.slice X nx cx) (.slice K nk ck) (.slice V nv cv)] w (PutE (wrongE mg kl el bl nx nk nv) w) := by
  by_cases h0 : mayB mg kl el bl = true
  · by_cases h1 : nx = el
    · by_cases h2 : nk = kl
      · by_cases h3 : nx + nk + nv = bl
        · by_cases h4 : 2048 < bl
          · rw [show wrongE mg kl el bl nx nk nv = 3 from by unfold wrongE; rw [if_pos ⟨h0, h1, h2, h3⟩, if_pos h4]]
            exact put_L mg op kl el ty st bl oq cas hf X K V nx cx nk ck nv cv hn h0 h1 h2 h3 h4 w
          · exact absurd (show wrongE mg kl el bl nx nk nv = 0 from by unfold wrongE; rw [if_pos ⟨h0, h1, h2, h3⟩, if_neg h4]) hw
        · rw [show wrongE mg kl el bl nx nk nv = 290 from by unfold wrongE; rw [if_neg (by omega)]]
          exact put_S mg op kl el ty st bl oq cas hf X K V nx cx nk ck nv cv hn h0 h1 h2 h3 w
      · rw [show wrongE mg kl el bl nx nk nv = 290 from by unfold wrongE; rw [if_neg (by omega)]]
        exact put_K mg op kl el ty st bl oq cas hf X K V nx cx nk ck nv cv hn h0 h1 h2 w
    · rw [show wrongE mg kl el bl nx nk nv = 290 from by unfold wrongE; rw [if_neg (by omega)]]
      exact put_X mg op kl el ty st bl oq cas hf X K V nx cx nk ck nv cv hn h0 h1 w
  · rw [show wrongE mg kl el bl nx nk nv = 290 from by unfold wrongE; rw [if_neg (fun h => h0 h.1)]]
    exact put_M mg op kl el ty st bl oq cas hf X K V nx cx nk ck nv cv hn (by simpa using h0) w

set_option maxRecDepth 100000 in
set_option maxHeartbeats 4000000 in
theorem rbytes19 (mg op kl el ty st bl oq cas : Nat) (hf : HdF mg op kl el ty st bl oq cas) (X K V : Option Addr) (nx cx nk ck nv cv : Nat) (hs : nx + nk + nv ≤ 140737488355000)
    (lx lk lv : List UInt8) (w : World) (rx : Rd w w.heap.size X nx cx lx) (rk : Rd w w.heap.size K nk ck lk) (rv : Rd w w.heap.size V nv cv lv) :
    Calls Try.prog 83 #[frV mg op kl el ty st bl oq cas (.slice X nx cx) (.slice K nk ck) (.slice V nv cv)] w (BytesQ (24 + nx + (nk + nv)) (hdB mg op kl el ty st bl oq cas ++ lx ++ (lk ++ lv)) w) := by
  have HF := Lib.hid hf
  have k0 : Blk _ _ (frC mg op kl el ty st bl oq cas (.slice X nx cx) (.slice K nk ck) (.slice V nv cv)) _ := Blk.new w _ 61
  have b : Below w.heap.size w (w.alloc (.cells (frC mg op kl el ty st bl oq cas (.slice X nx cx) (.slice K nk ck) (.slice V nv cv)) 61)) := below_a1' (Below.refl _ _) _
  clear hf
  unfold frV
  unfold frC at *
  go_enter Try.func83, Try.ntmps83
  go_wp2_with fail
  generalize w.alloc (.cells #[.int .u8 mg, .int .u8 op, .int .u16 kl, .int .u8 el, .int .u8 ty, .int .u16 st, .int .u32 bl, .int .u32 oq, .int .u64 cas, .slice X nx cx, .slice K nk ck, .slice V nv cv] 61) = W at k0 b ⊢
  obtain ⟨q0, q1, q2, q3, q4, q5, q6, q7, q8, q9, q10, q11⟩ := box12 k0
  go_region_held3 (fun w' => w'.cell? ⟨w.heap.size, 9, none⟩ = some (.slice X nx cx) ∧ w'.cell? ⟨w.heap.size, 10, none⟩ = some (.slice K nk ck) ∧ w'.cell? ⟨w.heap.size, 11, none⟩ = some (.slice V nv cv) ∧
      w'.cell? ⟨w.heap.size, 0, none⟩ = some (.int .u8 mg) ∧ w'.cell? ⟨w.heap.size, 1, none⟩ = some (.int .u8 op) ∧ w'.cell? ⟨w.heap.size, 2, none⟩ = some (.int .u16 kl) ∧ w'.cell? ⟨w.heap.size, 3, none⟩ = some (.int .u8 el) ∧ w'.cell? ⟨w.heap.size, 4, none⟩ = some (.int .u8 ty) ∧
      w'.cell? ⟨w.heap.size, 5, none⟩ = some (.int .u16 st) ∧ w'.cell? ⟨w.heap.size, 6, none⟩ = some (.int .u32 bl) ∧ w'.cell? ⟨w.heap.size, 7, none⟩ = some (.int .u32 oq) ∧ w'.cell? ⟨w.heap.size, 8, none⟩ = some (.int .u64 cas)) (first | (with_reducible exact ⟨q9, q10, q11, q0, q1, q2, q3, q4, q5, q6, q7, q8⟩) | go_keep)
    (first
      | (go_at_call 117
         refine (header19_any mg op kl el ty st bl oq cas HF.out _).mono ?_
         rintro e w2 ⟨A2, c2, rfl, o2, b2⟩
         replace k0 : Blk w2 w.heap.size _ _ := Blk.step (w := W.drew) k0 b2
         replace b := below_step (w1 := W.drew) b.drew b2
         clear q0 q1 q2 q3 q4 q5 q6 q7 q8 q9 q10 q11
         obtain ⟨q0, q1, q2, q3, q4, q5, q6, q7, q8, q9, q10, q11⟩ := box12 k0)
      | (go_at_call 82
         ((with_reducible refine (both_any A2 X 24 c2 nx cx _ _ _ _ o2.rd ((rx.below b).more b.size) (Nat.le_refl _) (by omega)).mono ?_))
         rintro e w3 ⟨A3, c3, rfl, o3, b3⟩
         replace k0 := k0.step b3
         have z3 := b.size
         replace b := below_step b b3
         clear q0 q1 q2 q3 q4 q5 q6 q7 q8 q9 q10 q11
         obtain ⟨q0, q1, q2, q3, q4, q5, q6, q7, q8, q9, q10, q11⟩ := box12 k0)
      | (go_at_call 82
         ((with_reducible refine (both_any K V nk ck nv cv _ _ _ _ ((rk.below b).more b.size) ((rv.below b).more b.size) (Nat.le_refl _) (by omega)).mono ?_))
         rintro e w4 ⟨A4, c4, rfl, o4, b4⟩
         replace k0 := k0.step b4
         replace b := below_step b b4
         have o3' := o3.step b4
         clear q0 q1 q2 q3 q4 q5 q6 q7 q8 q9 q10 q11
         obtain ⟨q0, q1, q2, q3, q4, q5, q6, q7, q8, q9, q10, q11⟩ := box12 k0)
      | (go_at_call 82
         ((with_reducible refine (both_any A3 A4 (24 + nx) c3 (nk + nv) c4 _ _ _ _ o3'.rd o4.rd (Nat.le_refl _) (by omega)).mono ?_))
         rintro e w5 ⟨A5, c5, rfl, o5, b5⟩
         replace k0 := k0.step b5
         have z5 := b.size
         replace b := below_step b b5
         clear q0 q1 q2 q3 q4 q5 q6 q7 q8 q9 q10 q11
         obtain ⟨q0, q1, q2, q3, q4, q5, q6, q7, q8, q9, q10, q11⟩ := box12 k0)
      | fail)
  go_wp2_with fail
  go_ret
  exact ⟨A5, c5, rfl, o5.more z5, b⟩

section
variable {H : Type} {enc : TypeId × Value → H} {W : World}
theorem cells_frame : Try.prog.cellsOf 61 = 12 := by kernel_rfl
theorem cells_header : Try.prog.cellsOf 59 = 9 := by kernel_rfl
def Frm (W : World) (mg op kl el ty st bl oq cas : Nat) (AX : Option Addr) (nx cx : Nat) (lx : List UInt8) (AK : Option Addr) (nk ck : Nat) (lk : List UInt8) (AV : Option Addr) (nv cv : Nat) (lv : List UInt8) : Prop :=
  HdF mg op kl el ty st bl oq cas ∧ Rd W W.heap.size AX nx cx lx ∧ Rd W W.heap.size AK nk ck lk ∧ Rd W W.heap.size AV nv cv lv
set_option maxRecDepth 100000 in
theorem trod_header {fuel : Nat} {cs : List Value} {x : DataW H × List MemPlace} (h : DataW.trod enc Try.prog W 0 (fun _ => true) true fuel 59 cs = some x) :
    ∃ mg op kl el ty st bl oq cas : Nat, cs = (hdC mg op kl el ty st bl oq cas).toList ∧ HdF mg op kl el ty st bl oq cas := by
  obtain ⟨n, hl, hf⟩ := trod_fields Try.underlying59 h
  rw [cells_header] at hl
  obtain ⟨c0, c1, c2, c3, c4, c5, c6, c7, c8, rfl⟩ := list9 hl
  obtain ⟨y0, t0, -⟩ := hf 0 5 0 rfl
  obtain ⟨y1, t1, -⟩ := hf 1 5 1 rfl
  obtain ⟨y2, t2, -⟩ := hf 2 57 2 rfl
  obtain ⟨y3, t3, -⟩ := hf 3 5 3 rfl
  obtain ⟨y4, t4, -⟩ := hf 4 5 4 rfl
  obtain ⟨y5, t5, -⟩ := hf 5 57 5 rfl
  obtain ⟨y6, t6, -⟩ := hf 6 22 6 rfl
  obtain ⟨y7, t7, -⟩ := hf 7 22 7 rfl
  obtain ⟨y8, t8, -⟩ := hf 8 24 8 rfl
  simp only [cells_u8, cells_u16, cells_u32, cells_u64, List.drop_zero, List.drop_succ_cons, List.take_succ_cons, List.take_zero] at t0 t1 t2 t3 t4 t5 t6 t7 t8
  obtain ⟨z0, rfl, f0⟩ := trod_int1 Try.underlying5 t0
  obtain ⟨z1, rfl, f1⟩ := trod_int1 Try.underlying5 t1
  obtain ⟨z2, rfl, f2⟩ := trod_int1 Try.underlying57 t2
  obtain ⟨z3, rfl, f3⟩ := trod_int1 Try.underlying5 t3
  obtain ⟨z4, rfl, f4⟩ := trod_int1 Try.underlying5 t4
  obtain ⟨z5, rfl, f5⟩ := trod_int1 Try.underlying57 t5
  obtain ⟨z6, rfl, f6⟩ := trod_int1 Try.underlying22 t6
  obtain ⟨z7, rfl, f7⟩ := trod_int1 Try.underlying22 t7
  obtain ⟨z8, rfl, f8⟩ := trod_int1 Try.underlying24 t8
  obtain ⟨mg, rfl, g0⟩ := wf_nat (M := 255) f0 rfl rfl
  obtain ⟨op, rfl, g1⟩ := wf_nat (M := 255) f1 rfl rfl
  obtain ⟨kl, rfl, g2⟩ := wf_nat (M := 65535) f2 rfl rfl
  obtain ⟨el, rfl, g3⟩ := wf_nat (M := 255) f3 rfl rfl
  obtain ⟨ty, rfl, g4⟩ := wf_nat (M := 255) f4 rfl rfl
  obtain ⟨st, rfl, g5⟩ := wf_nat (M := 65535) f5 rfl rfl
  obtain ⟨bl, rfl, g6⟩ := wf_nat (M := 4294967295) f6 rfl rfl
  obtain ⟨oq, rfl, g7⟩ := wf_nat (M := 4294967295) f7 rfl rfl
  obtain ⟨cas, rfl, g8⟩ := wf_nat (M := 18446744073709551615) f8 rfl rfl
  exact ⟨mg, op, kl, el, ty, st, bl, oq, cas, rfl, by unfold HdF; omega⟩
set_option maxRecDepth 100000 in
theorem trod_frame {fuel : Nat} {cs : List Value} {x : DataW H × List MemPlace} (h : DataW.trod enc Try.prog W 0 (fun _ => true) true fuel 61 cs = some x) :
    ∃ (mg op kl el ty st bl oq cas : Nat) (AX : Option Addr) (nx cx : Nat) (lx : List UInt8) (AK : Option Addr) (nk ck : Nat) (lk : List UInt8) (AV : Option Addr) (nv cv : Nat) (lv : List UInt8),
      cs = (frC mg op kl el ty st bl oq cas (.slice AX nx cx) (.slice AK nk ck) (.slice AV nv cv)).toList ∧ Frm W mg op kl el ty st bl oq cas AX nx cx lx AK nk ck lk AV nv cv lv ∧
      ((∀ m ∈ x.1.weights Try.prog 61, m ≤ reachBytes) → cx ≤ 140737488351232 ∧ ck ≤ 140737488351232 ∧ cv ≤ 140737488351232) := by
  obtain ⟨n, hl, hf⟩ := trod_fields Try.underlying61 h
  rw [cells_frame] at hl
  obtain ⟨c0, c1, c2, c3, c4, c5, c6, c7, c8, c9, c10, c11, rfl⟩ := list12 hl
  obtain ⟨y0, t0, -⟩ := hf 0 59 0 rfl
  obtain ⟨y1, t1, w1⟩ := hf 1 23 9 rfl
  obtain ⟨y2, t2, w2⟩ := hf 2 23 10 rfl
  obtain ⟨y3, t3, w3⟩ := hf 3 23 11 rfl
  simp only [cells_header, cells_u8s, List.drop_zero, List.drop_succ_cons, List.take_succ_cons, List.take_zero] at t0 t1 t2 t3
  obtain ⟨mg, op, kl, el, ty, st, bl, oq, cas, hc, hF⟩ := trod_header t0
  obtain ⟨AX, nx, cx, lx, rfl, r1, s1⟩ := trod_bytes1 t1
  obtain ⟨AK, nk, ck, lk, rfl, r2, s2⟩ := trod_bytes1 t2
  obtain ⟨AV, nv, cv, lv, rfl, r3, s3⟩ := trod_bytes1 t3
  refine ⟨mg, op, kl, el, ty, st, bl, oq, cas, AX, nx, cx, lx, AK, nk, ck, lk, AV, nv, cv, lv, ?_, ⟨hF, r1, r2, r3⟩, fun hw => ⟨s1 (w1 hw), s2 (w2 hw), s3 (w3 hw)⟩⟩
  have e := congrArg (· ++ [Value.slice AX nx cx, .slice AK nk ck, .slice AV nv cv]) hc
  exact e
set_option maxRecDepth 100000 in
theorem open_frame {v : Value} {d : DataW H} {p : List MemPlace} {base : Nat} (hv : Value.okWide Try.prog W .any base 61 v) (h : DataW.Trod enc Try.prog W 0 (fun _ => true) true 61 v d p) :
    ∃ (mg op kl el ty st bl oq cas : Nat) (AX : Option Addr) (nx cx : Nat) (lx : List UInt8) (AK : Option Addr) (nk ck : Nat) (lk : List UInt8) (AV : Option Addr) (nv cv : Nat) (lv : List UInt8),
      v = frV mg op kl el ty st bl oq cas (.slice AX nx cx) (.slice AK nk ck) (.slice AV nv cv) ∧ Frm W mg op kl el ty st bl oq cas AX nx cx lx AK nk ck lk AV nv cv lv ∧
      ((∀ m ∈ d.weights Try.prog 61, m ≤ reachBytes) → cx ≤ 140737488351232 ∧ ck ≤ 140737488351232 ∧ cv ≤ 140737488351232) := by
  obtain ⟨cs, rfl, hsz⟩ := okWide_struct Try.underlying61 hv
  obtain ⟨fuel, hf⟩ := h
  obtain ⟨mg, op, kl, el, ty, st, bl, oq, cas, AX, nx, cx, lx, AK, nk, ck, lk, AV, nv, cv, lv, hc, hi, hw⟩ := trod_frame hf
  refine ⟨mg, op, kl, el, ty, st, bl, oq, cas, AX, nx, cx, lx, AK, nk, ck, lk, AV, nv, cv, lv, ?_, hi, hw⟩
  have : cs = frC mg op kl el ty st bl oq cas (.slice AX nx cx) (.slice AK nk ck) (.slice AV nv cv) := by
    apply Array.toList_inj.1
    exact hc
  rw [this]; rfl
end
end
section
open Go.RowKit

theorem blk_set9 {w : World} {g : Nat} {T : TypeId} {c0 c1 c2 c3 c4 c5 c6 c7 c8 : Value} (h : Blk w g #[c0, c1, c2, c3, c4, c5, c6, c7, c8] T) (v0 v1 v2 v3 v4 v5 v6 v7 v8 : Value) : Blk (((((((((w.setCell ⟨g, 0, none⟩ v0).setCell ⟨g, 1, none⟩ v1).setCell ⟨g, 2, none⟩ v2).setCell ⟨g, 3, none⟩ v3).setCell ⟨g, 4, none⟩ v4).setCell ⟨g, 5, none⟩ v5).setCell ⟨g, 6, none⟩ v6).setCell ⟨g, 7, none⟩ v7).setCell ⟨g, 8, none⟩ v8) g #[v0, v1, v2, v3, v4, v5, v6, v7, v8] T := by
  have h0 : Blk _ g #[v0, c1, c2, c3, c4, c5, c6, c7, c8] T := h.set_ 0 v0
  have h1 : Blk _ g #[v0, v1, c2, c3, c4, c5, c6, c7, c8] T := h0.set_ 1 v1
  have h2 : Blk _ g #[v0, v1, v2, c3, c4, c5, c6, c7, c8] T := h1.set_ 2 v2
  have h3 : Blk _ g #[v0, v1, v2, v3, c4, c5, c6, c7, c8] T := h2.set_ 3 v3
  have h4 : Blk _ g #[v0, v1, v2, v3, v4, c5, c6, c7, c8] T := h3.set_ 4 v4
  have h5 : Blk _ g #[v0, v1, v2, v3, v4, v5, c6, c7, c8] T := h4.set_ 5 v5
  have h6 : Blk _ g #[v0, v1, v2, v3, v4, v5, v6, c7, c8] T := h5.set_ 6 v6
  have h7 : Blk _ g #[v0, v1, v2, v3, v4, v5, v6, v7, c8] T := h6.set_ 7 v7
  have h8 : Blk _ g #[v0, v1, v2, v3, v4, v5, v6, v7, v8] T := h7.set_ 8 v8
  exact h8
theorem grown_set9 (w : World) (g : Nat) (v0 v1 v2 v3 v4 v5 v6 v7 v8 : Value) : w.grownBy (((((((((w.setCell ⟨g, 0, none⟩ v0).setCell ⟨g, 1, none⟩ v1).setCell ⟨g, 2, none⟩ v2).setCell ⟨g, 3, none⟩ v3).setCell ⟨g, 4, none⟩ v4).setCell ⟨g, 5, none⟩ v5).setCell ⟨g, 6, none⟩ v6).setCell ⟨g, 7, none⟩ v7).setCell ⟨g, 8, none⟩ v8) (some g) := grown_trans (grown_trans (grown_trans (grown_trans (grown_trans (grown_trans (grown_trans (grown_trans (rdr_grown_set w g 0 v0) (rdr_grown_set _ g 1 v1)) (rdr_grown_set _ g 2 v2)) (rdr_grown_set _ g 3 v3)) (rdr_grown_set _ g 4 v4)) (rdr_grown_set _ g 5 v5)) (rdr_grown_set _ g 6 v6)) (rdr_grown_set _ g 7 v7)) (rdr_grown_set _ g 8 v8)

theorem hdF_of (l : List UInt8) : HdF (fld l 0 1) (fld l 1 1) (fld l 2 2) (fld l 4 1) (fld l 5 1) (fld l 6 2) (fld l 8 4) (fld l 12 4) (fld l 16 8) :=
  ⟨fld_lt l 0 1, fld_lt l 1 1, fld_lt l 2 2, fld_lt l 4 1, fld_lt l 5 1, fld_lt l 6 2, fld_lt l 8 4, fld_lt l 12 4, fld_lt l 16 8⟩

def zeroHd : Value := .agg #[.int .u8 0, .int .u8 0, .int .u16 0, .int .u8 0, .int .u8 0, .int .u16 0, .int .u32 0, .int .u32 0, .int .u64 0]
def GhNo (err : Int) (w : World) (e : Ending) (w' : World) : Prop := e = .returned (.tuple #[zeroHd, .int .i64 err]) ∧ Below w.heap.size w w'
def GhOk (mg op kl el ty st bl oq cas : Nat) (w : World) (e : Ending) (w' : World) : Prop := e = .returned (.tuple #[hdV mg op kl el ty st bl oq cas, .int .i64 0]) ∧ Below w.heap.size w w'
set_option maxRecDepth 100000 in
theorem gh_short (A : Option Addr) (n c : Nat) (hn : n < 24) (w : World) : Calls Try.prog 97 #[.slice A n c] w (GhNo 9 w) := by
  go_enter Try.func97, Try.ntmps97
  go_wp2_with fail
  refine bodyPost_ret (v := .tuple #[.agg #[.int .u8 0, .int .u8 0, .int .u16 0, .int .u8 0, .int .u8 0, .int .u16 0, .int .u32 0, .int .u32 0, .int .u64 0], .int .i64 9]) (by simp [results, Try.results97, go_sem]) rfl ?_
  exact ⟨rfl, below_a1' (Below.refl _ _) _⟩
set_option maxRecDepth 100000 in
set_option maxHeartbeats 4000000 in
theorem gh_ok (A : Option Addr) (n c : Nat) (l : List UInt8) (w : World) (h : Rd w w.heap.size A n c l) (hn : 24 ≤ n) (hm : mayB (fld l 0 1) (fld l 2 2) (fld l 4 1) (fld l 8 4) = true) :
    Calls Try.prog 97 #[.slice A n c] w (GhOk (fld l 0 1) (fld l 1 1) (fld l 2 2) (fld l 4 1) (fld l 5 1) (fld l 6 2) (fld l 8 4) (fld l 12 4) (fld l 16 8) w) := by
  have hF := hdF_of l
  have rp := rd_pre h hn
  have hcap := h.cap
  have hmax := h.max
  unfold maxLen at hmax
  generalize hmg : fld l 0 1 = mg at hF hm ⊢
  generalize hop : fld l 1 1 = op at hF hm ⊢
  generalize hkl : fld l 2 2 = kl at hF hm ⊢
  generalize hel : fld l 4 1 = el at hF hm ⊢
  generalize hty : fld l 5 1 = ty at hF hm ⊢
  generalize hst : fld l 6 2 = st at hF hm ⊢
  generalize hbl : fld l 8 4 = bl at hF hm ⊢
  generalize hoq : fld l 12 4 = oq at hF hm ⊢
  generalize hcas : fld l 16 8 = cas at hF hm ⊢
  have Hmg := Lib.hid (show mg = fld (l.take 24) 0 1 from by rw [fld_take (by omega), hmg])
  have Hop := Lib.hid (show op = fld (l.take 24) 1 1 from by rw [fld_take (by omega), hop])
  have Hkl := Lib.hid (show kl = fld (l.take 24) 2 2 from by rw [fld_take (by omega), hkl])
  have Hel := Lib.hid (show el = fld (l.take 24) 4 1 from by rw [fld_take (by omega), hel])
  have Hty := Lib.hid (show ty = fld (l.take 24) 5 1 from by rw [fld_take (by omega), hty])
  have Hst := Lib.hid (show st = fld (l.take 24) 6 2 from by rw [fld_take (by omega), hst])
  have Hbl := Lib.hid (show bl = fld (l.take 24) 8 4 from by rw [fld_take (by omega), hbl])
  have Hoq := Lib.hid (show oq = fld (l.take 24) 12 4 from by rw [fld_take (by omega), hoq])
  have Hcas := Lib.hid (show cas = fld (l.take 24) 16 8 from by rw [fld_take (by omega), hcas])
  clear hmg hop hkl hel hty hst hbl hoq hcas h
  have hl24 := rp.len
  generalize l.take 24 = l24 at rp hl24 Hmg Hop Hkl Hel Hty Hst Hbl Hoq Hcas
  have HL := Lib.hid hl24
  have HM := Lib.hid hm
  have HF := Lib.hid hF
  obtain ⟨f0, f1, f2, f3, f4, f5, f6, f7, f8⟩ := hF
  clear hl24 hm
  have k0 := Blk.new w #[.int .u8 0, .int .u8 0, .int .u16 0, .int .u8 0, .int .u8 0, .int .u16 0, .int .u32 0, .int .u32 0, .int .u64 0] 59
  have b0 : Below w.heap.size w (w.alloc (.cells #[.int .u8 0, .int .u8 0, .int .u16 0, .int .u8 0, .int .u8 0, .int .u16 0, .int .u32 0, .int .u32 0, .int .u64 0] 59)) := below_a1' (Below.refl _ _) _
  have hz : (w.alloc (.cells #[.int .u8 0, .int .u8 0, .int .u16 0, .int .u8 0, .int .u8 0, .int .u16 0, .int .u32 0, .int .u32 0, .int .u64 0] 59)).heap.size = w.heap.size + 1 := by simp
  go_enter Try.func97, Try.ntmps97
  go_wp2_with fail
  generalize w.alloc (.cells #[.int .u8 0, .int .u8 0, .int .u16 0, .int .u8 0, .int .u8 0, .int .u16 0, .int .u32 0, .int .u32 0, .int .u64 0] 59) = W0 at k0 b0 hz ⊢
  have HZ := Lib.hid hz
  clear hz
  refine (read_any A 24 c _ l24 W0 ((rp.below b0).more b0.size) (Nat.le_refl _) (by omega)).mono ?_
  rintro e w1 ⟨g, rfl, h0, bb⟩
  go_wp2_with fail
  refine (u8_at l24 0 mg Hmg.out g _ _ h0 (by rw [HL.out]; omega)).mono ?_
  rintro e w2 ⟨rfl, h1, g0⟩
  replace bb := bb.trans (below_grown g0 h0.ge h0.lt)
  clear g0 h0
  go_wp2_with fail
  refine (u8_at l24 1 op Hop.out g _ _ h1 (by rw [HL.out]; omega)).mono ?_
  rintro e w3 ⟨rfl, h2, g1⟩
  replace bb := bb.trans (below_grown g1 h1.ge h1.lt)
  clear g1 h1
  go_wp2_with fail
  refine (u16_at l24 2 kl Hkl.out g _ _ h2 (by rw [HL.out]; omega)).mono ?_
  rintro e w4 ⟨rfl, h3, g2⟩
  replace bb := bb.trans (below_grown g2 h2.ge h2.lt)
  clear g2 h2
  go_wp2_with fail
  refine (u8_at l24 4 el Hel.out g _ _ h3 (by rw [HL.out]; omega)).mono ?_
  rintro e w5 ⟨rfl, h4, g3⟩
  replace bb := bb.trans (below_grown g3 h3.ge h3.lt)
  clear g3 h3
  go_wp2_with fail
  refine (u8_at l24 5 ty Hty.out g _ _ h4 (by rw [HL.out]; omega)).mono ?_
  rintro e w6 ⟨rfl, h5, g4⟩
  replace bb := bb.trans (below_grown g4 h4.ge h4.lt)
  clear g4 h4
  go_wp2_with fail
  refine (u16_at l24 6 st Hst.out g _ _ h5 (by rw [HL.out]; omega)).mono ?_
  rintro e w7 ⟨rfl, h6, g5⟩
  replace bb := bb.trans (below_grown g5 h5.ge h5.lt)
  clear g5 h5
  go_wp2_with fail
  refine (u32_at l24 8 bl Hbl.out g _ _ h6 (by rw [HL.out]; omega)).mono ?_
  rintro e w8 ⟨rfl, h7, g6⟩
  replace bb := bb.trans (below_grown g6 h6.ge h6.lt)
  clear g6 h6
  go_wp2_with fail
  refine (u32_at l24 12 oq Hoq.out g _ _ h7 (by rw [HL.out]; omega)).mono ?_
  rintro e w9 ⟨rfl, h8, g7⟩
  replace bb := bb.trans (below_grown g7 h7.ge h7.lt)
  clear g7 h7
  go_wp2_with fail
  refine (u64_at l24 16 cas Hcas.out g _ _ h8 (by rw [HL.out]; omega)).mono ?_
  rintro e w10 ⟨rfl, h9, g8⟩
  replace bb := bb.trans (below_grown g8 h8.ge h8.lt)
  clear g8 h8
  go_wp2_with fail
  refine (may_any mg op kl el ty st bl oq cas HF.out _).mono ?_
  rintro e w12 ⟨rfl, bm⟩
  rw [HM.out]
  have b12 : Below W0.heap.size W0 w12 := (bb.alloc bb.size _).trans (bm.mono (by simp; exact Nat.le_succ_of_le bb.size))
  have kx : Blk w12 w.heap.size #[.int .u8 0, .int .u8 0, .int .u16 0, .int .u8 0, .int .u8 0, .int .u16 0, .int .u32 0, .int .u32 0, .int .u64 0] 59 := (b12.block _ k0.lt).trans k0
  have bf := b0.trans (b12.mono (by rw [HZ.out]; omega))
  have k5 : Blk w12 w10.heap.size #[.int .u8 (mg : Nat), .int .u8 (op : Nat), .int .u16 (kl : Nat), .int .u8 (el : Nat), .int .u8 (ty : Nat), .int .u16 (st : Nat), .int .u32 (bl : Nat), .int .u32 (oq : Nat), .int .u64 (cas : Nat)] 59 := (Blk.new w10 _ _).step bm
  obtain ⟨p0, p1, p2, p3, p4, p5, p6, p7, p8⟩ := box9 k5
  obtain ⟨z0, z1, z2, z3, z4, z5, z6, z7, z8⟩ := box9 kx
  have y0 := kx.frozen 0
  have y1 := kx.frozen 1
  have y2 := kx.frozen 2
  have y3 := kx.frozen 3
  have y4 := kx.frozen 4
  have y5 := kx.frozen 5
  have y6 := kx.frozen 6
  have y7 := kx.frozen 7
  have y8 := kx.frozen 8
  have kf := blk_set9 kx (.int .u8 (mg : Nat)) (.int .u8 (op : Nat)) (.int .u16 (kl : Nat)) (.int .u8 (el : Nat)) (.int .u8 (ty : Nat)) (.int .u16 (st : Nat)) (.int .u32 (bl : Nat)) (.int .u32 (oq : Nat)) (.int .u64 (cas : Nat))
  have hg := grown_set9 w12 w.heap.size (.int .u8 (mg : Nat)) (.int .u8 (op : Nat)) (.int .u16 (kl : Nat)) (.int .u8 (el : Nat)) (.int .u8 (ty : Nat)) (.int .u16 (st : Nat)) (.int .u32 (bl : Nat)) (.int .u32 (oq : Nat)) (.int .u64 (cas : Nat))
  have bff := bf.trans (below_grown hg (Nat.le_refl _) kx.lt)
  obtain ⟨t0, t1, t2, t3, t4, t5, t6, t7, t8⟩ := box9 kf
  clear hg kf bb k0 kx k5
  go_wp2_with fail
  refine bodyPost_ret (v := .tuple #[.agg #[.int .u8 (mg : Nat), .int .u8 (op : Nat), .int .u16 (kl : Nat), .int .u8 (el : Nat), .int .u8 (ty : Nat), .int .u16 (st : Nat), .int .u32 (bl : Nat), .int .u32 (oq : Nat), .int .u64 (cas : Nat)], .int .i64 0]) (by simp [results, Try.results97, go_sem, t0, t1, t2, t3, t4, t5, t6, t7, t8]) rfl ?_
  exact ⟨rfl, bff⟩
set_option maxRecDepth 100000 in
set_option maxHeartbeats 4000000 in
theorem gh_bad (A : Option Addr) (n c : Nat) (l : List UInt8) (w : World) (h : Rd w w.heap.size A n c l) (hn : 24 ≤ n) (hm : mayB (fld l 0 1) (fld l 2 2) (fld l 4 1) (fld l 8 4) = false) :
    Calls Try.prog 97 #[.slice A n c] w (GhNo 290 w) := by
  have hF := hdF_of l
  have rp := rd_pre h hn
  have hcap := h.cap
  have hmax := h.max
  unfold maxLen at hmax
  generalize hmg : fld l 0 1 = mg at hF hm
  generalize hop : fld l 1 1 = op at hF hm
  generalize hkl : fld l 2 2 = kl at hF hm
  generalize hel : fld l 4 1 = el at hF hm
  generalize hty : fld l 5 1 = ty at hF hm
  generalize hst : fld l 6 2 = st at hF hm
  generalize hbl : fld l 8 4 = bl at hF hm
  generalize hoq : fld l 12 4 = oq at hF hm
  generalize hcas : fld l 16 8 = cas at hF hm
  have Hmg := Lib.hid (show mg = fld (l.take 24) 0 1 from by rw [fld_take (by omega), hmg])
  have Hop := Lib.hid (show op = fld (l.take 24) 1 1 from by rw [fld_take (by omega), hop])
  have Hkl := Lib.hid (show kl = fld (l.take 24) 2 2 from by rw [fld_take (by omega), hkl])
  have Hel := Lib.hid (show el = fld (l.take 24) 4 1 from by rw [fld_take (by omega), hel])
  have Hty := Lib.hid (show ty = fld (l.take 24) 5 1 from by rw [fld_take (by omega), hty])
  have Hst := Lib.hid (show st = fld (l.take 24) 6 2 from by rw [fld_take (by omega), hst])
  have Hbl := Lib.hid (show bl = fld (l.take 24) 8 4 from by rw [fld_take (by omega), hbl])
  have Hoq := Lib.hid (show oq = fld (l.take 24) 12 4 from by rw [fld_take (by omega), hoq])
  have Hcas := Lib.hid (show cas = fld (l.take 24) 16 8 from by rw [fld_take (by omega), hcas])
  clear hmg hop hkl hel hty hst hbl hoq hcas h
  have hl24 := rp.len
  generalize l.take 24 = l24 at rp hl24 Hmg Hop Hkl Hel Hty Hst Hbl Hoq Hcas
  have HL := Lib.hid hl24
  have HM := Lib.hid hm
  have HF := Lib.hid hF
  obtain ⟨f0, f1, f2, f3, f4, f5, f6, f7, f8⟩ := hF
  clear hl24 hm
  have k0 := Blk.new w #[.int .u8 0, .int .u8 0, .int .u16 0, .int .u8 0, .int .u8 0, .int .u16 0, .int .u32 0, .int .u32 0, .int .u64 0] 59
  have b0 : Below w.heap.size w (w.alloc (.cells #[.int .u8 0, .int .u8 0, .int .u16 0, .int .u8 0, .int .u8 0, .int .u16 0, .int .u32 0, .int .u32 0, .int .u64 0] 59)) := below_a1' (Below.refl _ _) _
  have hz : (w.alloc (.cells #[.int .u8 0, .int .u8 0, .int .u16 0, .int .u8 0, .int .u8 0, .int .u16 0, .int .u32 0, .int .u32 0, .int .u64 0] 59)).heap.size = w.heap.size + 1 := by simp
  go_enter Try.func97, Try.ntmps97
  go_wp2_with fail
  generalize w.alloc (.cells #[.int .u8 0, .int .u8 0, .int .u16 0, .int .u8 0, .int .u8 0, .int .u16 0, .int .u32 0, .int .u32 0, .int .u64 0] 59) = W0 at k0 b0 hz ⊢
  have HZ := Lib.hid hz
  clear hz
  refine (read_any A 24 c _ l24 W0 ((rp.below b0).more b0.size) (Nat.le_refl _) (by omega)).mono ?_
  rintro e w1 ⟨g, rfl, h0, bb⟩
  go_wp2_with fail
  refine (u8_at l24 0 mg Hmg.out g _ _ h0 (by rw [HL.out]; omega)).mono ?_
  rintro e w2 ⟨rfl, h1, g0⟩
  replace bb := bb.trans (below_grown g0 h0.ge h0.lt)
  clear g0 h0
  go_wp2_with fail
  refine (u8_at l24 1 op Hop.out g _ _ h1 (by rw [HL.out]; omega)).mono ?_
  rintro e w3 ⟨rfl, h2, g1⟩
  replace bb := bb.trans (below_grown g1 h1.ge h1.lt)
  clear g1 h1
  go_wp2_with fail
  refine (u16_at l24 2 kl Hkl.out g _ _ h2 (by rw [HL.out]; omega)).mono ?_
  rintro e w4 ⟨rfl, h3, g2⟩
  replace bb := bb.trans (below_grown g2 h2.ge h2.lt)
  clear g2 h2
  go_wp2_with fail
  refine (u8_at l24 4 el Hel.out g _ _ h3 (by rw [HL.out]; omega)).mono ?_
  rintro e w5 ⟨rfl, h4, g3⟩
  replace bb := bb.trans (below_grown g3 h3.ge h3.lt)
  clear g3 h3
  go_wp2_with fail
  refine (u8_at l24 5 ty Hty.out g _ _ h4 (by rw [HL.out]; omega)).mono ?_
  rintro e w6 ⟨rfl, h5, g4⟩
  replace bb := bb.trans (below_grown g4 h4.ge h4.lt)
  clear g4 h4
  go_wp2_with fail
  refine (u16_at l24 6 st Hst.out g _ _ h5 (by rw [HL.out]; omega)).mono ?_
  rintro e w7 ⟨rfl, h6, g5⟩
  replace bb := bb.trans (below_grown g5 h5.ge h5.lt)
  clear g5 h5
  go_wp2_with fail
  refine (u32_at l24 8 bl Hbl.out g _ _ h6 (by rw [HL.out]; omega)).mono ?_
  rintro e w8 ⟨rfl, h7, g6⟩
  replace bb := bb.trans (below_grown g6 h6.ge h6.lt)
  clear g6 h6
  go_wp2_with fail
  refine (u32_at l24 12 oq Hoq.out g _ _ h7 (by rw [HL.out]; omega)).mono ?_
  rintro e w9 ⟨rfl, h8, g7⟩
  replace bb := bb.trans (below_grown g7 h7.ge h7.lt)
  clear g7 h7
  go_wp2_with fail
  refine (u64_at l24 16 cas Hcas.out g _ _ h8 (by rw [HL.out]; omega)).mono ?_
  rintro e w10 ⟨rfl, h9, g8⟩
  replace bb := bb.trans (below_grown g8 h8.ge h8.lt)
  clear g8 h8
  go_wp2_with fail
  refine (may_any mg op kl el ty st bl oq cas HF.out _).mono ?_
  rintro e w12 ⟨rfl, bm⟩
  rw [HM.out]
  have b12 : Below W0.heap.size W0 w12 := (bb.alloc bb.size _).trans (bm.mono (by simp; exact Nat.le_succ_of_le bb.size))
  have kx : Blk w12 w.heap.size #[.int .u8 0, .int .u8 0, .int .u16 0, .int .u8 0, .int .u8 0, .int .u16 0, .int .u32 0, .int .u32 0, .int .u64 0] 59 := (b12.block _ k0.lt).trans k0
  have bf := b0.trans (b12.mono (by rw [HZ.out]; omega))
  have k5 : Blk w12 w10.heap.size #[.int .u8 (mg : Nat), .int .u8 (op : Nat), .int .u16 (kl : Nat), .int .u8 (el : Nat), .int .u8 (ty : Nat), .int .u16 (st : Nat), .int .u32 (bl : Nat), .int .u32 (oq : Nat), .int .u64 (cas : Nat)] 59 := (Blk.new w10 _ _).step bm
  obtain ⟨p0, p1, p2, p3, p4, p5, p6, p7, p8⟩ := box9 k5
  obtain ⟨z0, z1, z2, z3, z4, z5, z6, z7, z8⟩ := box9 kx
  have y0 := kx.frozen 0
  have y1 := kx.frozen 1
  have y2 := kx.frozen 2
  have y3 := kx.frozen 3
  have y4 := kx.frozen 4
  have y5 := kx.frozen 5
  have y6 := kx.frozen 6
  have y7 := kx.frozen 7
  have y8 := kx.frozen 8
  have kf := blk_set9 kx (.int .u8 0) (.int .u8 0) (.int .u16 0) (.int .u8 0) (.int .u8 0) (.int .u16 0) (.int .u32 0) (.int .u32 0) (.int .u64 0)
  have hg := grown_set9 w12 w.heap.size (.int .u8 0) (.int .u8 0) (.int .u16 0) (.int .u8 0) (.int .u8 0) (.int .u16 0) (.int .u32 0) (.int .u32 0) (.int .u64 0)
  have bff := bf.trans (below_grown hg (Nat.le_refl _) kx.lt)
  obtain ⟨t0, t1, t2, t3, t4, t5, t6, t7, t8⟩ := box9 kf
  clear hg kf bb k0 kx k5
  go_wp2_with fail
  refine bodyPost_ret (v := .tuple #[.agg #[.int .u8 0, .int .u8 0, .int .u16 0, .int .u8 0, .int .u8 0, .int .u16 0, .int .u32 0, .int .u32 0, .int .u64 0], .int .i64 290]) (by simp [results, Try.results97, go_sem, t0, t1, t2, t3, t4, t5, t6, t7, t8]) rfl ?_
  exact ⟨rfl, bff⟩
end
end Go.Proofs.Ytnghmgbmflcngaa

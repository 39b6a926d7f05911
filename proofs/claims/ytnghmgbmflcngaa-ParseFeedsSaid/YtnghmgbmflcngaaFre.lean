/- frame.Make where nothing is wrong. Conditions: typed in each theorem. -/
import Derived.Test.YtnghmgbmflcngaaFrd
namespace Go.Proofs.Ytnghmgbmflcngaa
set_option linter.unusedVariables false
open Go.RowKit

/-- Twelve cells of a block, each written. -/
theorem blk_set12 {w : World} {g : Nat} {T : TypeId} {c0 c1 c2 c3 c4 c5 c6 c7 c8 c9 c10 c11 : Value} (h : Blk w g #[c0, c1, c2, c3, c4, c5, c6, c7, c8, c9, c10, c11] T) (v0 v1 v2 v3 v4 v5 v6 v7 v8 v9 v10 v11 : Value) : Blk ((((((((((((w.setCell ⟨g, 0, none⟩ v0).setCell ⟨g, 1, none⟩ v1).setCell ⟨g, 2, none⟩ v2).setCell ⟨g, 3, none⟩ v3).setCell ⟨g, 4, none⟩ v4).setCell ⟨g, 5, none⟩ v5).setCell ⟨g, 6, none⟩ v6).setCell ⟨g, 7, none⟩ v7).setCell ⟨g, 8, none⟩ v8).setCell ⟨g, 9, none⟩ v9).setCell ⟨g, 10, none⟩ v10).setCell ⟨g, 11, none⟩ v11) g #[v0, v1, v2, v3, v4, v5, v6, v7, v8, v9, v10, v11] T := by
  have h0 : Blk _ g #[v0, c1, c2, c3, c4, c5, c6, c7, c8, c9, c10, c11] T := h.set_ 0 v0
  have h1 : Blk _ g #[v0, v1, c2, c3, c4, c5, c6, c7, c8, c9, c10, c11] T := h0.set_ 1 v1
  have h2 : Blk _ g #[v0, v1, v2, c3, c4, c5, c6, c7, c8, c9, c10, c11] T := h1.set_ 2 v2
  have h3 : Blk _ g #[v0, v1, v2, v3, c4, c5, c6, c7, c8, c9, c10, c11] T := h2.set_ 3 v3
  have h4 : Blk _ g #[v0, v1, v2, v3, v4, c5, c6, c7, c8, c9, c10, c11] T := h3.set_ 4 v4
  have h5 : Blk _ g #[v0, v1, v2, v3, v4, v5, c6, c7, c8, c9, c10, c11] T := h4.set_ 5 v5
  have h6 : Blk _ g #[v0, v1, v2, v3, v4, v5, v6, c7, c8, c9, c10, c11] T := h5.set_ 6 v6
  have h7 : Blk _ g #[v0, v1, v2, v3, v4, v5, v6, v7, c8, c9, c10, c11] T := h6.set_ 7 v7
  have h8 : Blk _ g #[v0, v1, v2, v3, v4, v5, v6, v7, v8, c9, c10, c11] T := h7.set_ 8 v8
  have h9 : Blk _ g #[v0, v1, v2, v3, v4, v5, v6, v7, v8, v9, c10, c11] T := h8.set_ 9 v9
  have h10 : Blk _ g #[v0, v1, v2, v3, v4, v5, v6, v7, v8, v9, v10, c11] T := h9.set_ 10 v10
  have h11 : Blk _ g #[v0, v1, v2, v3, v4, v5, v6, v7, v8, v9, v10, v11] T := h10.set_ 11 v11
  exact h11
theorem grown_set12 (w : World) (g : Nat) (v0 v1 v2 v3 v4 v5 v6 v7 v8 v9 v10 v11 : Value) : w.grownBy ((((((((((((w.setCell ⟨g, 0, none⟩ v0).setCell ⟨g, 1, none⟩ v1).setCell ⟨g, 2, none⟩ v2).setCell ⟨g, 3, none⟩ v3).setCell ⟨g, 4, none⟩ v4).setCell ⟨g, 5, none⟩ v5).setCell ⟨g, 6, none⟩ v6).setCell ⟨g, 7, none⟩ v7).setCell ⟨g, 8, none⟩ v8).setCell ⟨g, 9, none⟩ v9).setCell ⟨g, 10, none⟩ v10).setCell ⟨g, 11, none⟩ v11) (some g) := grown_trans (grown_trans (grown_trans (grown_trans (grown_trans (grown_trans (grown_trans (grown_trans (grown_trans (grown_trans (grown_trans (rdr_grown_set w g 0 v0) (rdr_grown_set _ g 1 v1)) (rdr_grown_set _ g 2 v2)) (rdr_grown_set _ g 3 v3)) (rdr_grown_set _ g 4 v4)) (rdr_grown_set _ g 5 v5)) (rdr_grown_set _ g 6 v6)) (rdr_grown_set _ g 7 v7)) (rdr_grown_set _ g 8 v8)) (rdr_grown_set _ g 9 v9)) (rdr_grown_set _ g 10 v10)) (rdr_grown_set _ g 11 v11)
def MakeOk (mg op oq : Nat) (nx nk nv : Nat) (lx lk lv : List UInt8) (w : World) (e : Ending) (w' : World) : Prop :=
  ∃ (X K V : Option Addr) (cx ck cv : Nat), e = .returned (.tuple #[frV mg op nk nx 0 0 (nx + nk + nv) oq 0 (.slice X nx cx) (.slice K nk ck) (.slice V nv cv), .int .i64 0]) ∧ Rd w' w'.heap.size X nx cx lx ∧ Rd w' w'.heap.size K nk ck lk ∧ Rd w' w'.heap.size V nv cv lv ∧ Below w.heap.size w w'
set_option maxRecDepth 100000 in
set_option maxHeartbeats 8000000 in
theorem make_Oa (op oq : Nat) (hop : op < 256) (hoq : oq < 4294967296) (X K V : Option Addr) (nx cx nk ck nv cv : Nat) (hl : ¬ tooLong nx nk nv) (lx lk lv : List UInt8) (w : World)
    (rx : Rd w w.heap.size X nx cx lx) (rk : Rd w w.heap.size K nk ck lk) (rv : Rd w w.heap.size V nv cv lv) :
    Calls Try.prog 89 #[.int .u8 128, .int .u8 op, .int .u32 oq, .slice X nx cx, .slice K nk ck, .slice V nv cv] w (MakeOk 128 op oq nx nk nv lx lk lv w) := by
  unfold tooLong at hl
  have a1 : nx ≤ 255 := by omega
  have a2 : nk ≤ 65535 := by omega
  have a3 : nv ≤ 2048 := by omega
  have a4 : nx + nk + nv ≤ 2048 := by omega
  clear hl
  have b : Below w.heap.size w ((w.alloc (.cells #[.int .u8 0, .int .u8 0, .int .u16 0, .int .u8 0, .int .u8 0, .int .u16 0, .int .u32 0, .int .u32 0, .int .u64 0, .slice none 0 0, .slice none 0 0, .slice none 0 0] 61)).alloc (.cells #[.int .u8 128, .int .u8 op, .int .u16 nk, .int .u8 nx, .int .u8 0, .int .u16 0, .int .u32 ((nx : Int) + nk + nv), .int .u32 oq, .int .u64 0] 59)).drew := (below_a1' (below_a1' (Below.refl _ _) _) _).drew
  have k0 : Blk ((w.alloc (.cells #[.int .u8 0, .int .u8 0, .int .u16 0, .int .u8 0, .int .u8 0, .int .u16 0, .int .u32 0, .int .u32 0, .int .u64 0, .slice none 0 0, .slice none 0 0, .slice none 0 0] 61)).alloc (.cells #[.int .u8 128, .int .u8 op, .int .u16 nk, .int .u8 nx, .int .u8 0, .int .u16 0, .int .u32 ((nx : Int) + nk + nv), .int .u32 oq, .int .u64 0] 59)).drew w.heap.size #[.int .u8 0, .int .u8 0, .int .u16 0, .int .u8 0, .int .u8 0, .int .u16 0, .int .u32 0, .int .u32 0, .int .u64 0, .slice none 0 0, .slice none 0 0, .slice none 0 0] 61 := (Blk.new w _ _).alloc _
  have k1 : Blk ((w.alloc (.cells #[.int .u8 0, .int .u8 0, .int .u16 0, .int .u8 0, .int .u8 0, .int .u16 0, .int .u32 0, .int .u32 0, .int .u64 0, .slice none 0 0, .slice none 0 0, .slice none 0 0] 61)).alloc (.cells #[.int .u8 128, .int .u8 op, .int .u16 nk, .int .u8 nx, .int .u8 0, .int .u16 0, .int .u32 ((nx : Int) + nk + nv), .int .u32 oq, .int .u64 0] 59)).drew (w.heap.size + 1) #[.int .u8 128, .int .u8 op, .int .u16 nk, .int .u8 nx, .int .u8 0, .int .u16 0, .int .u32 ((nx : Int) + nk + nv), .int .u32 oq, .int .u64 0] 59 := by
    have := Blk.new (w.alloc (.cells #[.int .u8 0, .int .u8 0, .int .u16 0, .int .u8 0, .int .u8 0, .int .u16 0, .int .u32 0, .int .u32 0, .int .u64 0, .slice none 0 0, .slice none 0 0, .slice none 0 0] 61)) #[.int .u8 128, .int .u8 op, .int .u16 nk, .int .u8 nx, .int .u8 0, .int .u16 0, .int .u32 ((nx : Int) + nk + nv), .int .u32 oq, .int .u64 0] 59
    simp only [World.size_alloc] at this
    exact this
  obtain ⟨p0, p1, p2, p3, p4, p5, p6, p7, p8⟩ := box9 k1
  obtain ⟨z0, z1, z2, z3, z4, z5, z6, z7, z8, z9, z10, z11⟩ := box12 k0
  have y0 := k0.frozen 0
  have y1 := k0.frozen 1
  have y2 := k0.frozen 2
  have y3 := k0.frozen 3
  have y4 := k0.frozen 4
  have y5 := k0.frozen 5
  have y6 := k0.frozen 6
  have y7 := k0.frozen 7
  have y8 := k0.frozen 8
  have y9 := k0.frozen 9
  have y10 := k0.frozen 10
  have y11 := k0.frozen 11
  go_enter Try.func89, Try.ntmps89
  go_wp2_with fail
  go_region_held3 (fun w' => w'.cell? ⟨w.heap.size + 1, 0, none⟩ = some (.int .u8 128) ∧ w'.cell? ⟨w.heap.size + 1, 1, none⟩ = some (.int .u8 op) ∧ w'.cell? ⟨w.heap.size + 1, 2, none⟩ = some (.int .u16 nk) ∧ w'.cell? ⟨w.heap.size + 1, 3, none⟩ = some (.int .u8 nx) ∧ w'.cell? ⟨w.heap.size + 1, 4, none⟩ = some (.int .u8 0) ∧ w'.cell? ⟨w.heap.size + 1, 5, none⟩ = some (.int .u16 0) ∧ w'.cell? ⟨w.heap.size + 1, 6, none⟩ = some (.int .u32 ((nx : Int) + nk + nv)) ∧ w'.cell? ⟨w.heap.size + 1, 7, none⟩ = some (.int .u32 oq) ∧ w'.cell? ⟨w.heap.size + 1, 8, none⟩ = some (.int .u64 0)) (first | (with_reducible exact ⟨p0, p1, p2, p3, p4, p5, p6, p7, p8⟩) | go_keep)
      (first
        | (go_at_call 99
           have ltX := k0.lt
           refine (clone_any X nx cx w.heap.size lx _ (rx.below b) b.size (by omega)).mono ?_
           rintro e wz ⟨AX, cX, rfl, oX, bz⟩
           replace k0 := k0.step bz
           replace k1 := k1.step bz
           replace b := below_step b bz
           try replace oK := Own.step oK bz
           try replace oV := Own.step oV bz
           clear bz p0 p1 p2 p3 p4 p5 p6 p7 p8 z0 z1 z2 z3 z4 z5 z6 z7 z8 z9 z10 z11 y0 y1 y2 y3 y4 y5 y6 y7 y8 y9 y10 y11
           obtain ⟨z0, z1, z2, z3, z4, z5, z6, z7, z8, z9, z10, z11⟩ := box12 k0
           have y0 := k0.frozen 0
           have y1 := k0.frozen 1
           have y2 := k0.frozen 2
           have y3 := k0.frozen 3
           have y4 := k0.frozen 4
           have y5 := k0.frozen 5
           have y6 := k0.frozen 6
           have y7 := k0.frozen 7
           have y8 := k0.frozen 8
           have y9 := k0.frozen 9
           have y10 := k0.frozen 10
           have y11 := k0.frozen 11
           obtain ⟨p0, p1, p2, p3, p4, p5, p6, p7, p8⟩ := box9 k1)
        | (go_at_call 99
           have ltK := k0.lt
           refine (clone_any K nk ck w.heap.size lk _ (rk.below b) b.size (by omega)).mono ?_
           rintro e wz ⟨AK, cK, rfl, oK, bz⟩
           replace k0 := k0.step bz
           replace k1 := k1.step bz
           replace b := below_step b bz
           try replace oX := Own.step oX bz
           try replace oV := Own.step oV bz
           clear bz p0 p1 p2 p3 p4 p5 p6 p7 p8 z0 z1 z2 z3 z4 z5 z6 z7 z8 z9 z10 z11 y0 y1 y2 y3 y4 y5 y6 y7 y8 y9 y10 y11
           obtain ⟨z0, z1, z2, z3, z4, z5, z6, z7, z8, z9, z10, z11⟩ := box12 k0
           have y0 := k0.frozen 0
           have y1 := k0.frozen 1
           have y2 := k0.frozen 2
           have y3 := k0.frozen 3
           have y4 := k0.frozen 4
           have y5 := k0.frozen 5
           have y6 := k0.frozen 6
           have y7 := k0.frozen 7
           have y8 := k0.frozen 8
           have y9 := k0.frozen 9
           have y10 := k0.frozen 10
           have y11 := k0.frozen 11
           obtain ⟨p0, p1, p2, p3, p4, p5, p6, p7, p8⟩ := box9 k1)
        | (go_at_call 99
           have ltV := k0.lt
           refine (clone_any V nv cv w.heap.size lv _ (rv.below b) b.size (by omega)).mono ?_
           rintro e wz ⟨AV, cV, rfl, oV, bz⟩
           replace k0 := k0.step bz
           replace k1 := k1.step bz
           replace b := below_step b bz
           try replace oX := Own.step oX bz
           try replace oK := Own.step oK bz
           clear bz p0 p1 p2 p3 p4 p5 p6 p7 p8 z0 z1 z2 z3 z4 z5 z6 z7 z8 z9 z10 z11 y0 y1 y2 y3 y4 y5 y6 y7 y8 y9 y10 y11
           obtain ⟨z0, z1, z2, z3, z4, z5, z6, z7, z8, z9, z10, z11⟩ := box12 k0
           have y0 := k0.frozen 0
           have y1 := k0.frozen 1
           have y2 := k0.frozen 2
           have y3 := k0.frozen 3
           have y4 := k0.frozen 4
           have y5 := k0.frozen 5
           have y6 := k0.frozen 6
           have y7 := k0.frozen 7
           have y8 := k0.frozen 8
           have y9 := k0.frozen 9
           have y10 := k0.frozen 10
           have y11 := k0.frozen 11
           obtain ⟨p0, p1, p2, p3, p4, p5, p6, p7, p8⟩ := box9 k1))
  all_goals
    have kf := blk_set12 k0 (.int .u8 128) (.int .u8 op) (.int .u16 nk) (.int .u8 nx) (.int .u8 0) (.int .u16 0) (.int .u32 ((nx : Int) + nk + nv)) (.int .u32 oq) (.int .u64 0) (.slice AX nx cX) (.slice AK nk cK) (.slice AV nv cV)
    have hg := grown_set12 wz w.heap.size (.int .u8 128) (.int .u8 op) (.int .u16 nk) (.int .u8 nx) (.int .u8 0) (.int .u16 0) (.int .u32 ((nx : Int) + nk + nv)) (.int .u32 oq) (.int .u64 0) (.slice AX nx cX) (.slice AK nk cK) (.slice AV nv cV)
    have bf := b.trans (below_grown hg (Nat.le_refl _) k0.lt)
    have rX := (oX.kept hg ltX).rd
    have rK := (oK.kept hg ltK).rd
    have rV := (oV.kept hg ltV).rd
    obtain ⟨t0, t1, t2, t3, t4, t5, t6, t7, t8, t9, t10, t11⟩ := box12 kf
    clear hg b k0 k1 oX oK oV p0 p1 p2 p3 p4 p5 p6 p7 p8
    go_wp2_with fail
    refine bodyPost_ret (v := .tuple #[.agg #[.int .u8 128, .int .u8 op, .int .u16 nk, .int .u8 nx, .int .u8 0, .int .u16 0, .int .u32 ((nx : Int) + nk + nv), .int .u32 oq, .int .u64 0, .slice AX nx cX, .slice AK nk cK, .slice AV nv cV], .int .i64 0]) (by simp [results, Try.results89, go_sem, t0, t1, t2, t3, t4, t5, t6, t7, t8, t9, t10, t11]) rfl ?_
    exact ⟨AX, AK, AV, cX, cK, cV, rfl, rX, rK, rV, bf⟩
end Go.Proofs.Ytnghmgbmflcngaa

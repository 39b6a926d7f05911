/- A frame in bytes: frame.Put; what is wrong with it. Conditions: typed in each theorem. -/
import Derived.Test.YtnghmgbmflcngaaFrb
namespace Go.Proofs.Ytnghmgbmflcngaa
set_option linter.unusedVariables false
open Go.RowKit

theorem wrong19_any (mg op kl el ty st bl oq cas : Nat) (hf : HdF mg op kl el ty st bl oq cas) (X K V : Option Addr) (nx cx nk ck nv cv : Nat) (hn : nx + nk + nv ≤ 9223372036854775807) (w : World) :
    Calls Try.prog 54 #[frV mg op kl el ty st bl oq cas (.slice X nx cx) (.slice K nk ck) (.slice V nv cv)] w (BoxQ (.int .i64 (wrongE mg kl el bl nx nk nv)) w) := by
  by_cases h0 : mayB mg kl el bl = true
  · by_cases h1 : nx = el
    · by_cases h2 : nk = kl
      · by_cases h3 : nx + nk + nv = bl
        · by_cases h4 : 2048 < bl
          · rw [show wrongE mg kl el bl nx nk nv = 3 from by unfold wrongE; rw [if_pos ⟨h0, h1, h2, h3⟩, if_pos h4]]
            exact wrong19_L mg op kl el ty st bl oq cas hf X K V nx cx nk ck nv cv hn h0 h1 h2 h3 h4 w
          · rw [show wrongE mg kl el bl nx nk nv = 0 from by unfold wrongE; rw [if_pos ⟨h0, h1, h2, h3⟩, if_neg h4]]
            exact wrong19_O mg op kl el ty st bl oq cas hf X K V nx cx nk ck nv cv hn h0 h1 h2 h3 h4 w
        · rw [show wrongE mg kl el bl nx nk nv = 290 from by unfold wrongE; rw [if_neg (by omega)]]
          exact wrong19_S mg op kl el ty st bl oq cas hf X K V nx cx nk ck nv cv hn h0 h1 h2 h3 w
      · rw [show wrongE mg kl el bl nx nk nv = 290 from by unfold wrongE; rw [if_neg (by omega)]]
        exact wrong19_K mg op kl el ty st bl oq cas hf X K V nx cx nk ck nv cv hn h0 h1 h2 w
    · rw [show wrongE mg kl el bl nx nk nv = 290 from by unfold wrongE; rw [if_neg (by omega)]]
      exact wrong19_X mg op kl el ty st bl oq cas hf X K V nx cx nk ck nv cv hn h0 h1 w
  · rw [show wrongE mg kl el bl nx nk nv = 290 from by unfold wrongE; rw [if_neg (fun h => h0 h.1)]]
    exact wrong19_M mg op kl el ty st bl oq cas hf X K V nx cx nk ck nv cv hn (by simpa using h0) w

theorem rd_four {w : World} {B B2 : Nat} {A X K V : Option Addr} {n c nx cx nk ck nv cv : Nat} {l lx lk lv : List UInt8} (h : Own w B2 A n c l) (hx : Rd w B X nx cx lx) (hk : Rd w B K nk ck lk) (hv : Rd w B V nv cv lv) (hB : B ≤ w.heap.size) (o : Obj) :
    ∀ p ∈ [(A, n, c, l), (X, nx, cx, lx), (K, nk, ck, lk), (V, nv, cv, lv)], Rd (w.alloc o) (w.alloc o).heap.size p.1 p.2.1 p.2.2.1 p.2.2.2 := by
  intro p hp
  simp only [List.mem_cons, List.not_mem_nil, or_false] at hp
  have hz : w.heap.size ≤ (w.alloc o).heap.size := by simp
  rcases hp with rfl | rfl | rfl | rfl
  · exact (h.rd.alloc (Nat.le_refl _) o).more hz
  · exact (hx.alloc hB o).more (Nat.le_trans hB hz)
  · exact (hk.alloc hB o).more (Nat.le_trans hB hz)
  · exact (hv.alloc hB o).more (Nat.le_trans hB hz)
def PutOk (N : Nat) (l : List UInt8) (w : World) (e : Ending) (w' : World) : Prop := ∃ A' c', e = .returned (.tuple #[.slice A' N c', .int .i64 0]) ∧ Own w' w.heap.size A' N c' l ∧ Below w.heap.size w w'
set_option maxRecDepth 100000 in
set_option maxHeartbeats 2000000 in
theorem put_O (mg op kl el ty st bl oq cas : Nat) (hf : HdF mg op kl el ty st bl oq cas) (X K V : Option Addr) (nx cx nk ck nv cv : Nat) (hn : nx + nk + nv ≤ 9223372036854775807) (h0 : mayB mg kl el bl = true) (h1 : nx = el) (h2 : nk = kl) (h3 : nx + nk + nv = bl) (h4 : ¬ 2048 < bl)
    (lx lk lv : List UInt8) (w : World) (rx : Rd w w.heap.size X nx cx lx) (rk : Rd w w.heap.size K nk ck lk) (rv : Rd w w.heap.size V nv cv lv) :
    Calls Try.prog 58 #[frV mg op kl el ty st bl oq cas (.slice X nx cx) (.slice K nk ck) (.slice V nv cv)] w (PutOk (24 + nx + nk + nv) (hdB mg op kl el ty st bl oq cas ++ lx ++ lk ++ lv) w) := by
  have HF := Lib.hid hf
  obtain ⟨f0, f1, f2, f3, f4, f5, f6, f7, f8⟩ := hf
  have k0 : Blk _ _ (frC mg op kl el ty st bl oq cas (.slice X nx cx) (.slice K nk ck) (.slice V nv cv)) _ := Blk.new w _ 61
  have k1 := Blk.new (w.alloc (.cells (frC mg op kl el ty st bl oq cas (.slice X nx cx) (.slice K nk ck) (.slice V nv cv)) 61)) #[.int .u8 mg, .int .u8 op, .int .u16 kl, .int .u8 el, .int .u8 ty, .int .u16 st, .int .u32 bl, .int .u32 oq, .int .u64 cas] 59
  have b : Below w.heap.size w ((w.alloc (.cells (frC mg op kl el ty st bl oq cas (.slice X nx cx) (.slice K nk ck) (.slice V nv cv)) 61)).alloc (.cells #[.int .u8 mg, .int .u8 op, .int .u16 kl, .int .u8 el, .int .u8 ty, .int .u16 st, .int .u32 bl, .int .u32 oq, .int .u64 cas] 59)) := below_a1' (below_a1' (Below.refl _ _) _) _
  unfold frV
  unfold frC at k0 k1 b ⊢
  simp only [World.size_alloc] at k1
  obtain ⟨q0, q1, q2, q3, q4, q5, q6, q7, q8, q9, q10, q11⟩ := box12 k0
  have HM := Lib.hid h0
  have tX := neIf (x := (nx : Int)) (y := (el : Int)) (by omega)
  have tK := neIf (x := (nk : Int)) (y := (kl : Int)) (by omega)
  have tS := neIf (x := (nx : Int) + nk + nv) (y := (bl : Int)) (by omega)
  have hsum : nx + nk + nv ≤ 2048 := by omega
  clear h0 h1 h2 h3
  go_enter Try.func58, Try.ntmps58
  go_wp2_with fail
  refine (may_any mg op kl el ty st bl oq cas HF.out _).mono ?_
  rintro e w1 ⟨rfl, b1⟩
  rw [HM.out]
  replace k0 := (k0.alloc _).step b1
  replace k1 := k1.step b1
  replace b := below_step b b1
  clear q0 q1 q2 q3 q4 q5 q6 q7 q8 q9 q10 q11 b1
  obtain ⟨q0, q1, q2, q3, q4, q5, q6, q7, q8, q9, q10, q11⟩ := box12 k0
  obtain ⟨p0, p1, p2, p3, p4, p5, p6, p7, p8⟩ := box9 k1
  go_wp2_with fail
  go_region_held3 (fun w' => w'.cell? ⟨w.heap.size, 9, none⟩ = some (.slice X nx cx) ∧ w'.cell? ⟨w.heap.size, 10, none⟩ = some (.slice K nk ck) ∧ w'.cell? ⟨w.heap.size, 11, none⟩ = some (.slice V nv cv) ∧
      w'.cell? ⟨w.heap.size + 1, 0, none⟩ = some (.int .u8 mg) ∧ w'.cell? ⟨w.heap.size + 1, 1, none⟩ = some (.int .u8 op) ∧ w'.cell? ⟨w.heap.size + 1, 2, none⟩ = some (.int .u16 kl) ∧ w'.cell? ⟨w.heap.size + 1, 3, none⟩ = some (.int .u8 el) ∧ w'.cell? ⟨w.heap.size + 1, 4, none⟩ = some (.int .u8 ty) ∧
      w'.cell? ⟨w.heap.size + 1, 5, none⟩ = some (.int .u16 st) ∧ w'.cell? ⟨w.heap.size + 1, 6, none⟩ = some (.int .u32 bl) ∧ w'.cell? ⟨w.heap.size + 1, 7, none⟩ = some (.int .u32 oq) ∧ w'.cell? ⟨w.heap.size + 1, 8, none⟩ = some (.int .u64 cas)) (first | (with_reducible exact ⟨q9, q10, q11, p0, p1, p2, p3, p4, p5, p6, p7, p8⟩) | go_keep)
    (first
      | (go_at_call 104
         refine (putHeader_any mg op kl el ty st bl oq cas HF.out _).mono ?_
         rintro e w2 ⟨A2, c2, rfl, o2, b2⟩
         replace k0 : Blk w2 w.heap.size _ _ := Blk.step (w := w1.drew) k0 b2
         replace k1 : Blk w2 (w.heap.size + 1) _ _ := Blk.step (w := w1.drew) k1 b2
         replace b := below_step (w1 := w1.drew) b.drew b2
         clear q0 q1 q2 q3 q4 q5 q6 q7 q8 q9 q10 q11 p0 p1 p2 p3 p4 p5 p6 p7 p8
         obtain ⟨q0, q1, q2, q3, q4, q5, q6, q7, q8, q9, q10, q11⟩ := box12 k0
         obtain ⟨p0, p1, p2, p3, p4, p5, p6, p7, p8⟩ := box9 k1)
      | (go_at_call 103
         refine (concat_any (some ⟨w2.heap.size, 0, none⟩) 4 4 [(A2, 24, c2, hdB mg op kl el ty st bl oq cas), (X, nx, cx, lx), (K, nk, ck, lk), (V, nv, cv, lv)] (24 + nx + nk + nv) _ (Ov.rv (Ov.lit w2 _ _ 0 4 _ (Nat.zero_le _) (by simp [maxLen]) rfl rfl)) (rd_four o2 (rx.below b) (rk.below b) (rv.below b) b.size _) (by simp [catB, hdB_length, rx.len, rk.len, rv.len]; omega) (by omega)).mono ?_
         rintro e w3 ⟨A3, c3, rfl, o3, b3⟩
         rw [show catB [(A2, 24, c2, hdB mg op kl el ty st bl oq cas), (X, nx, cx, lx), (K, nk, ck, lk), (V, nv, cv, lv)] = hdB mg op kl el ty st bl oq cas ++ lx ++ lk ++ lv from by simp [catB]] at o3
         have hz : w.heap.size ≤ (w2.alloc (.cells #[.slice A2 24 c2, .slice X nx cx, .slice K nk ck, .slice V nv cv] 23)).heap.size := by have := b.size; simp; omega
         replace k0 := (k0.alloc _).step b3
         replace k1 := (k1.alloc _).step b3
         replace b := below_step (below_a1 b (Nat.le_refl _) _) b3
         replace o3 := o3.more hz
         clear q0 q1 q2 q3 q4 q5 q6 q7 q8 q9 q10 q11 p0 p1 p2 p3 p4 p5 p6 p7 p8 hz
         obtain ⟨q0, q1, q2, q3, q4, q5, q6, q7, q8, q9, q10, q11⟩ := box12 k0
         obtain ⟨p0, p1, p2, p3, p4, p5, p6, p7, p8⟩ := box9 k1))
  go_wp2_with fail
  go_ret2
  exact ⟨A3, c3, rfl, o3, b⟩
end Go.Proofs.Ytnghmgbmflcngaa

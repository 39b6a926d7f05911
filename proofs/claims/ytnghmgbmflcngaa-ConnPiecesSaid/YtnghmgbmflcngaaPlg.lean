/- The plain answer to whatever request, by its number. Conditions: typed in each theorem. -/
import Derived.Test.YtnghmgbmflcngaaPln
import Derived.Deep.DeepCutAuto
namespace Go.Proofs.Ytnghmgbmflcngaa
set_option linter.unusedVariables false
open Go.RowKit

/-- The status of the plain answer to request number n. -/
def plS (q : RQ) (n : Nat) : Int := if q.bd ≠ 0 then q.bd else if q.op = 7 then 0 else if n % 3 = 0 then 132 else 0
set_option maxRecDepth 100000 in
set_option maxHeartbeats 4000000 in
theorem plain_any (q : RQ) (KV VV : Value) (n : Nat) (w : World) : Calls Try.prog 70 #[reqV q.op q.qt q.fu q.bd q.oq KV VV q.fl q.ex q.cs q.dl q.ni, .int .i64 (n : Nat)] w (fun e w' => e = .returned (ansV (plS q n) (.slice none 0 0) 0 0 0 (.slice none 0 0) (plC q)) ∧ Below w.heap.size w w') := by
  obtain ⟨op, qt, fu, bd, oq, lk, lv, fl, ex, cs, dl, ni⟩ := q
  dsimp only
  have k1 := (Blk.new w #[.int .i64 op, .bool qt, .bool fu, .int .i64 bd, .int .u32 (oq : Nat), KV, VV, .int .u32 (fl : Nat), .int .u32 (ex : Nat), .int .u64 (cs : Nat), .int .u64 (dl : Nat), .int .u64 (ni : Nat)] 26).alloc (.cells #[.int .i64 0, .slice none 0 0, .int .u32 0, .int .u64 0, .int .u64 0, .slice none 0 0, .bool false] 29)
  have k2 := Blk.new (w.alloc (.cells #[.int .i64 op, .bool qt, .bool fu, .int .i64 bd, .int .u32 (oq : Nat), KV, VV, .int .u32 (fl : Nat), .int .u32 (ex : Nat), .int .u64 (cs : Nat), .int .u64 (dl : Nat), .int .u64 (ni : Nat)] 26)) #[.int .i64 0, .slice none 0 0, .int .u32 0, .int .u64 0, .int .u64 0, .slice none 0 0, .bool false] 29
  rw [World.size_alloc] at k2
  have b := below_a1' (below_a1' (Below.refl w.heap.size w) (.cells #[.int .i64 op, .bool qt, .bool fu, .int .i64 bd, .int .u32 (oq : Nat), KV, VV, .int .u32 (fl : Nat), .int .u32 (ex : Nat), .int .u64 (cs : Nat), .int .u64 (dl : Nat), .int .u64 (ni : Nat)] 26)) (.cells #[.int .i64 0, .slice none 0 0, .int .u32 0, .int .u64 0, .int .u64 0, .slice none 0 0, .bool false] 29)
  unfold reqV
  go_enter Try.func70, Try.ntmps70
  go_upto_region 1 with fail
  generalize (w.alloc (.cells #[.int .i64 op, .bool qt, .bool fu, .int .i64 bd, .int .u32 (oq : Nat), KV, VV, .int .u32 (fl : Nat), .int .u32 (ex : Nat), .int .u64 (cs : Nat), .int .u64 (dl : Nat), .int .u64 (ni : Nat)] 26)).alloc (.cells #[.int .i64 0, .slice none 0 0, .int .u32 0, .int .u64 0, .int .u64 0, .slice none 0 0, .bool false] 29) = W0 at k1 k2 b ⊢
  obtain ⟨q0, q1, q2, q3, q4, q5, q6, q7, q8, q9, q10, q11⟩ := box12 k1
  obtain ⟨z0, z1, z2, z3, z4, z5, z6⟩ := box7 k2
  have y0 := k2.frozen 0
  have y1 := k2.frozen 1
  have y2 := k2.frozen 2
  have y3 := k2.frozen 3
  have y4 := k2.frozen 4
  have y5 := k2.frozen 5
  have y6 := k2.frozen 6
  by_cases hb : bd = 0
  · have f0 : (bd != 0) = false := bne_eq_false_iff_eq.2 hb
    have HB0 := Lib.hid hb
    clear hb
    by_cases h7 : op = 7
    · have f7 : (op == 7) = true := beq_iff_eq.2 h7
      have HC : Hid (plC ⟨op, qt, fu, bd, oq, lk, lv, fl, ex, cs, dl, ni⟩ = true) := Lib.hid (decide_eq_true ⟨HB0.out, h7⟩)
      have HS : Hid (plS ⟨op, qt, fu, bd, oq, lk, lv, fl, ex, cs, dl, ni⟩ n = 0) := Lib.hid (by unfold plS; rw [if_neg (fun h => h HB0.out), if_pos h7])
      clear h7
      have kf := blk_put7 k2 (.int .i64 0) (.slice none 0 0) (.int .u32 0) (.int .u64 0) (.int .u64 0) (.slice none 0 0) (.bool true)
      have gf := grown_put7 W0 (w.heap.size + 1) (.int .i64 0) (.slice none 0 0) (.int .u32 0) (.int .u64 0) (.int .u64 0) (.slice none 0 0) (.bool true)
      have HBB := Lib.hid (b.trans (below_grown gf (by omega) k2.lt))
      obtain ⟨t0, t1, t2, t3, t4, t5, t6⟩ := box7 kf
      clear kf gf b k1 k2
      go_wp2_with fail
      refine bodyPost_ret (v := .agg #[.int .i64 0, .slice none 0 0, .int .u32 0, .int .u64 0, .int .u64 0, .slice none 0 0, .bool true]) (by simp [results, Try.results70, go_sem, t0, t1, t2, t3, t4, t5, t6]) rfl ?_
      exact ⟨by rw [HC.out, HS.out]; rfl, HBB.out⟩
    · have f7 : (op == 7) = false := beq_eq_false_iff_ne.2 h7
      have HC : Hid (plC ⟨op, qt, fu, bd, oq, lk, lv, fl, ex, cs, dl, ni⟩ = false) := Lib.hid (decide_eq_false (fun h => h7 h.2))
      have HO7 := Lib.hid h7
      clear h7
      by_cases h3 : n % 3 = 0
      · have f3 : ((n : Int) % 3 == 0) = true := by rw [beq_iff_eq]; omega
        have HS : Hid (plS ⟨op, qt, fu, bd, oq, lk, lv, fl, ex, cs, dl, ni⟩ n = 132) := Lib.hid (by unfold plS; rw [if_neg (fun h => h HB0.out), if_neg HO7.out, if_pos h3])
        clear h3
        have kf := blk_put7 k2 (.int .i64 132) (.slice none 0 0) (.int .u32 0) (.int .u64 0) (.int .u64 0) (.slice none 0 0) (.bool false)
        have gf := grown_put7 W0 (w.heap.size + 1) (.int .i64 132) (.slice none 0 0) (.int .u32 0) (.int .u64 0) (.int .u64 0) (.slice none 0 0) (.bool false)
        have HBB := Lib.hid (b.trans (below_grown gf (by omega) k2.lt))
        obtain ⟨t0, t1, t2, t3, t4, t5, t6⟩ := box7 kf
        clear kf gf b k1 k2
        go_wp2_with fail
        refine bodyPost_ret (v := .agg #[.int .i64 132, .slice none 0 0, .int .u32 0, .int .u64 0, .int .u64 0, .slice none 0 0, .bool false]) (by simp [results, Try.results70, go_sem, t0, t1, t2, t3, t4, t5, t6]) rfl ?_
        exact ⟨by rw [HC.out, HS.out]; rfl, HBB.out⟩
      · have f3 : ((n : Int) % 3 == 0) = false := by rw [beq_eq_false_iff_ne]; omega
        have HS : Hid (plS ⟨op, qt, fu, bd, oq, lk, lv, fl, ex, cs, dl, ni⟩ n = 0) := Lib.hid (by unfold plS; rw [if_neg (fun h => h HB0.out), if_neg HO7.out, if_neg h3])
        clear h3
        have kf := blk_put7 k2 (.int .i64 0) (.slice none 0 0) (.int .u32 0) (.int .u64 0) (.int .u64 0) (.slice none 0 0) (.bool false)
        have gf := grown_put7 W0 (w.heap.size + 1) (.int .i64 0) (.slice none 0 0) (.int .u32 0) (.int .u64 0) (.int .u64 0) (.slice none 0 0) (.bool false)
        have HBB := Lib.hid (b.trans (below_grown gf (by omega) k2.lt))
        obtain ⟨t0, t1, t2, t3, t4, t5, t6⟩ := box7 kf
        clear kf gf b k1 k2
        go_wp2_with fail
        refine bodyPost_ret (v := .agg #[.int .i64 0, .slice none 0 0, .int .u32 0, .int .u64 0, .int .u64 0, .slice none 0 0, .bool false]) (by simp [results, Try.results70, go_sem, t0, t1, t2, t3, t4, t5, t6]) rfl ?_
        exact ⟨by rw [HC.out, HS.out]; rfl, HBB.out⟩
  · have f0 : (bd != 0) = true := bne_iff_ne.2 hb
    have HC : Hid (plC ⟨op, qt, fu, bd, oq, lk, lv, fl, ex, cs, dl, ni⟩ = false) := Lib.hid (decide_eq_false (fun h => hb h.1))
    have HS : Hid (plS ⟨op, qt, fu, bd, oq, lk, lv, fl, ex, cs, dl, ni⟩ n = bd) := Lib.hid (if_pos hb)
    clear hb
    have kf := blk_put7 k2 (.int .i64 bd) (.slice none 0 0) (.int .u32 0) (.int .u64 0) (.int .u64 0) (.slice none 0 0) (.bool false)
    have gf := grown_put7 W0 (w.heap.size + 1) (.int .i64 bd) (.slice none 0 0) (.int .u32 0) (.int .u64 0) (.int .u64 0) (.slice none 0 0) (.bool false)
    have HBB := Lib.hid (b.trans (below_grown gf (by omega) k2.lt))
    obtain ⟨t0, t1, t2, t3, t4, t5, t6⟩ := box7 kf
    clear kf gf b k1 k2
    go_wp2_with fail
    refine bodyPost_ret (v := .agg #[.int .i64 bd, .slice none 0 0, .int .u32 0, .int .u64 0, .int .u64 0, .slice none 0 0, .bool false]) (by simp [results, Try.results70, go_sem, t0, t1, t2, t3, t4, t5, t6]) rfl ?_
    exact ⟨by rw [HC.out, HS.out]; rfl, HBB.out⟩
end Go.Proofs.Ytnghmgbmflcngaa

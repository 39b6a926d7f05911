/- record.Need, Decode. Conditions: typed in each theorem. -/
import Derived.Test.YtkdkmdjfimnkaaaReg
import Derived.Test.YtkdkmdjfimnkaaaSlc
import Derived.Deep.RegionHeld3
namespace Go.Proofs.Ytkdkmdjfimnkaaa
set_option linter.unusedVariables false
open Go.RowKit

theorem neInt' {x : Int} (h : x ≠ 0) : (x != 0) = true := by rw [bne_iff_ne]; exact h
/-- The error that a record's head tells. -/
def headE (l : List UInt8) : Int := if l.length < 21 then 9 else if rightR (fld l 0 1 : Nat) (fld l 1 4) (fld l 5 4) (fld l 9 8) (fld l 17 2) (fld l 19 2) = true then 0 else 160
theorem head_no (A : Option Addr) (n c : Nat) (l : List UInt8) (w : World) (h : Rd w w.heap.size A n c l) (hn2 : n ≤ 281474976710656) (he : headE l ≠ 0) : Calls Try.prog 30 #[.slice A n c] w (HeadNo (headE l) w) := by
  have hl := h.len
  by_cases hn : n < 21
  · have e : headE l = 9 := by unfold headE; rw [if_pos (by omega)]
    rw [e]
    exact head_short A n c hn w
  · by_cases hr : rightR (fld l 0 1 : Nat) (fld l 1 4) (fld l 5 4) (fld l 9 8) (fld l 17 2) (fld l 19 2) = true
    · exact absurd (by unfold headE; rw [if_neg (by omega), if_pos hr]) he
    · have e : headE l = 160 := by unfold headE; rw [if_neg (by omega), if_neg hr]
      rw [e]
      exact head_bad A n c l w h (by omega) hn2 (by simpa using hr)
theorem head_0 {l : List UInt8} (h : headE l = 0) : 21 ≤ l.length ∧ rightR (fld l 0 1 : Nat) (fld l 1 4) (fld l 5 4) (fld l 9 8) (fld l 17 2) (fld l 19 2) = true := by
  unfold headE at h
  split at h
  · cases h
  · split at h
    · exact ⟨by omega, by assumption⟩
    · cases h
def NeedQ (k : Int) (err : Int) (w : World) (e : Ending) (w' : World) : Prop := e = .returned (.tuple #[.int .i64 k, .int .i64 err]) ∧ Below w.heap.size w w'
theorem need06_no (A : Option Addr) (n c : Nat) (l : List UInt8) (w : World) (h : Rd w w.heap.size A n c l) (hn2 : n ≤ 281474976710656) (he : headE l ≠ 0) : Calls Try.prog 23 #[.slice A n c] w (NeedQ 0 (headE l) w) := by
  have HG := Lib.hid (head_no A n c l w h hn2 he)
  have tn := neInt' he
  generalize headE l = er at HG tn ⊢
  clear he
  go_enter Try.func23, Try.ntmps23
  go_wp2_with fail
  refine HG.out.mono ?_
  rintro e w1 ⟨rfl, b1⟩
  unfold zeroRec
  go_wp2_with fail
  go_ret2
  exact ⟨rfl, below_a1' b1 _⟩
set_option maxHeartbeats 1000000 in
theorem need06_ok (A : Option Addr) (n c : Nat) (l : List UInt8) (w : World) (h : Rd w w.heap.size A n c l) (hn2 : n ≤ 281474976710656) (he : headE l = 0) : Calls Try.prog 23 #[.slice A n c] w (NeedQ (21 + (fld l 17 2 : Nat) + (fld l 19 2 : Nat)) 0 w) := by
  obtain ⟨hn, hr⟩ := head_0 he
  have hk := fld_lt l 17 2
  have hv := fld_lt l 19 2
  have hG := head_ok A n c l w h (by rw [← h.len]; exact hn) hn2 hr
  generalize fld l 17 2 = k at hG hk ⊢
  generalize fld l 19 2 = v at hG hv ⊢
  have HG := Lib.hid hG
  clear hr hG he hn
  go_enter Try.func23, Try.ntmps23
  go_wp2_with fail
  refine HG.out.mono ?_
  rintro e w1 ⟨rfl, b1⟩
  unfold recV
  go_wp2_with fail
  go_ret2
  exact ⟨rfl, below_a1' b1 _⟩
def DecNo (err : Int) (w : World) (e : Ending) (w' : World) : Prop := e = .returned (.tuple #[zeroRec, .int .i64 0, .int .i64 err]) ∧ Below w.heap.size w w'
def DecOk (l : List UInt8) (w : World) (e : Ending) (w' : World) : Prop := ∃ K ck V cv, e = .returned (.tuple #[recV (fld l 0 1 : Nat) (fld l 1 4) (fld l 5 4) (fld l 9 8) (.slice K (fld l 17 2) ck) (.slice V (fld l 19 2) cv), .int .i64 (21 + (fld l 17 2 : Nat) + (fld l 19 2 : Nat)), .int .i64 0]) ∧
  Own w' w.heap.size K (fld l 17 2) ck ((l.drop 21).take (fld l 17 2)) ∧ Own w' w.heap.size V (fld l 19 2) cv (((l.drop 21).drop (fld l 17 2)).take (fld l 19 2)) ∧ Below w.heap.size w w'
set_option maxRecDepth 20000 in
set_option maxHeartbeats 2000000 in
theorem dec_no (A : Option Addr) (n c : Nat) (l : List UInt8) (w : World) (h : Rd w w.heap.size A n c l) (hn2 : n ≤ 281474976710656) (he : headE l ≠ 0) : Calls Try.prog 15 #[.slice A n c] w (DecNo (headE l) w) := by
  have k0 := Blk.new w #[.int .i64 0, .int .u32 0, .int .u32 0, .int .u64 0, .slice none 0 0, .slice none 0 0] 26
  have b0 : Below w.heap.size w (w.alloc (.cells #[.int .i64 0, .int .u32 0, .int .u32 0, .int .u64 0, .slice none 0 0, .slice none 0 0] 26)) := below_a1' (Below.refl _ _) _
  have hG := fun W (r : Rd W W.heap.size A n c l) => head_no A n c l W r hn2 he
  have tn := neInt' he
  generalize headE l = er at hG tn ⊢
  have HG := Lib.hid hG
  clear he hG
  go_enter Try.func15, Try.ntmps15
  go_wp2_with fail
  generalize w.alloc (.cells #[.int .i64 0, .int .u32 0, .int .u32 0, .int .u64 0, .slice none 0 0, .slice none 0 0] 26) = W0 at k0 b0 ⊢
  refine (HG.out _ ((h.below b0).more b0.size)).mono ?_
  rintro e w1 ⟨rfl, b1⟩
  have ba := b1.trans ((below_a1' (Below.refl w1.heap.size w1) (.cells #[.int .i64 0, .int .u32 0, .int .u32 0, .int .u64 0, .slice none 0 0, .slice none 0 0] 26)).mono b1.size)
  have kx := k0.step ba
  have b := below_step b0 ba
  obtain ⟨z0, z1, z2, z3, z4, z5⟩ := box6 kx
  have y0 := kx.frozen 0
  have y1 := kx.frozen 1
  have y2 := kx.frozen 2
  have y3 := kx.frozen 3
  have y4 := kx.frozen 4
  have y5 := kx.frozen 5
  have kf := blk_set6 kx (.int .i64 0) (.int .u32 0) (.int .u32 0) (.int .u64 0) (.slice none 0 0) (.slice none 0 0)
  have hg := grown_set6 (w1.alloc (.cells #[.int .i64 0, .int .u32 0, .int .u32 0, .int .u64 0, .slice none 0 0, .slice none 0 0] 26)) w.heap.size (.int .i64 0) (.int .u32 0) (.int .u32 0) (.int .u64 0) (.slice none 0 0) (.slice none 0 0)
  have bff := b.trans (below_grown hg (Nat.le_refl _) kx.lt)
  obtain ⟨t0, t1, t2, t3, t4, t5⟩ := box6 kf
  clear hg kf kx k0 b1 ba b b0 HG
  unfold zeroRec
  go_wp2_with fail
  refine bodyPost_ret (v := .tuple #[.agg #[.int .i64 0, .int .u32 0, .int .u32 0, .int .u64 0, .slice none 0 0, .slice none 0 0], .int .i64 0, .int .i64 er]) (by simp [results, Try.results15, go_sem, t0, t1, t2, t3, t4, t5]) rfl ?_
  exact ⟨rfl, bff⟩
end Go.Proofs.Ytkdkmdjfimnkaaa

/- A frame: its shape, what is wrong with it, its bytes. Conditions: typed in each theorem. -/
import Derived.Test.YtnghmgbmflcngaaFra
import Derived.Test.YtnghmgbmflcngaaCat
namespace Go.Proofs.Ytnghmgbmflcngaa
set_option linter.unusedVariables false
open Go.RowKit

def frC (mg op kl el ty st bl oq cas : Nat) (x k v : Value) : Array Value := #[.int .u8 mg, .int .u8 op, .int .u16 kl, .int .u8 el, .int .u8 ty, .int .u16 st, .int .u32 bl, .int .u32 oq, .int .u64 cas, x, k, v]
def frV (mg op kl el ty st bl oq cas : Nat) (x k v : Value) : Value := .agg (frC mg op kl el ty st bl oq cas x k v)
/-- What is wrong with a frame whose parts have nx, nk, nv bytes. -/
def wrongE (mg kl el bl nx nk nv : Nat) : Int := if mayB mg kl el bl = true ∧ nx = el ∧ nk = kl ∧ nx + nk + nv = bl then (if bl > 2048 then 3 else 0) else 290
theorem neIt {x y : Int} (h : x ≠ y) : (x != y) = true := by rw [bne_iff_ne]; exact h
theorem neIf {x y : Int} (h : x = y) : (x != y) = false := by rw [bne_eq_false_iff_eq]; exact h

def PutE (err : Int) (w : World) (e : Ending) (w' : World) : Prop := e = .returned (.tuple #[.slice none 0 0, .int .i64 err]) ∧ Below w.heap.size w w'

--CASES
set_option maxRecDepth 100000 in
set_option maxHeartbeats 1000000 in
theorem wrong19_M (mg op kl el ty st bl oq cas : Nat) (hf : HdF mg op kl el ty st bl oq cas) (X K V : Option Addr) (nx cx nk ck nv cv : Nat) (hn : nx + nk + nv ≤ 9223372036854775807) (h0 : mayB mg kl el bl = false) (w : World) :
    Calls Try.prog 54 #[frV mg op kl el ty st bl oq cas (.slice X nx cx) (.slice K nk ck) (.slice V nv cv)] w (BoxQ (.int .i64 290) w) := by
  have HF := Lib.hid hf
  obtain ⟨f0, f1, f2, f3, f4, f5, f6, f7, f8⟩ := hf
  have k0 : Blk _ _ (frC mg op kl el ty st bl oq cas (.slice X nx cx) (.slice K nk ck) (.slice V nv cv)) _ := Blk.new w _ 61
  have k1 := Blk.new (w.alloc (.cells (frC mg op kl el ty st bl oq cas (.slice X nx cx) (.slice K nk ck) (.slice V nv cv)) 61)) #[.int .u8 mg, .int .u8 op, .int .u16 kl, .int .u8 el, .int .u8 ty, .int .u16 st, .int .u32 bl, .int .u32 oq, .int .u64 cas] 59
  have b : Below w.heap.size w ((w.alloc (.cells (frC mg op kl el ty st bl oq cas (.slice X nx cx) (.slice K nk ck) (.slice V nv cv)) 61)).alloc (.cells #[.int .u8 mg, .int .u8 op, .int .u16 kl, .int .u8 el, .int .u8 ty, .int .u16 st, .int .u32 bl, .int .u32 oq, .int .u64 cas] 59)) := below_a1' (below_a1' (Below.refl _ _) _) _
  unfold frV
  unfold frC at k0 k1 b ⊢
  simp only [World.size_alloc] at k1
  obtain ⟨q0, q1, q2, q3, q4, q5, q6, q7, q8, q9, q10, q11⟩ := box12 k0
  have HM := Lib.hid h0
  clear h0
  go_enter Try.func54, Try.ntmps54
  go_wp2_with fail
  refine (right19_any mg op kl el ty st bl oq cas HF.out _).mono ?_
  rintro e w1 ⟨rfl, b1⟩
  rw [HM.out]
  replace k0 := (k0.alloc _).step b1
  replace k1 := k1.step b1
  replace b := below_step b b1
  clear q0 q1 q2 q3 q4 q5 q6 q7 q8 q9 q10 q11 b1
  obtain ⟨q0, q1, q2, q3, q4, q5, q6, q7, q8, q9, q10, q11⟩ := box12 k0
  obtain ⟨p0, p1, p2, p3, p4, p5, p6, p7, p8⟩ := box9 k1
  go_wp2_with fail
  go_ret
  exact ⟨rfl, b⟩
set_option maxRecDepth 100000 in
set_option maxHeartbeats 1000000 in
theorem wrong19_X (mg op kl el ty st bl oq cas : Nat) (hf : HdF mg op kl el ty st bl oq cas) (X K V : Option Addr) (nx cx nk ck nv cv : Nat) (hn : nx + nk + nv ≤ 9223372036854775807) (h0 : mayB mg kl el bl = true) (h1 : nx ≠ el) (w : World) :
    Calls Try.prog 54 #[frV mg op kl el ty st bl oq cas (.slice X nx cx) (.slice K nk ck) (.slice V nv cv)] w (BoxQ (.int .i64 290) w) := by
  have HF := Lib.hid hf
  obtain ⟨f0, f1, f2, f3, f4, f5, f6, f7, f8⟩ := hf
  have k0 : Blk _ _ (frC mg op kl el ty st bl oq cas (.slice X nx cx) (.slice K nk ck) (.slice V nv cv)) _ := Blk.new w _ 61
  have k1 := Blk.new (w.alloc (.cells (frC mg op kl el ty st bl oq cas (.slice X nx cx) (.slice K nk ck) (.slice V nv cv)) 61)) #[.int .u8 mg, .int .u8 op, .int .u16 kl, .int .u8 el, .int .u8 ty, .int .u16 st, .int .u32 bl, .int .u32 oq, .int .u64 cas] 59
  have b : Below w.heap.size w ((w.alloc (.cells (frC mg op kl el ty st bl oq cas (.slice X nx cx) (.slice K nk ck) (.slice V nv cv)) 61)).alloc (.cells #[.int .u8 mg, .int .u8 op, .int .u16 kl, .int .u8 el, .int .u8 ty, .int .u16 st, .int .u32 bl, .int .u32 oq, .int .u64 cas] 59)) := below_a1' (below_a1' (Below.refl _ _) _) _
  unfold frV
  unfold frC at k0 k1 b ⊢
  simp only [World.size_alloc] at k1
  obtain ⟨q0, q1, q2, q3, q4, q5, q6, q7, q8, q9, q10, q11⟩ := box12 k0
  have HM := Lib.hid h0
  have tX := neIt (x := (nx : Int)) (y := (el : Int)) (by omega)
  clear h0 h1
  go_enter Try.func54, Try.ntmps54
  go_wp2_with fail
  refine (right19_any mg op kl el ty st bl oq cas HF.out _).mono ?_
  rintro e w1 ⟨rfl, b1⟩
  rw [HM.out]
  replace k0 := (k0.alloc _).step b1
  replace k1 := k1.step b1
  replace b := below_step b b1
  clear q0 q1 q2 q3 q4 q5 q6 q7 q8 q9 q10 q11 b1
  obtain ⟨q0, q1, q2, q3, q4, q5, q6, q7, q8, q9, q10, q11⟩ := box12 k0
  obtain ⟨p0, p1, p2, p3, p4, p5, p6, p7, p8⟩ := box9 k1
  go_wp2_with fail
  go_ret
  exact ⟨rfl, b⟩
set_option maxRecDepth 100000 in
set_option maxHeartbeats 1000000 in
theorem wrong19_K (mg op kl el ty st bl oq cas : Nat) (hf : HdF mg op kl el ty st bl oq cas) (X K V : Option Addr) (nx cx nk ck nv cv : Nat) (hn : nx + nk + nv ≤ 9223372036854775807) (h0 : mayB mg kl el bl = true) (h1 : nx = el) (h2 : nk ≠ kl) (w : World) :
    Calls Try.prog 54 #[frV mg op kl el ty st bl oq cas (.slice X nx cx) (.slice K nk ck) (.slice V nv cv)] w (BoxQ (.int .i64 290) w) := by
  have HF := Lib.hid hf
  obtain ⟨f0, f1, f2, f3, f4, f5, f6, f7, f8⟩ := hf
  have k0 : Blk _ _ (frC mg op kl el ty st bl oq cas (.slice X nx cx) (.slice K nk ck) (.slice V nv cv)) _ := Blk.new w _ 61
  have k1 := Blk.new (w.alloc (.cells (frC mg op kl el ty st bl oq cas (.slice X nx cx) (.slice K nk ck) (.slice V nv cv)) 61)) #[.int .u8 mg, .int .u8 op, .int .u16 kl, .int .u8 el, .int .u8 ty, .int .u16 st, .int .u32 bl, .int .u32 oq, .int .u64 cas] 59
  have b : Below w.heap.size w ((w.alloc (.cells (frC mg op kl el ty st bl oq cas (.slice X nx cx) (.slice K nk ck) (.slice V nv cv)) 61)).alloc (.cells #[.int .u8 mg, .int .u8 op, .int .u16 kl, .int .u8 el, .int .u8 ty, .int .u16 st, .int .u32 bl, .int .u32 oq, .int .u64 cas] 59)) := below_a1' (below_a1' (Below.refl _ _) _) _
  unfold frV
  unfold frC at k0 k1 b ⊢
  simp only [World.size_alloc] at k1
  obtain ⟨q0, q1, q2, q3, q4, q5, q6, q7, q8, q9, q10, q11⟩ := box12 k0
  have HM := Lib.hid h0
  have tX := neIf (x := (nx : Int)) (y := (el : Int)) (by omega)
  have tK := neIt (x := (nk : Int)) (y := (kl : Int)) (by omega)
  clear h0 h1 h2
  go_enter Try.func54, Try.ntmps54
  go_wp2_with fail
  refine (right19_any mg op kl el ty st bl oq cas HF.out _).mono ?_
  rintro e w1 ⟨rfl, b1⟩
  rw [HM.out]
  replace k0 := (k0.alloc _).step b1
  replace k1 := k1.step b1
  replace b := below_step b b1
  clear q0 q1 q2 q3 q4 q5 q6 q7 q8 q9 q10 q11 b1
  obtain ⟨q0, q1, q2, q3, q4, q5, q6, q7, q8, q9, q10, q11⟩ := box12 k0
  obtain ⟨p0, p1, p2, p3, p4, p5, p6, p7, p8⟩ := box9 k1
  go_wp2_with fail
  go_ret
  exact ⟨rfl, b⟩
set_option maxRecDepth 100000 in
set_option maxHeartbeats 1000000 in
theorem wrong19_S (mg op kl el ty st bl oq cas : Nat) (hf : HdF mg op kl el ty st bl oq cas) (X K V : Option Addr) (nx cx nk ck nv cv : Nat) (hn : nx + nk + nv ≤ 9223372036854775807) (h0 : mayB mg kl el bl = true) (h1 : nx = el) (h2 : nk = kl) (h3 : nx + nk + nv ≠ bl) (w : World) :
    Calls Try.prog 54 #[frV mg op kl el ty st bl oq cas (.slice X nx cx) (.slice K nk ck) (.slice V nv cv)] w (BoxQ (.int .i64 290) w) := by
  have HF := Lib.hid hf
  obtain ⟨f0, f1, f2, f3, f4, f5, f6, f7, f8⟩ := hf
  have k0 : Blk _ _ (frC mg op kl el ty st bl oq cas (.slice X nx cx) (.slice K nk ck) (.slice V nv cv)) _ := Blk.new w _ 61
  have k1 := Blk.new (w.alloc (.cells (frC mg op kl el ty st bl oq cas (.slice X nx cx) (.slice K nk ck) (.slice V nv cv)) 61)) #[.int .u8 mg, .int .u8 op, .int .u16 kl, .int .u8 el, .int .u8 ty, .int .u16 st, .int .u32 bl, .int .u32 oq, .int .u64 cas] 59
  have b : Below w.heap.size w ((w.alloc (.cells (frC mg op kl el ty st bl oq cas (.slice X nx cx) (.slice K nk ck) (.slice V nv cv)) 61)).alloc (.cells #[.int .u8 mg, .int .u8 op, .int .u16 kl, .int .u8 el, .int .u8 ty, .int .u16 st, .int .u32 bl, .int .u32 oq, .int .u64 cas] 59)) := below_a1' (below_a1' (Below.refl _ _) _) _
  unfold frV
  unfold frC at k0 k1 b ⊢
  simp only [World.size_alloc] at k1
  obtain ⟨q0, q1, q2, q3, q4, q5, q6, q7, q8, q9, q10, q11⟩ := box12 k0
  have HM := Lib.hid h0
  have tX := neIf (x := (nx : Int)) (y := (el : Int)) (by omega)
  have tK := neIf (x := (nk : Int)) (y := (kl : Int)) (by omega)
  have tS := neIt (x := (nx : Int) + nk + nv) (y := (bl : Int)) (by omega)
  clear h0 h1 h2 h3
  go_enter Try.func54, Try.ntmps54
  go_wp2_with fail
  refine (right19_any mg op kl el ty st bl oq cas HF.out _).mono ?_
  rintro e w1 ⟨rfl, b1⟩
  rw [HM.out]
  replace k0 := (k0.alloc _).step b1
  replace k1 := k1.step b1
  replace b := below_step b b1
  clear q0 q1 q2 q3 q4 q5 q6 q7 q8 q9 q10 q11 b1
  obtain ⟨q0, q1, q2, q3, q4, q5, q6, q7, q8, q9, q10, q11⟩ := box12 k0
  obtain ⟨p0, p1, p2, p3, p4, p5, p6, p7, p8⟩ := box9 k1
  go_wp2_with fail
  go_ret
  exact ⟨rfl, b⟩
set_option maxRecDepth 100000 in
set_option maxHeartbeats 1000000 in
theorem wrong19_L (mg op kl el ty st bl oq cas : Nat) (hf : HdF mg op kl el ty st bl oq cas) (X K V : Option Addr) (nx cx nk ck nv cv : Nat) (hn : nx + nk + nv ≤ 9223372036854775807) (h0 : mayB mg kl el bl = true) (h1 : nx = el) (h2 : nk = kl) (h3 : nx + nk + nv = bl) (h4 : 2048 < bl) (w : World) :
    Calls Try.prog 54 #[frV mg op kl el ty st bl oq cas (.slice X nx cx) (.slice K nk ck) (.slice V nv cv)] w (BoxQ (.int .i64 3) w) := by
  have HF := Lib.hid hf
  obtain ⟨f0, f1, f2, f3, f4, f5, f6, f7, f8⟩ := hf
  have k0 : Blk _ _ (frC mg op kl el ty st bl oq cas (.slice X nx cx) (.slice K nk ck) (.slice V nv cv)) _ := Blk.new w _ 61
  have k1 := Blk.new (w.alloc (.cells (frC mg op kl el ty st bl oq cas (.slice X nx cx) (.slice K nk ck) (.slice V nv cv)) 61)) #[.int .u8 mg, .int .u8 op, .int .u16 kl, .int .u8 el, .int .u8 ty, .int .u16 st, .int .u32 bl, .int .u32 oq, .int .u64 cas] 59
  have b : Below w.heap.size w ((w.alloc (.cells (frC mg op kl el ty st bl oq cas (.slice X nx cx) (.slice K nk ck) (.slice V nv cv)) 61)).alloc (.cells #[.int .u8 mg, .int .u8 op, .int .u16 kl, .int .u8 el, .int .u8 ty, .int .u16 st, .int .u32 bl, .int .u32 oq, .int .u64 cas] 59)) := below_a1' (below_a1' (Below.refl _ _) _) _
  unfold frV
  unfold frC at k0 k1 b ⊢
  simp only [World.size_alloc] at k1
  obtain ⟨q0, q1, q2, q3, q4, q5, q6, q7, q8, q9, q10, q11⟩ := box12 k0
  have HM := Lib.hid h0
  have tX := neIf (x := (nx : Int)) (y := (el : Int)) (by omega)
  have tK := neIf (x := (nk : Int)) (y := (kl : Int)) (by omega)
  have tS := neIf (x := (nx : Int) + nk + nv) (y := (bl : Int)) (by omega)
  clear h0 h1 h2 h3
  go_enter Try.func54, Try.ntmps54
  go_wp2_with fail
  refine (right19_any mg op kl el ty st bl oq cas HF.out _).mono ?_
  rintro e w1 ⟨rfl, b1⟩
  rw [HM.out]
  replace k0 := (k0.alloc _).step b1
  replace k1 := k1.step b1
  replace b := below_step b b1
  clear q0 q1 q2 q3 q4 q5 q6 q7 q8 q9 q10 q11 b1
  obtain ⟨q0, q1, q2, q3, q4, q5, q6, q7, q8, q9, q10, q11⟩ := box12 k0
  obtain ⟨p0, p1, p2, p3, p4, p5, p6, p7, p8⟩ := box9 k1
  go_wp2_with fail
  go_ret
  exact ⟨rfl, b⟩
set_option maxRecDepth 100000 in
set_option maxHeartbeats 1000000 in
theorem wrong19_O (mg op kl el ty st bl oq cas : Nat) (hf : HdF mg op kl el ty st bl oq cas) (X K V : Option Addr) (nx cx nk ck nv cv : Nat) (hn : nx + nk + nv ≤ 9223372036854775807) (h0 : mayB mg kl el bl = true) (h1 : nx = el) (h2 : nk = kl) (h3 : nx + nk + nv = bl) (h4 : ¬ 2048 < bl) (w : World) :
    Calls Try.prog 54 #[frV mg op kl el ty st bl oq cas (.slice X nx cx) (.slice K nk ck) (.slice V nv cv)] w (BoxQ (.int .i64 0) w) := by
  have HF := Lib.hid hf
  obtain ⟨f0, f1, f2, f3, f4, f5, f6, f7, f8⟩ := hf
  have k0 : Blk _ _ (frC mg op kl el ty st bl oq cas (.slice X nx cx) (.slice K nk ck) (.slice V nv cv)) _ := Blk.new w _ 61
  have k1 := Blk.new (w.alloc (.cells (frC mg op kl el ty st bl oq cas (.slice X nx cx) (.slice K nk ck) (.slice V nv cv)) 61)) #[.int .u8 mg, .int .u8 op, .int .u16 kl, .int .u8 el, .int .u8 ty, .int .u16 st, .int .u32 bl, .int .u32 oq, .int .u64 cas] 59
  have b : Below w.heap.size w ((w.alloc (.cells (frC mg op kl el ty st bl oq cas (.slice X nx cx) (.slice K nk ck) (.slice V nv cv)) 61)).alloc (.cells #[.int .u8 mg, .int .u8 op, .int .u16 kl, .int .u8 el, .int .u8 ty, .int .u16 st, .int .u32 bl, .int .u32 oq, .int .u64 cas] 59)) := below_a1' (below_a1' (Below.refl _ _) _) _
  unfold frV
  unfold frC at k0 k1 b ⊢
  simp only [World.size_alloc] at k1
  obtain ⟨q0, q1, q2, q3, q4, q5, q6, q7, q8, q9, q10, q11⟩ := box12 k0
  have HM := Lib.hid h0
  have tX := neIf (x := (nx : Int)) (y := (el : Int)) (by omega)
  have tK := neIf (x := (nk : Int)) (y := (kl : Int)) (by omega)
  have tS := neIf (x := (nx : Int) + nk + nv) (y := (bl : Int)) (by omega)
  clear h0 h1 h2 h3
  go_enter Try.func54, Try.ntmps54
  go_wp2_with fail
  refine (right19_any mg op kl el ty st bl oq cas HF.out _).mono ?_
  rintro e w1 ⟨rfl, b1⟩
  rw [HM.out]
  replace k0 := (k0.alloc _).step b1
  replace k1 := k1.step b1
  replace b := below_step b b1
  clear q0 q1 q2 q3 q4 q5 q6 q7 q8 q9 q10 q11 b1
  obtain ⟨q0, q1, q2, q3, q4, q5, q6, q7, q8, q9, q10, q11⟩ := box12 k0
  obtain ⟨p0, p1, p2, p3, p4, p5, p6, p7, p8⟩ := box9 k1
  go_wp2_with fail
  go_ret
  exact ⟨rfl, b⟩
set_option maxRecDepth 100000 in
set_option maxHeartbeats 1000000 in
theorem put_M (mg op kl el ty st bl oq cas : Nat) (hf : HdF mg op kl el ty st bl oq cas) (X K V : Option Addr) (nx cx nk ck nv cv : Nat) (hn : nx + nk + nv ≤ 9223372036854775807) (h0 : mayB mg kl el bl = false) (w : World) :
    Calls Try.prog 58 #[frV mg op kl el ty st bl oq cas (.slice X nx cx) (.slice K nk ck) (.slice V nv cv)] w (PutE 290 w) := by
  have HF := Lib.hid hf
  obtain ⟨f0, f1, f2, f3, f4, f5, f6, f7, f8⟩ := hf
  have k0 : Blk _ _ (frC mg op kl el ty st bl oq cas (.slice X nx cx) (.slice K nk ck) (.slice V nv cv)) _ := Blk.new w _ 61
  have k1 := Blk.new (w.alloc (.cells (frC mg op kl el ty st bl oq cas (.slice X nx cx) (.slice K nk ck) (.slice V nv cv)) 61)) #[.int .u8 mg, .int .u8 op, .int .u16 kl, .int .u8 el, .int .u8 ty, .int .u16 st, .int .u32 bl, .int .u32 oq, .int .u64 cas] 59
  have b : Below w.heap.size w ((w.alloc (.cells (frC mg op kl el ty st bl oq cas (.slice X nx cx) (.slice K nk ck) (.slice V nv cv)) 61)).alloc (.cells #[.int .u8 mg, .int .u8 op, .int .u16 kl, .int .u8 el, .int .u8 ty, .int .u16 st, .int .u32 bl, .int .u32 oq, .int .u64 cas] 59)) := below_a1' (below_a1' (Below.refl _ _) _) _
  unfold frV
  unfold frC at k0 k1 b ⊢
  simp only [World.size_alloc] at k1
  obtain ⟨q0, q1, q2, q3, q4, q5, q6, q7, q8, q9, q10, q11⟩ := box12 k0
  have HM := Lib.hid h0
  clear h0
  go_enter Try.func58, Try.ntmps58
  go_wp2_with fail
  refine (may_any mg op kl el ty st bl oq cas HF.out _).mono ?_
  rintro e w1 ⟨rfl, b1⟩
  rw [HM.out]
  replace k0 := (k0.alloc _).step b1
  replace k1 := k1.step b1
  replace b := below_step b b1
  clear q0 q1 q2 q3 q4 q5 q6 q7 q8 q9 q10 q11 b1
  obtain ⟨q0, q1, q2, q3, q4, q5, q6, q7, q8, q9, q10, q11⟩ := box12 k0
  obtain ⟨p0, p1, p2, p3, p4, p5, p6, p7, p8⟩ := box9 k1
  go_wp2_with fail
  go_ret2
  exact ⟨rfl, b⟩
set_option maxRecDepth 100000 in
set_option maxHeartbeats 1000000 in
theorem put_X (mg op kl el ty st bl oq cas : Nat) (hf : HdF mg op kl el ty st bl oq cas) (X K V : Option Addr) (nx cx nk ck nv cv : Nat) (hn : nx + nk + nv ≤ 9223372036854775807) (h0 : mayB mg kl el bl = true) (h1 : nx ≠ el) (w : World) :
    Calls Try.prog 58 #[frV mg op kl el ty st bl oq cas (.slice X nx cx) (.slice K nk ck) (.slice V nv cv)] w (PutE 290 w) := by
  have HF := Lib.hid hf
  obtain ⟨f0, f1, f2, f3, f4, f5, f6, f7, f8⟩ := hf
  have k0 : Blk _ _ (frC mg op kl el ty st bl oq cas (.slice X nx cx) (.slice K nk ck) (.slice V nv cv)) _ := Blk.new w _ 61
  have k1 := Blk.new (w.alloc (.cells (frC mg op kl el ty st bl oq cas (.slice X nx cx) (.slice K nk ck) (.slice V nv cv)) 61)) #[.int .u8 mg, .int .u8 op, .int .u16 kl, .int .u8 el, .int .u8 ty, .int .u16 st, .int .u32 bl, .int .u32 oq, .int .u64 cas] 59
  have b : Below w.heap.size w ((w.alloc (.cells (frC mg op kl el ty st bl oq cas (.slice X nx cx) (.slice K nk ck) (.slice V nv cv)) 61)).alloc (.cells #[.int .u8 mg, .int .u8 op, .int .u16 kl, .int .u8 el, .int .u8 ty, .int .u16 st, .int .u32 bl, .int .u32 oq, .int .u64 cas] 59)) := below_a1' (below_a1' (Below.refl _ _) _) _
  unfold frV
  unfold frC at k0 k1 b ⊢
  simp only [World.size_alloc] at k1
  obtain ⟨q0, q1, q2, q3, q4, q5, q6, q7, q8, q9, q10, q11⟩ := box12 k0
  have HM := Lib.hid h0
  have tX := neIt (x := (nx : Int)) (y := (el : Int)) (by omega)
  clear h0 h1
  go_enter Try.func58, Try.ntmps58
  go_wp2_with fail
  refine (may_any mg op kl el ty st bl oq cas HF.out _).mono ?_
  rintro e w1 ⟨rfl, b1⟩
  rw [HM.out]
  replace k0 := (k0.alloc _).step b1
  replace k1 := k1.step b1
  replace b := below_step b b1
  clear q0 q1 q2 q3 q4 q5 q6 q7 q8 q9 q10 q11 b1
  obtain ⟨q0, q1, q2, q3, q4, q5, q6, q7, q8, q9, q10, q11⟩ := box12 k0
  obtain ⟨p0, p1, p2, p3, p4, p5, p6, p7, p8⟩ := box9 k1
  go_wp2_with fail
  go_ret2
  exact ⟨rfl, b⟩
set_option maxRecDepth 100000 in
set_option maxHeartbeats 1000000 in
theorem put_K (mg op kl el ty st bl oq cas : Nat) (hf : HdF mg op kl el ty st bl oq cas) (X K V : Option Addr) (nx cx nk ck nv cv : Nat) (hn : nx + nk + nv ≤ 9223372036854775807) (h0 : mayB mg kl el bl = true) (h1 : nx = el) (h2 : nk ≠ kl) (w : World) :
    Calls Try.prog 58 #[frV mg op kl el ty st bl oq cas (.slice X nx cx) (.slice K nk ck) (.slice V nv cv)] w (PutE 290 w) := by
  have HF := Lib.hid hf
  obtain ⟨f0, f1, f2, f3, f4, f5, f6, f7, f8⟩ := hf
  have k0 : Blk _ _ (frC mg op kl el ty st bl oq cas (.slice X nx cx) (.slice K nk ck) (.slice V nv cv)) _ := Blk.new w _ 61
  have k1 := Blk.new (w.alloc (.cells (frC mg op kl el ty st bl oq cas (.slice X nx cx) (.slice K nk ck) (.slice V nv cv)) 61)) #[.int .u8 mg, .int .u8 op, .int .u16 kl, .int .u8 el, .int .u8 ty, .int .u16 st, .int .u32 bl, .int .u32 oq, .int .u64 cas] 59
  have b : Below w.heap.size w ((w.alloc (.cells (frC mg op kl el ty st bl oq cas (.slice X nx cx) (.slice K nk ck) (.slice V nv cv)) 61)).alloc (.cells #[.int .u8 mg, .int .u8 op, .int .u16 kl, .int .u8 el, .int .u8 ty, .int .u16 st, .int .u32 bl, .int .u32 oq, .int .u64 cas] 59)) := below_a1' (below_a1' (Below.refl _ _) _) _
  unfold frV
  unfold frC at k0 k1 b ⊢
  simp only [World.size_alloc] at k1
  obtain ⟨q0, q1, q2, q3, q4, q5, q6, q7, q8, q9, q10, q11⟩ := box12 k0
  have HM := Lib.hid h0
  have tX := neIf (x := (nx : Int)) (y := (el : Int)) (by omega)
  have tK := neIt (x := (nk : Int)) (y := (kl : Int)) (by omega)
  clear h0 h1 h2
  go_enter Try.func58, Try.ntmps58
  go_wp2_with fail
  refine (may_any mg op kl el ty st bl oq cas HF.out _).mono ?_
  rintro e w1 ⟨rfl, b1⟩
  rw [HM.out]
  replace k0 := (k0.alloc _).step b1
  replace k1 := k1.step b1
  replace b := below_step b b1
  clear q0 q1 q2 q3 q4 q5 q6 q7 q8 q9 q10 q11 b1
  obtain ⟨q0, q1, q2, q3, q4, q5, q6, q7, q8, q9, q10, q11⟩ := box12 k0
  obtain ⟨p0, p1, p2, p3, p4, p5, p6, p7, p8⟩ := box9 k1
  go_wp2_with fail
  go_ret2
  exact ⟨rfl, b⟩
set_option maxRecDepth 100000 in
set_option maxHeartbeats 1000000 in
theorem put_S (mg op kl el ty st bl oq cas : Nat) (hf : HdF mg op kl el ty st bl oq cas) (X K V : Option Addr) (nx cx nk ck nv cv : Nat) (hn : nx + nk + nv ≤ 9223372036854775807) (h0 : mayB mg kl el bl = true) (h1 : nx = el) (h2 : nk = kl) (h3 : nx + nk + nv ≠ bl) (w : World) :
    Calls Try.prog 58 #[frV mg op kl el ty st bl oq cas (.slice X nx cx) (.slice K nk ck) (.slice V nv cv)] w (PutE 290 w) := by
  have HF := Lib.hid hf
  obtain ⟨f0, f1, f2, f3, f4, f5, f6, f7, f8⟩ := hf
  have k0 : Blk _ _ (frC mg op kl el ty st bl oq cas (.slice X nx cx) (.slice K nk ck) (.slice V nv cv)) _ := Blk.new w _ 61
  have k1 := Blk.new (w.alloc (.cells (frC mg op kl el ty st bl oq cas (.slice X nx cx) (.slice K nk ck) (.slice V nv cv)) 61)) #[.int .u8 mg, .int .u8 op, .int .u16 kl, .int .u8 el, .int .u8 ty, .int .u16 st, .int .u32 bl, .int .u32 oq, .int .u64 cas] 59
  have b : Below w.heap.size w ((w.alloc (.cells (frC mg op kl el ty st bl oq cas (.slice X nx cx) (.slice K nk ck) (.slice V nv cv)) 61)).alloc (.cells #[.int .u8 mg, .int .u8 op, .int .u16 kl, .int .u8 el, .int .u8 ty, .int .u16 st, .int .u32 bl, .int .u32 oq, .int .u64 cas] 59)) := below_a1' (below_a1' (Below.refl _ _) _) _
  unfold frV
  unfold frC at k0 k1 b ⊢
  simp only [World.size_alloc] at k1
  obtain ⟨q0, q1, q2, q3, q4, q5, q6, q7, q8, q9, q10, q11⟩ := box12 k0
  have HM := Lib.hid h0
  have tX := neIf (x := (nx : Int)) (y := (el : Int)) (by omega)
  have tK := neIf (x := (nk : Int)) (y := (kl : Int)) (by omega)
  have tS := neIt (x := (nx : Int) + nk + nv) (y := (bl : Int)) (by omega)
  clear h0 h1 h2 h3
  go_enter Try.func58, Try.ntmps58
  go_wp2_with fail
  refine (may_any mg op kl el ty st bl oq cas HF.out _).mono ?_
  rintro e w1 ⟨rfl, b1⟩
  rw [HM.out]
  replace k0 := (k0.alloc _).step b1
  replace k1 := k1.step b1
  replace b := below_step b b1
  clear q0 q1 q2 q3 q4 q5 q6 q7 q8 q9 q10 q11 b1
  obtain ⟨q0, q1, q2, q3, q4, q5, q6, q7, q8, q9, q10, q11⟩ := box12 k0
  obtain ⟨p0, p1, p2, p3, p4, p5, p6, p7, p8⟩ := box9 k1
  go_wp2_with fail
  go_ret2
  exact ⟨rfl, b⟩
set_option maxRecDepth 100000 in
set_option maxHeartbeats 1000000 in
theorem put_L (mg op kl el ty st bl oq cas : Nat) (hf : HdF mg op kl el ty st bl oq cas) (X K V : Option Addr) (nx cx nk ck nv cv : Nat) (hn : nx + nk + nv ≤ 9223372036854775807) (h0 : mayB mg kl el bl = true) (h1 : nx = el) (h2 : nk = kl) (h3 : nx + nk + nv = bl) (h4 : 2048 < bl) (w : World) :
    Calls Try.prog 58 #[frV mg op kl el ty st bl oq cas (.slice X nx cx) (.slice K nk ck) (.slice V nv cv)] w (PutE 3 w) := by
  have HF := Lib.hid hf
  obtain ⟨f0, f1, f2, f3, f4, f5, f6, f7, f8⟩ := hf
  have k0 : Blk _ _ (frC mg op kl el ty st bl oq cas (.slice X nx cx) (.slice K nk ck) (.slice V nv cv)) _ := Blk.new w _ 61
  have k1 := Blk.new (w.alloc (.cells (frC mg op kl el ty st bl oq cas (.slice X nx cx) (.slice K nk ck) (.slice V nv cv)) 61)) #[.int .u8 mg, .int .u8 op, .int .u16 kl, .int .u8 el, .int .u8 ty, .int .u16 st, .int .u32 bl, .int .u32 oq, .int .u64 cas] 59
  have b : Below w.heap.size w ((w.alloc (.cells (frC mg op kl el ty st bl oq cas (.slice X nx cx) (.slice K nk ck) (.slice V nv cv)) 61)).alloc (.cells #[.int .u8 mg, .int .u8 op, .int .u16 kl, .int .u8 el, .int .u8 ty, .int .u16 st, .int .u32 bl, .int .u32 oq, .int .u64 cas] 59)) := below_a1' (below_a1' (Below.refl _ _) _) _
  unfold frV
  unfold frC at k0 k1 b ⊢
  simp only [World.size_alloc] at k1
  obtain ⟨q0, q1, q2, q3, q4, q5, q6, q7, q8, q9, q10, q11⟩ := box12 k0
  have HM := Lib.hid h0
  have tX := neIf (x := (nx : Int)) (y := (el : Int)) (by omega)
  have tK := neIf (x := (nk : Int)) (y := (kl : Int)) (by omega)
  have tS := neIf (x := (nx : Int) + nk + nv) (y := (bl : Int)) (by omega)
  clear h0 h1 h2 h3
  go_enter Try.func58, Try.ntmps58
  go_wp2_with fail
  refine (may_any mg op kl el ty st bl oq cas HF.out _).mono ?_
  rintro e w1 ⟨rfl, b1⟩
  rw [HM.out]
  replace k0 := (k0.alloc _).step b1
  replace k1 := k1.step b1
  replace b := below_step b b1
  clear q0 q1 q2 q3 q4 q5 q6 q7 q8 q9 q10 q11 b1
  obtain ⟨q0, q1, q2, q3, q4, q5, q6, q7, q8, q9, q10, q11⟩ := box12 k0
  obtain ⟨p0, p1, p2, p3, p4, p5, p6, p7, p8⟩ := box9 k1
  go_wp2_with fail
  go_ret2
  exact ⟨rfl, b⟩
--END
end Go.Proofs.Ytnghmgbmflcngaa

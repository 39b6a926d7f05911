/- FrameMakes: whatever a frame is made of, it is the document's, or refused. Conditions: none. -/
import Derived.Test.YtbmlpeomcagcjaaFrf
namespace Go.Proofs.Ytbmlpeomcagcjaa
set_option linter.unusedVariables false
open Go.ChangeShapes Go.WideShapes Go.ChangeAt Go.RowKit

def mdC (mg op oq : Nat) (X K V : Value) : Array Value := #[.int .u8 mg, .int .u8 op, .int .u32 oq, X, K, V]
def MakesQ (w : World) (e : Ending) (w' : World) : Prop := e = .returned (.bool true) ∧ Below w.heap.size w w'
set_option maxRecDepth 100000 in
set_option maxHeartbeats 4000000 in
theorem makes_M (mg op oq : Nat) (h1 : mg ≠ 128) (h2 : mg ≠ 129) (AX : Option Addr) (nx cx : Nat) (AK : Option Addr) (nk ck : Nat) (AV : Option Addr) (nv cv : Nat) (w : World) :
    Calls Try.prog 4 #[mdV mg op oq (.slice AX nx cx) (.slice AK nk ck) (.slice AV nv cv)] w (MakesQ w) := by
  have k0 : Blk _ _ (mdC mg op oq (.slice AX nx cx) (.slice AK nk ck) (.slice AV nv cv)) _ := Blk.new w _ 39
  have b : Below w.heap.size w (w.alloc (.cells (mdC mg op oq (.slice AX nx cx) (.slice AK nk ck) (.slice AV nv cv)) 39)) := below_a1' (Below.refl _ _) _
  have t1 := neIt (x := (mg : Int)) (y := 128) (by omega)
  have t2 := neIt (x := (mg : Int)) (y := 129) (by omega)
  have H12 := Lib.hid (And.intro h1 h2)
  have fs := fun W => fsame_yes 0 0 0 0 0 0 0 0 0 none none none none none none 0 0 0 0 0 0 0 0 0 0 0 0 [] [] [] W (Rd.nil _ _) (Rd.nil _ _) (Rd.nil _ _) (Rd.nil _ _) (Rd.nil _ _) (Rd.nil _ _)
  unfold frV frC at fs
  simp only [Int.ofNat_zero] at fs
  have FS := Lib.hid fs
  clear fs h1 h2
  unfold mdV
  unfold mdC at *
  go_enter Try.func4, Try.ntmps4
  go_wp2_with fail
  refine (wakes19 _).mono ?_
  rintro e w1 ⟨rfl, b1⟩
  replace k0 := k0.step b1
  replace b := below_step b b1
  obtain ⟨q0, q1, q2, q3, q4, q5⟩ := box6 k0
  clear b1
  go_wp2_with fail
  refine (make_M mg op oq H12.out.1 H12.out.2 _ _ _ _ _ _ _ _ _ _).mono ?_
  rintro e w2 ⟨rfl, b2⟩
  replace k0 := k0.step b2
  replace b := below_step b b2
  clear q0 q1 q2 q3 q4 q5 b2
  obtain ⟨q0, q1, q2, q3, q4, q5⟩ := box6 k0
  unfold zeroFr
  have n0 : ∀ o : Obj, (w2.alloc o).cell? ⟨w.heap.size, 0, none⟩ = some (.int .u8 mg) := fun o => (box6 (k0.alloc o)).1
  clear q0 q1 q2 q3 q4 q5
  go_wp2_with fail
  refine (FS.out _).mono ?_
  rintro e w3 ⟨rfl, b3⟩
  replace b := below_step (below_a1' b _) b3
  go_wp2_with fail
  go_ret
  exact ⟨rfl, b⟩
theorem rd_a2 {w : World} {B n c : Nat} {A : Option Addr} {l : List UInt8} (h : Rd w B A n c l) (hB : B ≤ w.heap.size) (o o' : Obj) : Rd ((w.alloc o).alloc o') ((w.alloc o).alloc o').heap.size A n c l :=
  ((h.alloc hB o).alloc (by simp; omega) o').more (by simp; omega)
set_option maxRecDepth 100000 in
set_option maxHeartbeats 8000000 in
theorem makes_O128 (op oq : Nat) (hop : op < 256) (hoq : oq < 4294967296) (AX : Option Addr) (nx cx : Nat) (AK : Option Addr) (nk ck : Nat) (AV : Option Addr) (nv cv : Nat) (hl : ¬ tooLong nx nk nv) (lx lk lv : List UInt8) (w : World)
    (rx : Rd w w.heap.size AX nx cx lx) (rk : Rd w w.heap.size AK nk ck lk) (rv : Rd w w.heap.size AV nv cv lv) :
    Calls Try.prog 4 #[mdV 128 op oq (.slice AX nx cx) (.slice AK nk ck) (.slice AV nv cv)] w (MakesQ w) := by
  have k0 : Blk _ _ (mdC 128 op oq (.slice AX nx cx) (.slice AK nk ck) (.slice AV nv cv)) _ := Blk.new w _ 39
  have b : Below w.heap.size w (w.alloc (.cells (mdC 128 op oq (.slice AX nx cx) (.slice AK nk ck) (.slice AV nv cv)) 39)) := below_a1' (Below.refl _ _) _
  have hO : ∀ W : World, Rd W W.heap.size AX nx cx lx → Rd W W.heap.size AK nk ck lk → Rd W W.heap.size AV nv cv lv → Calls Try.prog 20 #[.int .u8 128, .int .u8 op, .int .u32 oq, .slice AX nx cx, .slice AK nk ck, .slice AV nv cv] W (MakeOk 128 op oq nx nk nv lx lk lv W) :=
    fun W r1 r2 r3 => make_Oa op oq hop hoq AX AK AV nx cx nk ck nv cv hl lx lk lv W r1 r2 r3
  have HO := Lib.hid hO
  have a0 := hl
  unfold tooLong at a0
  have a1 : nx ≤ 255 := by omega
  have a2 : nk ≤ 65535 := by omega
  have a3 : nv ≤ 2048 := by omega
  have a4 : nx + nk + nv ≤ 2048 := by omega
  clear hO hl a0
  unfold mdV
  unfold mdC at *
  go_enter Try.func4, Try.ntmps4
  go_wp2_with fail
  refine (wakes19 _).mono ?_
  rintro e w1 ⟨rfl, b1⟩
  replace k0 := k0.step b1
  replace b := below_step b b1
  obtain ⟨q0, q1, q2, q3, q4, q5⟩ := box6 k0
  replace q0 : w1.cell? ⟨w.heap.size, 0, none⟩ = some (.int .u8 128) := q0
  clear b1
  go_wp2_with fail
  refine (HO.out _ ((rx.below b).more b.size) ((rk.below b).more b.size) ((rv.below b).more b.size)).mono ?_
  rintro e w2 ⟨X, K, V, cx', ck', cv', rfl, rX, rK, rV, b2⟩
  replace k0 := k0.step b2
  replace b := below_step b b2
  clear q0 q1 q2 q3 q4 q5 b2
  have n0 : ∀ o : Obj, (w2.alloc o).cell? ⟨w.heap.size, 0, none⟩ = some (.int .u8 128) := fun o => (box6 (k0.alloc o)).1
  have n1 : ∀ o : Obj, (w2.alloc o).cell? ⟨w.heap.size, 1, none⟩ = some (.int .u8 op) := fun o => (box6 (k0.alloc o)).2.1
  have n2 : ∀ o : Obj, (w2.alloc o).cell? ⟨w.heap.size, 2, none⟩ = some (.int .u32 oq) := fun o => (box6 (k0.alloc o)).2.2.1
  have n3 : ∀ o : Obj, (w2.alloc o).cell? ⟨w.heap.size, 3, none⟩ = some (.slice AX nx cx) := fun o => (box6 (k0.alloc o)).2.2.2.1
  have n4 : ∀ o : Obj, (w2.alloc o).cell? ⟨w.heap.size, 4, none⟩ = some (.slice AK nk ck) := fun o => (box6 (k0.alloc o)).2.2.2.2.1
  have n5 : ∀ o : Obj, (w2.alloc o).cell? ⟨w.heap.size, 5, none⟩ = some (.slice AV nv cv) := fun o => (box6 (k0.alloc o)).2.2.2.2.2
  have hs := fun W r1 r2 r3 r4 r5 r6 => fsame_yes 128 op nk nx 0 0 (nx + nk + nv) oq 0 X K V AX AK AV nx cx' nk ck' nv cv' nx cx nk ck nv cv lx lk lv W r1 r2 r3 r4 r5 r6
  unfold frV frC at hs
  simp only [Int.natCast_add, Int.ofNat_zero] at hs
  have HS := Lib.hid hs
  clear hs
  unfold frV frC
  go_wp2_with fail
  refine (HS.out _ (rd_a2 rX (Nat.le_refl _) _ _) (rd_a2 rK (Nat.le_refl _) _ _) (rd_a2 rV (Nat.le_refl _) _ _) (rd_a2 (rx.below b) b.size _ _) (rd_a2 (rk.below b) b.size _ _) (rd_a2 (rv.below b) b.size _ _)).mono ?_
  rintro e w3 ⟨rfl, b3⟩
  replace b := below_step (below_a1' (below_a1' b _) _) b3
  go_wp2_with fail
  go_ret
  exact ⟨rfl, b⟩
set_option maxRecDepth 100000 in
set_option maxHeartbeats 8000000 in
theorem makes_O129 (op oq : Nat) (hop : op < 256) (hoq : oq < 4294967296) (AX : Option Addr) (nx cx : Nat) (AK : Option Addr) (nk ck : Nat) (AV : Option Addr) (nv cv : Nat) (hl : ¬ tooLong nx nk nv) (lx lk lv : List UInt8) (w : World)
    (rx : Rd w w.heap.size AX nx cx lx) (rk : Rd w w.heap.size AK nk ck lk) (rv : Rd w w.heap.size AV nv cv lv) :
    Calls Try.prog 4 #[mdV 129 op oq (.slice AX nx cx) (.slice AK nk ck) (.slice AV nv cv)] w (MakesQ w) := by
  have k0 : Blk _ _ (mdC 129 op oq (.slice AX nx cx) (.slice AK nk ck) (.slice AV nv cv)) _ := Blk.new w _ 39
  have b : Below w.heap.size w (w.alloc (.cells (mdC 129 op oq (.slice AX nx cx) (.slice AK nk ck) (.slice AV nv cv)) 39)) := below_a1' (Below.refl _ _) _
  have hO : ∀ W : World, Rd W W.heap.size AX nx cx lx → Rd W W.heap.size AK nk ck lk → Rd W W.heap.size AV nv cv lv → Calls Try.prog 20 #[.int .u8 129, .int .u8 op, .int .u32 oq, .slice AX nx cx, .slice AK nk ck, .slice AV nv cv] W (MakeOk 129 op oq nx nk nv lx lk lv W) :=
    fun W r1 r2 r3 => make_Ob op oq hop hoq AX AK AV nx cx nk ck nv cv hl lx lk lv W r1 r2 r3
  have HO := Lib.hid hO
  have a0 := hl
  unfold tooLong at a0
  have a1 : nx ≤ 255 := by omega
  have a2 : nk ≤ 65535 := by omega
  have a3 : nv ≤ 2048 := by omega
  have a4 : nx + nk + nv ≤ 2048 := by omega
  clear hO hl a0
  unfold mdV
  unfold mdC at *
  go_enter Try.func4, Try.ntmps4
  go_wp2_with fail
  refine (wakes19 _).mono ?_
  rintro e w1 ⟨rfl, b1⟩
  replace k0 := k0.step b1
  replace b := below_step b b1
  obtain ⟨q0, q1, q2, q3, q4, q5⟩ := box6 k0
  replace q0 : w1.cell? ⟨w.heap.size, 0, none⟩ = some (.int .u8 129) := q0
  clear b1
  go_wp2_with fail
  refine (HO.out _ ((rx.below b).more b.size) ((rk.below b).more b.size) ((rv.below b).more b.size)).mono ?_
  rintro e w2 ⟨X, K, V, cx', ck', cv', rfl, rX, rK, rV, b2⟩
  replace k0 := k0.step b2
  replace b := below_step b b2
  clear q0 q1 q2 q3 q4 q5 b2
  have n0 : ∀ o : Obj, (w2.alloc o).cell? ⟨w.heap.size, 0, none⟩ = some (.int .u8 129) := fun o => (box6 (k0.alloc o)).1
  have n1 : ∀ o : Obj, (w2.alloc o).cell? ⟨w.heap.size, 1, none⟩ = some (.int .u8 op) := fun o => (box6 (k0.alloc o)).2.1
  have n2 : ∀ o : Obj, (w2.alloc o).cell? ⟨w.heap.size, 2, none⟩ = some (.int .u32 oq) := fun o => (box6 (k0.alloc o)).2.2.1
  have n3 : ∀ o : Obj, (w2.alloc o).cell? ⟨w.heap.size, 3, none⟩ = some (.slice AX nx cx) := fun o => (box6 (k0.alloc o)).2.2.2.1
  have n4 : ∀ o : Obj, (w2.alloc o).cell? ⟨w.heap.size, 4, none⟩ = some (.slice AK nk ck) := fun o => (box6 (k0.alloc o)).2.2.2.2.1
  have n5 : ∀ o : Obj, (w2.alloc o).cell? ⟨w.heap.size, 5, none⟩ = some (.slice AV nv cv) := fun o => (box6 (k0.alloc o)).2.2.2.2.2
  have hs := fun W r1 r2 r3 r4 r5 r6 => fsame_yes 129 op nk nx 0 0 (nx + nk + nv) oq 0 X K V AX AK AV nx cx' nk ck' nv cv' nx cx nk ck nv cv lx lk lv W r1 r2 r3 r4 r5 r6
  unfold frV frC at hs
  simp only [Int.natCast_add, Int.ofNat_zero] at hs
  have HS := Lib.hid hs
  clear hs
  unfold frV frC
  go_wp2_with fail
  refine (HS.out _ (rd_a2 rX (Nat.le_refl _) _ _) (rd_a2 rK (Nat.le_refl _) _ _) (rd_a2 rV (Nat.le_refl _) _ _) (rd_a2 (rx.below b) b.size _ _) (rd_a2 (rk.below b) b.size _ _) (rd_a2 (rv.below b) b.size _ _)).mono ?_
  rintro e w3 ⟨rfl, b3⟩
  replace b := below_step (below_a1' (below_a1' b _) _) b3
  go_wp2_with fail
  go_ret
  exact ⟨rfl, b⟩
set_option maxRecDepth 100000 in
set_option maxHeartbeats 8000000 in
theorem makes_L128 (op oq : Nat) (AX : Option Addr) (nx cx : Nat) (AK : Option Addr) (nk ck : Nat) (AV : Option Addr) (nv cv : Nat) (hn : nx + nk + nv ≤ 9223372036854775807) (hl : tooLong nx nk nv) (w : World) :
    Calls Try.prog 4 #[mdV 128 op oq (.slice AX nx cx) (.slice AK nk ck) (.slice AV nv cv)] w (MakesQ w) := by
  have k0 : Blk _ _ (mdC 128 op oq (.slice AX nx cx) (.slice AK nk ck) (.slice AV nv cv)) _ := Blk.new w _ 39
  have b : Below w.heap.size w (w.alloc (.cells (mdC 128 op oq (.slice AX nx cx) (.slice AK nk ck) (.slice AV nv cv)) 39)) := below_a1' (Below.refl _ _) _
  have hO : ∀ W : World, Calls Try.prog 20 #[.int .u8 128, .int .u8 op, .int .u32 oq, .slice AX nx cx, .slice AK nk ck, .slice AV nv cv] W (MakeE 3 W) :=
    fun W => make_L 128 op oq (by omega) AX AK AV nx cx nk ck nv cv hn hl W
  have HO := Lib.hid hO
  have fs := fun W => fsame_yes 0 0 0 0 0 0 0 0 0 none none none none none none 0 0 0 0 0 0 0 0 0 0 0 0 [] [] [] W (Rd.nil _ _) (Rd.nil _ _) (Rd.nil _ _) (Rd.nil _ _) (Rd.nil _ _) (Rd.nil _ _)
  unfold frV frC at fs
  simp only [Int.ofNat_zero] at fs
  have FS := Lib.hid fs
  unfold tooLong at hl
  clear fs hO
  unfold mdV
  unfold mdC at *
  by_cases a1 : 255 < nx
  all_goals by_cases a2 : 65535 < nk
  all_goals by_cases a3 : 2048 < nv
  all_goals
    first
      | omega
      | (go_enter Try.func4, Try.ntmps4
         go_wp2_with fail
         refine (wakes19 _).mono ?_
         rintro e w1 ⟨rfl, b1⟩
         replace k0 := k0.step b1
         replace b := below_step b b1
         obtain ⟨q0, q1, q2, q3, q4, q5⟩ := box6 k0
         replace q0 : w1.cell? ⟨w.heap.size, 0, none⟩ = some (.int .u8 128) := q0
         clear b1
         go_wp2_with fail
         refine (HO.out _).mono ?_
         rintro e w2 ⟨rfl, b2⟩
         replace k0 := k0.step b2
         replace b := below_step b b2
         clear q0 q1 q2 q3 q4 q5 b2
         unfold zeroFr
         have n0 : ∀ o : Obj, (w2.alloc o).cell? ⟨w.heap.size, 0, none⟩ = some (.int .u8 128) := fun o => (box6 (k0.alloc o)).1
         have n3 : ∀ o : Obj, (w2.alloc o).cell? ⟨w.heap.size, 3, none⟩ = some (.slice AX nx cx) := fun o => (box6 (k0.alloc o)).2.2.2.1
         have n4 : ∀ o : Obj, (w2.alloc o).cell? ⟨w.heap.size, 4, none⟩ = some (.slice AK nk ck) := fun o => (box6 (k0.alloc o)).2.2.2.2.1
         have n5 : ∀ o : Obj, (w2.alloc o).cell? ⟨w.heap.size, 5, none⟩ = some (.slice AV nv cv) := fun o => (box6 (k0.alloc o)).2.2.2.2.2
         go_wp2_with fail
         refine (FS.out _).mono ?_
         rintro e w3 ⟨rfl, b3⟩
         replace b := below_step (below_a1' b _) b3
         go_wp2_with fail
         go_ret
         exact ⟨rfl, b⟩)
set_option maxRecDepth 100000 in
set_option maxHeartbeats 8000000 in
theorem makes_L129 (op oq : Nat) (AX : Option Addr) (nx cx : Nat) (AK : Option Addr) (nk ck : Nat) (AV : Option Addr) (nv cv : Nat) (hn : nx + nk + nv ≤ 9223372036854775807) (hl : tooLong nx nk nv) (w : World) :
    Calls Try.prog 4 #[mdV 129 op oq (.slice AX nx cx) (.slice AK nk ck) (.slice AV nv cv)] w (MakesQ w) := by
  have k0 : Blk _ _ (mdC 129 op oq (.slice AX nx cx) (.slice AK nk ck) (.slice AV nv cv)) _ := Blk.new w _ 39
  have b : Below w.heap.size w (w.alloc (.cells (mdC 129 op oq (.slice AX nx cx) (.slice AK nk ck) (.slice AV nv cv)) 39)) := below_a1' (Below.refl _ _) _
  have hO : ∀ W : World, Calls Try.prog 20 #[.int .u8 129, .int .u8 op, .int .u32 oq, .slice AX nx cx, .slice AK nk ck, .slice AV nv cv] W (MakeE 3 W) :=
    fun W => make_L 129 op oq (by omega) AX AK AV nx cx nk ck nv cv hn hl W
  have HO := Lib.hid hO
  have fs := fun W => fsame_yes 0 0 0 0 0 0 0 0 0 none none none none none none 0 0 0 0 0 0 0 0 0 0 0 0 [] [] [] W (Rd.nil _ _) (Rd.nil _ _) (Rd.nil _ _) (Rd.nil _ _) (Rd.nil _ _) (Rd.nil _ _)
  unfold frV frC at fs
  simp only [Int.ofNat_zero] at fs
  have FS := Lib.hid fs
  unfold tooLong at hl
  clear fs hO
  unfold mdV
  unfold mdC at *
  by_cases a1 : 255 < nx
  all_goals by_cases a2 : 65535 < nk
  all_goals by_cases a3 : 2048 < nv
  all_goals
    first
      | omega
      | (go_enter Try.func4, Try.ntmps4
         go_wp2_with fail
         refine (wakes19 _).mono ?_
         rintro e w1 ⟨rfl, b1⟩
         replace k0 := k0.step b1
         replace b := below_step b b1
         obtain ⟨q0, q1, q2, q3, q4, q5⟩ := box6 k0
         replace q0 : w1.cell? ⟨w.heap.size, 0, none⟩ = some (.int .u8 129) := q0
         clear b1
         go_wp2_with fail
         refine (HO.out _).mono ?_
         rintro e w2 ⟨rfl, b2⟩
         replace k0 := k0.step b2
         replace b := below_step b b2
         clear q0 q1 q2 q3 q4 q5 b2
         unfold zeroFr
         have n0 : ∀ o : Obj, (w2.alloc o).cell? ⟨w.heap.size, 0, none⟩ = some (.int .u8 129) := fun o => (box6 (k0.alloc o)).1
         have n3 : ∀ o : Obj, (w2.alloc o).cell? ⟨w.heap.size, 3, none⟩ = some (.slice AX nx cx) := fun o => (box6 (k0.alloc o)).2.2.2.1
         have n4 : ∀ o : Obj, (w2.alloc o).cell? ⟨w.heap.size, 4, none⟩ = some (.slice AK nk ck) := fun o => (box6 (k0.alloc o)).2.2.2.2.1
         have n5 : ∀ o : Obj, (w2.alloc o).cell? ⟨w.heap.size, 5, none⟩ = some (.slice AV nv cv) := fun o => (box6 (k0.alloc o)).2.2.2.2.2
         go_wp2_with fail
         refine (FS.out _).mono ?_
         rintro e w3 ⟨rfl, b3⟩
         replace b := below_step (below_a1' b _) b3
         go_wp2_with fail
         go_ret
         exact ⟨rfl, b⟩)
theorem walk_frameMakes (mg op oq : Nat) (AX : Option Addr) (nx cx : Nat) (lx : List UInt8) (AK : Option Addr) (nk ck : Nat) (lk : List UInt8) (AV : Option Addr) (nv cv : Nat) (lv : List UInt8) (w : World)
    (r0 : Mad w mg op oq AX nx cx lx AK nk ck lk AV nv cv lv) (s0 : cx ≤ 140737488351232 ∧ ck ≤ 140737488351232 ∧ cv ≤ 140737488351232) :
    Calls Try.prog 4 #[mdV mg op oq (.slice AX nx cx) (.slice AK nk ck) (.slice AV nv cv)] w fun e w' => e = .returned (.bool true) ∧ Below w.heap.size w w' := by
  obtain ⟨h1, h2, h3, rx, rk, rv⟩ := r0
  have e1 := rx.cap
  have e2 := rk.cap
  have e3 := rv.cap
  obtain ⟨s1, s2, s3⟩ := s0
  by_cases hA : mg = 128
  · subst hA
    by_cases hl : tooLong nx nk nv
    · exact (makes_L128 op oq AX nx cx AK nk ck AV nv cv (by omega) hl w).mono fun _ _ h => h
    · exact (makes_O128 op oq h2 h3 AX nx cx AK nk ck AV nv cv hl lx lk lv w rx rk rv).mono fun _ _ h => h
  by_cases hB : mg = 129
  · subst hB
    by_cases hl : tooLong nx nk nv
    · exact (makes_L129 op oq AX nx cx AK nk ck AV nv cv (by omega) hl w).mono fun _ _ h => h
    · exact (makes_O129 op oq h2 h3 AX nx cx AK nk ck AV nv cv hl lx lk lv w rx rk rv).mono fun _ _ h => h
  exact (makes_M mg op oq hA hB AX nx cx AK nk ck AV nv cv w).mono fun _ _ h => h


set_option maxRecDepth 100000 in
theorem lifted_frameMakes (os : Os) (started : os.Started) (H : Type) (enc : TypeId × Value → H) :
    ReturnsInHanded {} Try.checked os 4 .any (Rows.frameMakesSpec.pre6 enc Try.prog Try.f4 Rows.frameMakesRow.domain false) (Rows.frameMakesSpec.post enc Try.prog Try.f4 false true false false) := by
  refine returnsInHanded_of_change_sized (C := Try.checked) own started (by kernel_rfl) Try.func4
    (ChangeSpec.witness6 (enc := enc) (C := Try.checked) false ⟨#[], #[.agg #[.int .u8 0, .int .u8 0, .int .u32 0, .slice none 0 0, .slice none 0 0, .slice none 0 0]], []⟩ 8 (by kernel_rfl) (by kernel_rfl) (by kernel_rfl) (by kernel_rfl)) ?_
  intro W base args ds gs before hval0 hW hcnd hsz0 _
  have hval : ∀ (j : Nat) t v, Try.f4.params[j]? = some t → args[j]? = some v → Value.okWide Try.prog W .any base t v := hval0
  have hsz : (DataW.weightsEach Try.prog (Try.f4.params.toList ++ Rows.frameMakesSpec.plain.varTypes Try.prog) (ds ++ gs)).all (· ≤ reachBytes) = true := hsz0
  have hW' := hW
  obtain ⟨p, q, hA0, hV, rfl, hfz, hnd⟩ := hW
  have hA : DataW.TrodAll enc Try.prog W 0 (fun _ => true) true Try.f4.params.toList args.toList ds p := hA0
  rw [Try.params4] at hA hval hsz
  obtain ⟨v0, vs0, d0, ds0, p0, q0, hargs, rfl, rfl, h0, t0⟩ := trodAll_cons hA
  obtain ⟨rfl, rfl, rfl⟩ := trodAll_nil t0
  obtain rfl : args = #[v0] := by cases args; simp_all
  obtain ⟨rfl, rfl⟩ := trodVars_none hV
  have k0 := h0
  obtain ⟨mg0, op0, oq0, AX0, nx0, cx0, lx0, AK0, nk0, ck0, lk0, AV0, nv0, cv0, lv0, rfl, r0, y0⟩ := open_made (hval 0 39 v0 rfl rfl) h0
  have s0 := y0 (weights_of hsz (j := 0) rfl rfl)
  clear hA0 hval0
  refine (walk_frameMakes mg0 op0 oq0 AX0 nx0 cx0 lx0 AK0 nk0 ck0 lk0 AV0 nv0 cv0 lv0 W r0 s0).mono fun e W' ⟨he, bel⟩ => ?_
  subst he
  exact ⟨_, rfl, _, _, _, [], _, [], hW', trodAll_mk1 (shut_bool Try.underlying4 _), (trodAll_cons_mk (Below.trod laidOut (by kernel_rfl) (of_decide_eq_true (by kernel_rfl)) k0 bel (trod_places k0)) trodAll_mk0), rfl, bel.frame _, fun h => by cases h⟩

theorem over_frameMakes : Rows.frameMakesRow.holds Try.pinned (OpenSpec.ofChange Rows.frameMakesSpec) :=
  OpenClaim.holds_of_wide 4 Try.f4 rfl rfl rfl rfl rfl rfl rfl ⟨rfl, rfl, rfl, rfl, rfl⟩ rfl rfl rfl rfl rfl (by kernel_rfl) Try.func4 (by kernel_rfl)
    (of_decide_eq_true (by kernel_rfl)) (by unfold Func.isWrapper; first | (rw [if_pos (by decide +kernel)]; kernel_rfl) | (rw [if_neg (by decide +kernel)]; exact ⟨rfl, rfl⟩))
    (fun os started H enc _ => lifted_frameMakes os started H enc)

/-- The statement. -/
theorem frameMakes_holds : Rows.FrameMakesSaid := over_frameMakes
#print axioms frameMakes_holds

end Go.Proofs.Ytbmlpeomcagcjaa

/- stamp.Pack. Conditions: typed in each theorem. -/
import Derived.Test.YtkemlpcfijfaeaaArr
import Derived.Deep.DeepCutAuto
namespace Go.Proofs.Ytkemlpcfijfaeaa
set_option linter.unusedVariables false
open Go.RowKit

theorem zl : zeroA.length = 64 := by simp [zeroA]
/-- What stands ahead of a sector's payload. -/
def stH (g ps n : Nat) : List UInt8 := highB g 8 ++ highB ps 4 ++ highB n 2
theorem stH_length (g ps n : Nat) : (stH g ps n).length = 14 := by simp [stH, length_highB]
/-- A stamped sector. -/
def packL (g ps : Nat) (l : List UInt8) : List UInt8 := stH g ps l.length ++ [0, 0] ++ l ++ List.replicate (48 - l.length) 0
theorem packL_length (g ps : Nat) (l : List UInt8) (h : l.length ≤ 48) : (packL g ps l).length = 64 := by
  simp [packL, stH_length]; omega
theorem pack_splice (g ps : Nat) (l : List UInt8) (h : l.length ≤ 48) : splice (splice zeroA 0 (stH g ps l.length)) 16 l = packL g ps l := by
  have e1 : splice zeroA 0 (stH g ps l.length) = stH g ps l.length ++ List.replicate 50 0 := by
    unfold splice
    rw [stH_length]
    simp [zeroA]
  rw [e1]
  unfold splice packL
  rw [List.take_append, List.take_of_length_le (by rw [stH_length]; omega), stH_length, List.drop_append, List.drop_of_length_le (by rw [stH_length]; omega), stH_length]
  simp only [List.take_replicate, List.drop_replicate, List.nil_append, List.append_assoc]
  rw [show min (16 - 14) 50 = 2 from rfl, show 50 - (16 + l.length - 14) = 48 - l.length from by omega]
  rfl
theorem splice_cbs (a b : List UInt8) (o : Nat) : (splice (cbs a) o (cbs b)).toArray = ar (splice a o b) := by
  simp [splice, ar, cbs, List.map_take, List.map_drop]
theorem splice_len {a b : List UInt8} {o : Nat} (h : o + b.length ≤ a.length) : (splice a o b).length = a.length := length_splice a o b h
def PackNo (err : Int) (w : World) (e : Ending) (w' : World) : Prop := e = .returned (.tuple #[.agg (ar zeroA), .int .i64 err]) ∧ Below w.heap.size w w'
def PackOk (L : List UInt8) (w : World) (e : Ending) (w' : World) : Prop := e = .returned (.tuple #[.agg (ar L), .int .i64 0]) ∧ Below w.heap.size w w'
section
variable (w : World)
theorem two6 : Blk ((w.alloc (.cells (ar zeroA) 47)).alloc (.cells (ar zeroA) 47)) w.heap.size (ar zeroA) 47 := (Blk.new w (ar zeroA) 47).alloc _
theorem two8 : Blk ((w.alloc (.cells (ar zeroA) 47)).alloc (.cells (ar zeroA) 47)) (w.heap.size + 1) (ar zeroA) 47 := by
  have := Blk.new (w.alloc (.cells (ar zeroA) 47)) (ar zeroA) 47
  rwa [World.size_alloc] at this
theorem twoB : Below w.heap.size w ((w.alloc (.cells (ar zeroA) 47)).alloc (.cells (ar zeroA) 47)) := below_a1' (below_a1' (Below.refl _ _) _) _
end
set_option maxRecDepth 100000 in
set_option maxHeartbeats 4000000 in
theorem pack_0 (ps : Nat) (A : Option Addr) (n c : Nat) (w : World) :
    Calls Try.prog 21 #[.int .u64 0, .int .u32 ps, .slice A n c] w (PackNo 2 w) := by
  have k6 := two6 w
  have k8 := two8 w
  have b := twoB w
  go_enter Try.func21, Try.ntmps21
  go_upto_region 2 with fail
  rw [z64]
  generalize (w.alloc (.cells (ar zeroA) 47)).alloc (.cells (ar zeroA) 47) = W0 at k6 k8 b ⊢
  go_wp2_with (first | refine wpl_loadA _ rfl _ rfl _ zeroA rfl k8 zl ?_ | refine wpl_storeA _ rfl _ _ rfl _ zeroA zeroA rfl rfl k6 zl zl ?_)
  intro W1 k7 g1
  have b1 := b.trans (below_grown g1 (Nat.le_refl _) k6.lt)
  have hld := run_lv k7 zl
  go_wp2_with fail
  refine bodyPost_ret (v := .tuple #[.agg (ar zeroA), .int .i64 2]) (by simp [results, Try.results21, asAddr, Result.andThen, hld]) rfl ?_
  exact ⟨rfl, b1⟩
set_option maxRecDepth 100000 in
set_option maxHeartbeats 4000000 in
theorem pack_L (g ps : Nat) (hg : g ≠ 0) (A : Option Addr) (n c : Nat) (hn : 48 < n) (w : World) :
    Calls Try.prog 21 #[.int .u64 g, .int .u32 ps, .slice A n c] w (PackNo 3 w) := by
  have k6 := two6 w
  have k8 := two8 w
  have b := twoB w
  have t0 : ((g : Int) == 0) = false := by rw [beq_eq_false_iff_ne]; omega
  have t1 : (48 : Int) < (n : Int) := by omega
  go_enter Try.func21, Try.ntmps21
  go_upto_region 2 with fail
  rw [z64]
  generalize (w.alloc (.cells (ar zeroA) 47)).alloc (.cells (ar zeroA) 47) = W0 at k6 k8 b ⊢
  go_wp2_with (first | refine wpl_loadA _ rfl _ rfl _ zeroA rfl k8 zl ?_ | refine wpl_storeA _ rfl _ _ rfl _ zeroA zeroA rfl rfl k6 zl zl ?_)
  intro W1 k7 g1
  have b1 := b.trans (below_grown g1 (Nat.le_refl _) k6.lt)
  have hld := run_lv k7 zl
  go_wp2_with fail
  refine bodyPost_ret (v := .tuple #[.agg (ar zeroA), .int .i64 3]) (by simp [results, Try.results21, asAddr, Result.andThen, hld]) rfl ?_
  exact ⟨rfl, b1⟩
set_option maxRecDepth 100000 in
set_option maxHeartbeats 4000000 in
theorem pack_ok (g ps : Nat) (hg : g ≠ 0) (hg2 : g < 18446744073709551616) (hps : ps < 4294967296) (A : Option Addr) (n c : Nat) (l : List UInt8) (hn : n ≤ 48) (w : World) (r : Rd w w.heap.size A n c l) :
    Calls Try.prog 21 #[.int .u64 g, .int .u32 ps, .slice A n c] w (PackOk (packL g ps l) w) := by
  have k6 := two6 w
  have k8 := two8 w
  have b := twoB w
  have t0 : ((g : Int) == 0) = false := by rw [beq_eq_false_iff_ne]; omega
  have t1 : (n : Int) ≤ 48 := by omega
  have hl := r.len
  have Wn : IntKind.u16.wrap (n : Int) = (n : Int) := IntWalk.u16_in _ (by omega)
  have HL := Lib.hid hl
  clear hl
  go_enter Try.func21, Try.ntmps21
  go_upto_region 2 with fail
  rw [z64]
  generalize (w.alloc (.cells (ar zeroA) 47)).alloc (.cells (ar zeroA) 47) = W0 at k6 k8 b ⊢
  go_wp2_with fail
  refine (put64_any none 0 0 _ g hg2 [] W0 (Rd.nil _ _) (Nat.le_refl _) (by omega)).mono ?_
  rintro e w1 ⟨A1, c1, rfl, o1, b1⟩
  replace k6 := k6.step b1
  replace k8 := k8.step b1
  replace b := below_step b b1
  go_wp2_with fail
  refine (put32_any A1 8 c1 _ ps hps _ _ o1.rd (Nat.le_refl _) (by omega)).mono ?_
  rintro e w2 ⟨A2, c2, rfl, o2, b2⟩
  replace k6 := k6.step b2
  replace k8 := k8.step b2
  replace b := below_step b b2
  go_wp2_with fail
  refine (put16_any A2 12 c2 _ n (by omega) _ _ o2.rd (Nat.le_refl _) (by omega)).mono ?_
  rintro e w3 ⟨A3, c3, rfl, o3, b3⟩
  replace k6 := k6.step b3
  replace k8 := k8.step b3
  replace b := below_step b b3
  have r3 : Rd w3 w3.heap.size A3 14 c3 (stH g ps n) := o3.rd
  clear o1 o2 o3 b1 b2 b3
  have hZ := zl
  go_wp2_with (refine wpl_copyA _ rfl _ _ rfl (w.heap.size + 1) 0 zeroA k8 64 64 rfl _ A3 14 c3 _ rfl r3 (by omega) (by rw [hZ]; omega) ?_)
  intro w4 k84 b4
  replace k6 := (show Blk w4 w.heap.size _ _ from (b4.block _ (Nat.lt_succ_self _)).trans k6)
  replace b := b.trans (b4.mono (Nat.le_succ _))
  have rA := r.below b
  clear b4 k8 r3
  have h64 : (splice zeroA 0 (stH g ps n)).length = 64 := by rw [splice_len (by rw [stH_length, zl]; omega), zl]
  go_wp2_with (refine wpl_copyA _ rfl _ _ rfl (w.heap.size + 1) 16 (splice zeroA 0 (stH g ps n)) k84 48 48 rfl _ A n c l rfl rA hn (by rw [h64]; omega) ?_)
  intro w5 k85 b5
  replace k6 := (show Blk w5 w.heap.size _ _ from (b5.block _ (Nat.lt_succ_self _)).trans k6)
  replace b := b.trans (b5.mono (Nat.le_succ _))
  have e9 : splice (splice zeroA 0 (stH g ps n)) 16 l = packL g ps l := by have := pack_splice g ps l (by rw [HL.out]; exact hn); rw [HL.out] at this; exact this
  rw [e9] at k85
  have k8 : Blk w5 (w.heap.size + 1) (ar (packL g ps l)) 47 := k85
  have pl := packL_length g ps l (by rw [HL.out]; exact hn)
  clear e9 k84 k85 b5 rA h64
  go_wp2_with (first | refine wpl_loadA _ rfl _ rfl _ (packL g ps l) rfl k8 pl ?_ | refine wpl_storeA _ rfl _ _ rfl _ zeroA (packL g ps l) rfl rfl k6 zl pl ?_)
  intro w6 k7 g1
  have b1 := b.trans (below_grown g1 (Nat.le_refl _) k6.lt)
  have hld := run_lv k7 pl
  go_wp2_with fail
  refine bodyPost_ret (v := .tuple #[.agg (ar (packL g ps l)), .int .i64 0]) (by simp [results, Try.results21, asAddr, Result.andThen, hld]) rfl ?_
  exact ⟨rfl, b1⟩
end Go.Proofs.Ytkemlpcfijfaeaa

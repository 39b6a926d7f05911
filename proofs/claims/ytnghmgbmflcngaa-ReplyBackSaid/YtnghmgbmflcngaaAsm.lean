/- icehouseref21.Same of the same answers. Conditions: typed in each theorem. -/
import Derived.Test.YtnghmgbmflcngaaZrep
import Derived.Test.YtnghmgbmflcngaaZhld
import Derived.StillTailTactics
import Derived.Deep.DeepCutAuto
namespace Go.Proofs.Ytnghmgbmflcngaa
set_option linter.unusedVariables false
open Go.RowKit

theorem still_loadSt {ops : Array Oper} {rest : List Oper} {o : Oper} {a : Act} {w : World} {Q : Act → Prop} (hw : Region.wanted o (yielded ops a.tmps) = true) (x : Operand) (ho : o.op = .load 96 x)
    (p : Addr) (hx : a.eval x = .pointer (some p)) (s1 s2 : ByteArray) (h0 : w.cell? (p.add 0) = some (.string s1)) (h1 : w.cell? (p.add 1) = some (.string s2))
    (h : wpStill Try.prog ops w Q rest (a.put o.dst (.agg #[.string s1, .string s2]))) : wpStill Try.prog ops w Q (o :: rest) a := by
  obtain ⟨fs, hu⟩ := undStat
  have hc : ∀ j v, [Value.string s1, Value.string s2][j]? = some v → w.cell? (p.add j) = some v := fun j v hv => by
    rcases j with _ | _ | j
    · have e : Value.string s1 = v := Option.some.inj hv
      rw [← e]; exact h0
    · have e : Value.string s2 = v := Option.some.inj hv
      rw [← e]; exact h1
    · cases hv
  refine wpStill_step fun K hK => ?_
  rw [if_pos hw]
  unfold Oper.still execOp
  simp only [ho, hx, Instr.loadAt, Instr.sureAddr, Sem.run_bind, Sem.run_pure, Result.andThen_ok, run_ldz w p _ [.string s1, .string s2] _ hc hu rfl szStat, Oper.stillUpon_value]
  exact hK _ h
set_option maxRecDepth 100000 in
set_option maxHeartbeats 4000000 in
theorem asame_yes (st : Int) (V1 V2 S1 S2 : Option Addr) (nv cv1 cv2 ns sc1 sc2 af ac an : Nat) (lv : List UInt8) (SL : List (ByteArray × ByteArray)) (cl1 cl2 : Bool) (w : World) (r1 : Rd w w.heap.size V1 nv cv1 lv) (r2 : Rd w w.heap.size V2 nv cv2 lv) (q1 : Rz w w.heap.size 2 S1 ns sc1 (SL.map stCells).flatten) (q2 : Rz w w.heap.size 2 S2 ns sc2 (SL.map stCells).flatten) (hns : ns ≤ 1000000) :
    Calls Try.prog 61 #[ansV st (.slice V1 nv cv1) af ac an (.slice S1 ns sc1) cl1, ansV st (.slice V2 nv cv2) af ac an (.slice S2 ns sc2) cl2] w fun e w' => e = .returned (.bool true) ∧ Below w.heap.size w w' := by
  have k1 := (Blk.new w #[.int .i64 st, .slice V1 nv cv1, .int .u32 (af : Nat), .int .u64 (ac : Nat), .int .u64 (an : Nat), .slice S1 ns sc1, .bool cl1] 29).alloc (.cells #[.int .i64 st, .slice V2 nv cv2, .int .u32 (af : Nat), .int .u64 (ac : Nat), .int .u64 (an : Nat), .slice S2 ns sc2, .bool cl2] 29)
  have k2 := Blk.new (w.alloc (.cells #[.int .i64 st, .slice V1 nv cv1, .int .u32 (af : Nat), .int .u64 (ac : Nat), .int .u64 (an : Nat), .slice S1 ns sc1, .bool cl1] 29)) #[.int .i64 st, .slice V2 nv cv2, .int .u32 (af : Nat), .int .u64 (ac : Nat), .int .u64 (an : Nat), .slice S2 ns sc2, .bool cl2] 29
  have b := below_a1' (below_a1' (Below.refl w.heap.size w) (.cells #[.int .i64 st, .slice V1 nv cv1, .int .u32 (af : Nat), .int .u64 (ac : Nat), .int .u64 (an : Nat), .slice S1 ns sc1, .bool cl1] 29)) (.cells #[.int .i64 st, .slice V2 nv cv2, .int .u32 (af : Nat), .int .u64 (ac : Nat), .int .u64 (an : Nat), .slice S2 ns sc2, .bool cl2] 29)
  rw [World.size_alloc] at k2
  have HNS := Lib.hid hns
  clear hns
  unfold ansV
  go_enter Try.func61, Try.ntmps61
  go_upto_region 1 with fail
  generalize (w.alloc (.cells #[.int .i64 st, .slice V1 nv cv1, .int .u32 (af : Nat), .int .u64 (ac : Nat), .int .u64 (an : Nat), .slice S1 ns sc1, .bool cl1] 29)).alloc (.cells #[.int .i64 st, .slice V2 nv cv2, .int .u32 (af : Nat), .int .u64 (ac : Nat), .int .u64 (an : Nat), .slice S2 ns sc2, .bool cl2] 29) = W0 at k1 k2 b ⊢
  replace r1 := r1.below b
  replace r2 := r2.below b
  replace q1 := q1.below b
  replace q2 := q2.below b
  obtain ⟨p0, p1, p2, p3, p4, p5, p6⟩ := box7 k1
  obtain ⟨m0, m1, m2, m3, m4, m5, m6⟩ := box7 k2
  go_wp2_with fail
  go_loopw [5] (fun s5 wr => ∃ j : Nat, j ≤ ns ∧ s5 = .int .i64 (j : Nat) ∧ Below W0.heap.size W0 wr) (fun s5 _ => ns - (intOf s5).toNat)
  case atStart => exact ⟨0, Nat.zero_le _, rfl, Below.refl _ _⟩
  case round =>
    obtain ⟨j, hj, rfl, hb⟩ := hrel
    clear p0 p1 p2 p3 p4 p5 p6 m0 m1 m2 m3 m4 m5 m6
    have k1 := k1.step hb
    have k2 := k2.step hb
    obtain ⟨p0, p1, p2, p3, p4, p5, p6⟩ := box7 k1
    obtain ⟨m0, m1, m2, m3, m4, m5, m6⟩ := box7 k2
    have hbw := below_step b hb
    have r1 := r1.below (hb.mono b.size)
    have r2 := r2.below (hb.mono b.size)
    have q1 := q1.below (hb.mono b.size)
    have q2 := q2.below (hb.mono b.size)
    by_cases hlt : j < ns
    · obtain ⟨ad1, x, hA1, hx1, c0, c1⟩ := stat_at q1 hlt
      obtain ⟨ad2, y, hA2, hx2, d0, d1⟩ := stat_at q2 hlt
      obtain rfl : x = y := by rw [hx1] at hx2; injection hx2
      subst hA1 hA2
      have hlt' : ((j : Int) < (ns : Int)) = True := eq_true (by omega)
      have HJP : IntKind.i64.wrap ((j : Int) + 1) = (j : Int) + 1 := IntWalk.i64_in _ (by have := HNS.out; omega)
      have HLT : Hid (j + 1 ≤ ns) := Lib.hid (by omega)
      have HC := Lib.hid (And.intro c0 (And.intro c1 (And.intro d0 d1)))
      clear hlt hx1 hx2 c0 c1 d0 d1 r1 r2 q1 q2
      go_upto_region 6 with fail
      have hbd := hb.drew
      have HCd : Hid (wr.drew.cell? ((ad1.add (j * 2)).add 0) = some (.string x.1) ∧ wr.drew.cell? ((ad1.add (j * 2)).add 1) = some (.string x.2) ∧ wr.drew.cell? ((ad2.add (j * 2)).add 0) = some (.string x.1) ∧ wr.drew.cell? ((ad2.add (j * 2)).add 1) = some (.string x.2)) := Lib.hid HC.out
      have k1d : Blk wr.drew w.heap.size #[.int .i64 st, .slice V1 nv cv1, .int .u32 (af : Nat), .int .u64 (ac : Nat), .int .u64 (an : Nat), .slice (some ad1) ns sc1, .bool cl1] 29 := k1
      have k2d : Blk wr.drew (w.heap.size + 1) #[.int .i64 st, .slice V2 nv cv2, .int .u32 (af : Nat), .int .u64 (ac : Nat), .int .u64 (an : Nat), .slice (some ad2) ns sc2, .bool cl2] 29 := k2
      clear p0 p1 p2 p3 p4 p5 p6 m0 m1 m2 m3 m4 m5 m6 k1 k2
      refine wp_region_still_tail 10 (by kernel_rfl) (by kernel_rfl) ?_
      change wpStill _ _ wr.drew (fun a' => wpList _ _ _ _ a' wr.drew) _ _
      generalize wr.drew = W1 at hbd HCd k1d k2d ⊢
      obtain ⟨p0, p1, p2, p3, p4, p5, p6⟩ := box7 k1d
      obtain ⟨m0, m1, m2, m3, m4, m5, m6⟩ := box7 k2d
      simp only [List.take_succ_cons, List.take_zero, List.drop_succ_cons, List.drop_zero]
      still_step
      still_step
      still_step
      still_step
      refine still_loadSt (by rfl) _ rfl (ad1.add (j * 2)) (by rfl) x.1 x.2 HCd.out.1 HCd.out.2.1 ?_
      still_step
      still_step
      still_step
      still_step
      refine still_loadSt (by rfl) _ rfl (ad2.add (j * 2)) (by rfl) x.1 x.2 HCd.out.2.2.1 HCd.out.2.2.2 ?_
      refine wpStill_nil ?_
      go_wp2_with fail
      go_roundw
      case rel => exact ⟨j + 1, HLT.out, by first | rfl | go_num, hbd⟩
      case measure => have := HLT.out; simp [intOf]; omega
    · have hlt' : ((j : Int) < (ns : Int)) = False := eq_false (by omega)
      have HS : Hid (Calls Try.prog 29 #[.slice V1 nv cv1, .slice V2 nv cv2] wr (Quiet (.bool true) wr)) := Lib.hid (by have h := same_any V1 V2 nv cv1 nv cv2 _ lv lv wr r1 r2; rw [show eqB lv lv = true from decide_eq_true rfl] at h; exact h)
      have HB := Lib.hid hbw
      clear hlt q1 q2 r1 r2 hbw hb
      go_wp2_with fail
      refine HS.out.mono ?_
      rintro e w5 ⟨rfl, hq⟩
      have b5 := quiet_self hq
      have HB2 := Lib.hid (below_step HB.out b5)
      have k1 := k1.step b5
      have k2 := k2.step b5
      clear p0 p1 p2 p3 p4 p5 p6 m0 m1 m2 m3 m4 m5 m6 HS hq b5
      obtain ⟨p0, p1, p2, p3, p4, p5, p6⟩ := box7 k1
      obtain ⟨m0, m1, m2, m3, m4, m5, m6⟩ := box7 k2
      go_wp2_with fail
      go_ret
      exact ⟨rfl, HB2.out⟩
end Go.Proofs.Ytnghmgbmflcngaa

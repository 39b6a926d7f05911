/- stamp.Read. Conditions: typed in each theorem. -/
import Derived.Test.YtkemlpcfijfaeaaStb
import Derived.Test.YtkemlpcfijfaeaaFld
namespace Go.Proofs.Ytkemlpcfijfaeaa
set_option linter.unusedVariables false
open Go.RowKit

theorem blk_set3 {w : World} {g : Nat} {T : TypeId} {c0 c1 c2 : Value} (h : Blk w g #[c0, c1, c2] T) (v0 v1 v2 : Value) : Blk (((w.setCell ⟨g, 0, none⟩ v0).setCell ⟨g, 1, none⟩ v1).setCell ⟨g, 2, none⟩ v2) g #[v0, v1, v2] T := by
  have h0 : Blk _ g #[v0, c1, c2] T := h.set_ 0 v0
  have h1 : Blk _ g #[v0, v1, c2] T := h0.set_ 1 v1
  have h2 : Blk _ g #[v0, v1, v2] T := h1.set_ 2 v2
  exact h2
theorem grown_set3 (w : World) (g : Nat) (v0 v1 v2 : Value) : w.grownBy (((w.setCell ⟨g, 0, none⟩ v0).setCell ⟨g, 1, none⟩ v1).setCell ⟨g, 2, none⟩ v2) (some g) := grown_trans (grown_trans (rdr_grown_set w g 0 v0) (rdr_grown_set _ g 1 v1)) (rdr_grown_set _ g 2 v2)
theorem unAe : Try.prog.underlying 47 = some (.array (Try.prog.arrayLen 47) (Try.prog.elem 47)) := by kernel_rfl
theorem arL : Try.prog.arrayLen 47 = 64 := by kernel_rfl
theorem elA : Try.prog.elem 47 = 5 := by kernel_rfl
/-- b[16:16+f] of a sector -/
theorem slcA (L : List UInt8) (hL : L.length = 64) (f : Nat) (hf : f ≤ 48) : ∀ (g : Nat) (wx : World), (Instr.sliceAt 47 (.pointer (some ⟨g, 0, none⟩)) (some (.int .i64 16)) (some (.int .i64 (16 + (f : Int)))) none).run Try.prog wx = .ok (.slice (some ⟨g, 16, none⟩) f 48) wx := fun g wx => by
  rw [run_sliceAt_array_lh (P := Try.prog) wx _ ⟨g, 0, none⟩ unAe .i64 .i64 16 (16 + (f : Int)) (by omega) (by omega) (by rw [arL]; omega), sz8 _ elA]
  simp only [Result.andThen, slicedAt, arL]
  rw [show (16 + (f : Int)).toNat = 16 + f from by omega]
  simp [Addr.add]
theorem rd_pay {w : World} {g f : Nat} {L : List UInt8} (h : Blk w g (ar L) 47) (hL : L.length = 64) (hf : f ≤ 48) : Rd w w.heap.size (some ⟨g, 16, none⟩) f 48 ((L.drop 16).take f) := by
  have r := rd_ar h (by rw [hL]; simp [maxLen])
  rw [hL] at r
  have h1 := r.cut (i := 16) (j := 16 + f) (by omega) (by omega)
  rw [if_neg (by omega), Nat.add_sub_cancel_left, List.drop_take, Nat.add_sub_cancel_left] at h1
  exact h1
def ReadNo (w : World) (e : Ending) (w' : World) : Prop := e = .returned (.tuple #[.agg #[.int .u64 0, .int .u32 0, .int .i64 0], .slice none 0 0, .int .i64 150]) ∧ Below w.heap.size w w'
def ReadOk (L : List UInt8) (w : World) (e : Ending) (w' : World) : Prop := ∃ P cP, e = .returned (.tuple #[.agg #[.int .u64 (fld L 0 8 : Nat), .int .u32 (fld L 8 4 : Nat), .int .i64 (fld L 12 2 : Nat)], .slice P (fld L 12 2) cP, .int .i64 0]) ∧ Own w' w.heap.size P (fld L 12 2) cP ((L.drop 16).take (fld L 12 2)) ∧ Below w.heap.size w w'
/-- A guarded load of a sector. -/
theorem wpl_loadG (w : World) {ops : Array Oper} {rest : List Oper} {o : Oper} {a : Act} {Q : Exit → Act → World → Prop} (hg : Region.wanted o (yielded ops a.tmps) = true) (src : Operand) (hop : o.op = Op.load 47 src) (g : Nat) (l : List UInt8) (he : a.eval src = .pointer (some ⟨g, 0, none⟩)) (hk : Blk w g (ar l) 47) (hl : l.length = 64)
    (hK : wpList Try.prog ops Q rest (a.put o.dst (.agg (ar l))) w) : wpList Try.prog ops Q (o :: rest) a w :=
  wpList_want hg fun K hK' => wp_loadA src g l hop he hk hl (hK' _ _ hK)
theorem eqE (a b : List UInt8) (r : Bool) (ha : a.length = 64) (hb : b.length = 64) (hr : (a == b) = r) (w : World) : (Op.equalIn 10000 47 (.agg (ar a)) (.agg (ar b))).run Try.prog w = .ok r w := by
  rw [← hr]
  exact run_equalIn_bytes w 9998 _ _ 64 unA Try.underlying5 (fun w => sz8 _ rfl w) a b ha hb
theorem Own.at' {w : World} {B n c : Nat} {A : Option Addr} {l : List UInt8} (h : Own w B A n c l) : ∀ k, (Value.slice A n c).ownBlock = some k → B ≤ k ∧ k < w.heap.size := World.ownsRow.lt h
theorem Own.grown' {w w' : World} {B n c g : Nat} {A : Option Addr} {l : List UInt8} (h : Own w B A n c l) (hg : w.grownBy w' (some g)) (hne : ∀ k, (Value.slice A n c).ownBlock = some k → k ≠ g) : Own w' B A n c l := by
  refine World.ownsRow.kept h hg ?_
  cases e : (Value.slice A n c).ownBlock with
  | none => exact Or.inl rfl
  | some k => exact Or.inr fun e2 => hne k e (by injection e2)
set_option maxRecDepth 100000 in
set_option maxHeartbeats 8000000 in
theorem read_big (L : List UInt8) (hL : L.length = 64) (w : World) (hf : 48 < fld L 12 2) : Calls Try.prog 20 #[.agg (ar L)] w (ReadNo w) := by
  have fg := fld_lt L 0 8
  have fp := fld_lt L 8 4
  have ff := fld_lt L 12 2
  have k1 := (Blk.new w (ar L) 47).alloc (.cells #[.int .u64 0, .int .u32 0, .int .i64 0] 49)
  have k2 : Blk ((w.alloc (.cells (ar L) 47)).alloc (.cells #[.int .u64 0, .int .u32 0, .int .i64 0] 49)) (w.heap.size + 1) #[.int .u64 0, .int .u32 0, .int .i64 0] 49 := by
    have := Blk.new (w.alloc (.cells (ar L) 47)) #[.int .u64 0, .int .u32 0, .int .i64 0] 49
    rwa [World.size_alloc] at this
  have b : Below w.heap.size w ((w.alloc (.cells (ar L) 47)).alloc (.cells #[.int .u64 0, .int .u32 0, .int .i64 0] 49)) := below_a1' (below_a1' (Below.refl _ _) _) _
  have hz := sz_ar hL
  generalize eG : fld L 0 8 = g at *
  generalize eP : fld L 8 4 = p at *
  generalize eF : fld L 12 2 = f at *
  have Hg := Lib.hid eG.symm
  have Hp := Lib.hid eP.symm
  have Hf := Lib.hid eF.symm
  have HL := Lib.hid hL
  clear eG eP eF
  go_enter Try.func20, Try.ntmps20
  go_wp2_with fail
  generalize (w.alloc (.cells (ar L) 47)).alloc (.cells #[.int .u64 0, .int .u32 0, .int .i64 0] 49) = W0 at k1 k2 b ⊢
  have r1 := rd_ar k1 (by rw [hL]; simp [maxLen])
  rw [hL] at r1
  have hlt2 := k2.lt
  refine (read_any (some ⟨w.heap.size, 0, none⟩) 64 64 _ L W0 r1 (Nat.le_refl _) (by omega)).mono ?_
  rintro e w1 ⟨gr, rfl, h0, b1⟩
  replace k1 := k1.step b1
  replace k2 := k2.step b1
  have hge := h0.ge
  replace b := below_step b b1
  clear b1 r1
  go_wp2_with fail
  refine (u64_at L 0 g Hg.out gr _ _ h0 (by rw [HL.out]; omega)).mono ?_
  rintro e w2 ⟨rfl, h1, g0⟩
  replace k1 := k1.left g0 (by omega)
  replace k2 := k2.left g0 (by omega)
  replace b := b.trans (below_grown g0 (by omega) h0.lt)
  clear g0 h0
  go_wp2_with fail
  refine (u32_at L 8 p Hp.out gr _ _ h1 (by rw [HL.out]; omega)).mono ?_
  rintro e w3 ⟨rfl, h2, g1⟩
  replace k1 := k1.left g1 (by omega)
  replace k2 := k2.left g1 (by omega)
  replace b := b.trans (below_grown g1 (by omega) h1.lt)
  clear g1 h1
  go_wp2_with fail
  refine (u16_at L 12 f Hf.out gr _ _ h2 (by rw [HL.out]; omega)).mono ?_
  rintro e w4 ⟨rfl, h3, g2⟩
  replace k1 := k1.left g2 (by omega)
  replace k2 := k2.left g2 (by omega)
  replace b := b.trans (below_grown g2 (by omega) h2.lt)
  clear g2 h2
  have hlt4 := k2.lt
  obtain ⟨z0, z1, z2⟩ := box3 k2
  have y0 := k2.frozen 0
  have y1 := k2.frozen 1
  have y2 := k2.frozen 2
  have K2 := k2
  have bK := b
  have k3 := Blk.new w4 #[.int .u64 (g : Nat), .int .u32 (p : Nat), .int .i64 (f : Nat)] 49
  have ba := below_a1' (Below.refl w4.heap.size w4) (.cells #[.int .u64 (g : Nat), .int .u32 (p : Nat), .int .i64 (f : Nat)] 49)
  replace k1 := k1.step ba
  replace k2 := k2.step ba
  replace b := below_step b ba
  clear ba h3
  have i48 : (48 : Int) < (f : Int) := by omega
  have kf0 := blk_set3 K2 (.int .u64 0) (.int .u32 0) (.int .i64 0)
  have hg3 := grown_set3 w4 (w.heap.size + 1) (.int .u64 0) (.int .u32 0) (.int .i64 0)
  have bff := below_a1' (bK.trans (below_grown hg3 (Nat.le_succ _) K2.lt)) (.cells #[.int .u64 (g : Nat), .int .u32 (p : Nat), .int .i64 (f : Nat)] 49)
  have kf := kf0.alloc (.cells #[.int .u64 (g : Nat), .int .u32 (p : Nat), .int .i64 (f : Nat)] 49)
  obtain ⟨t0, t1, t2⟩ := box3 kf
  obtain ⟨q0, q1, q2⟩ := box3 k3
  go_wp2_with fail
  refine bodyPost_ret (v := .tuple #[.agg #[.int .u64 0, .int .u32 0, .int .i64 0], .slice none 0 0, .int .i64 150]) (by simp [results, Try.results20, go_sem, t0, t1, t2]) rfl ?_
  exact ⟨rfl, bff⟩
set_option maxRecDepth 100000 in
set_option maxHeartbeats 8000000 in
theorem read_nul (L : List UInt8) (hL : L.length = 64) (w : World) (hf : fld L 12 2 ≤ 48) (hg : fld L 0 8 = 0) : Calls Try.prog 20 #[.agg (ar L)] w (ReadNo w) := by
  have fg := fld_lt L 0 8
  have fp := fld_lt L 8 4
  have ff := fld_lt L 12 2
  have k1 := (Blk.new w (ar L) 47).alloc (.cells #[.int .u64 0, .int .u32 0, .int .i64 0] 49)
  have k2 : Blk ((w.alloc (.cells (ar L) 47)).alloc (.cells #[.int .u64 0, .int .u32 0, .int .i64 0] 49)) (w.heap.size + 1) #[.int .u64 0, .int .u32 0, .int .i64 0] 49 := by
    have := Blk.new (w.alloc (.cells (ar L) 47)) #[.int .u64 0, .int .u32 0, .int .i64 0] 49
    rwa [World.size_alloc] at this
  have b : Below w.heap.size w ((w.alloc (.cells (ar L) 47)).alloc (.cells #[.int .u64 0, .int .u32 0, .int .i64 0] 49)) := below_a1' (below_a1' (Below.refl _ _) _) _
  have hz := sz_ar hL
  generalize eG : fld L 0 8 = g at *
  generalize eP : fld L 8 4 = p at *
  generalize eF : fld L 12 2 = f at *
  have Hg := Lib.hid eG.symm
  have Hp := Lib.hid eP.symm
  have Hf := Lib.hid eF.symm
  have HL := Lib.hid hL
  clear eG eP eF
  have Hgz := Lib.hid hg
  clear hg
  go_enter Try.func20, Try.ntmps20
  go_wp2_with fail
  generalize (w.alloc (.cells (ar L) 47)).alloc (.cells #[.int .u64 0, .int .u32 0, .int .i64 0] 49) = W0 at k1 k2 b ⊢
  have r1 := rd_ar k1 (by rw [hL]; simp [maxLen])
  rw [hL] at r1
  have hlt2 := k2.lt
  refine (read_any (some ⟨w.heap.size, 0, none⟩) 64 64 _ L W0 r1 (Nat.le_refl _) (by omega)).mono ?_
  rintro e w1 ⟨gr, rfl, h0, b1⟩
  replace k1 := k1.step b1
  replace k2 := k2.step b1
  have hge := h0.ge
  replace b := below_step b b1
  clear b1 r1
  go_wp2_with fail
  refine (u64_at L 0 g Hg.out gr _ _ h0 (by rw [HL.out]; omega)).mono ?_
  rintro e w2 ⟨rfl, h1, g0⟩
  replace k1 := k1.left g0 (by omega)
  replace k2 := k2.left g0 (by omega)
  replace b := b.trans (below_grown g0 (by omega) h0.lt)
  clear g0 h0
  go_wp2_with fail
  refine (u32_at L 8 p Hp.out gr _ _ h1 (by rw [HL.out]; omega)).mono ?_
  rintro e w3 ⟨rfl, h2, g1⟩
  replace k1 := k1.left g1 (by omega)
  replace k2 := k2.left g1 (by omega)
  replace b := b.trans (below_grown g1 (by omega) h1.lt)
  clear g1 h1
  go_wp2_with fail
  refine (u16_at L 12 f Hf.out gr _ _ h2 (by rw [HL.out]; omega)).mono ?_
  rintro e w4 ⟨rfl, h3, g2⟩
  replace k1 := k1.left g2 (by omega)
  replace k2 := k2.left g2 (by omega)
  replace b := b.trans (below_grown g2 (by omega) h2.lt)
  clear g2 h2
  have hlt4 := k2.lt
  have k3 := Blk.new w4 #[.int .u64 (g : Nat), .int .u32 (p : Nat), .int .i64 (f : Nat)] 49
  have ba := below_a1' (Below.refl w4.heap.size w4) (.cells #[.int .u64 (g : Nat), .int .u32 (p : Nat), .int .i64 (f : Nat)] 49)
  replace k1 := k1.step ba
  replace k2 := k2.step ba
  replace b := below_step b ba
  clear ba h3
  have i48 : (f : Int) ≤ 48 := by omega
  have hlw := k3.lt
  have eS := slcA L HL.out f (by omega)
  obtain ⟨q0, q1, q2⟩ := box3 k3
  go_wp2_with (at_builtin; refine wpList_app8 _ rfl _ _ rfl (w4.heap.size + 1) (some ⟨w4.heap.size + 1, 0, none⟩) 0 0 [] rfl (Own.emptyK _ _ _ (by simp) (Nat.le_refl _)) _ (some ⟨w.heap.size, 16, none⟩) f 48 _ rfl (rd_pay (k1.alloc _) HL.out (by omega)) (by omega) (by simp) ?_)
  intro A7 c7 w6 o7 b7
  have b7' : Below (w4.heap.size + 1) (w4.alloc (.cells #[.int .u64 (g : Nat), .int .u32 (p : Nat), .int .i64 (f : Nat)] 49)) w6 := ((Below.refl _ _).alloc (by simp) _).trans b7
  rw [show w4.heap.size + 1 = (w4.alloc (.cells #[.int .u64 (g : Nat), .int .u32 (p : Nat), .int .i64 (f : Nat)] 49)).heap.size from by simp] at b7'
  replace o7 : Own w6 (w4.heap.size + 1) A7 f c7 ((L.drop 16).take f) := o7
  replace k1 := k1.step b7'
  replace k2 := k2.step b7'
  replace k3 := k3.step b7'
  replace b := below_step b b7'
  clear b7 eS q0 q1 q2
  have hb7 := b7'.size
  clear b7'
  obtain ⟨q0, q1, q2⟩ := box3 k3
  go_wp2_with fail
  have hpk := pack_0 p A7 f c7 w6
  rw [show (Value.int .u64 0) = .int .u64 (g : Nat) from by rw [Hgz.out]; rfl] at hpk
  refine hpk.mono ?_
  clear hpk
  rintro e w7 ⟨rfl, b8⟩
  have hb8 := b8.size
  have hlw' := o7.at'
  replace k1 := k1.step b8
  replace k2 := k2.step b8
  replace k3 := k3.step b8
  replace b := below_step b b8
  replace o7 := o7.below b8
  clear b8 q0 q1 q2
  have k8 := Blk.new w7 (ar zeroA) 47
  have ba := below_a1' (Below.refl w7.heap.size w7) (.cells (ar zeroA) 47)
  have h1 := k1.lt
  have h2 := k2.lt
  have h3 := k3.lt
  replace k1 := k1.step ba
  replace k2 := k2.step ba
  replace k3 := k3.step ba
  replace b := below_step b ba
  replace o7 := o7.below ba
  clear ba
  have hpl : zeroA.length = 64 := zl
  go_wp2_with (refine wpl_storeA _ rfl _ _ rfl w7.heap.size zeroA zeroA rfl rfl k8 zl hpl ?_)
  intro w8 k9 g8
  replace k1 := k1.left g8 (by omega)
  replace k2 := k2.left g8 (by omega)
  replace k3 := k3.left g8 (by omega)
  replace b := b.trans (below_grown g8 (by omega) k8.lt)
  replace o7 := o7.grown' g8 (fun k hk => by have := hlw' k hk; omega)
  clear g8 k8
  obtain ⟨z0, z1, z2⟩ := box3 k2
  have y0 := k2.frozen 0
  have y1 := k2.frozen 1
  have y2 := k2.frozen 2
  obtain ⟨q0, q1, q2⟩ := box3 k3
  have kf := blk_set3 k2 (.int .u64 0) (.int .u32 0) (.int .i64 0)
  have hg3 := grown_set3 w8 (w.heap.size + 1) (.int .u64 0) (.int .u32 0) (.int .i64 0)
  have bff := b.trans (below_grown hg3 (Nat.le_succ _) k2.lt)
  obtain ⟨t0, t1, t2⟩ := box3 kf
  clear k2 k3
  go_wp2_with (fail)
  refine bodyPost_ret (v := .tuple #[.agg #[.int .u64 0, .int .u32 0, .int .i64 0], .slice none 0 0, .int .i64 150]) (by simp [results, Try.results20, go_sem, t0, t1, t2]) rfl ?_
  exact ⟨rfl, bff⟩
set_option maxRecDepth 100000 in
set_option maxHeartbeats 8000000 in
theorem read_bad (L : List UInt8) (hL : L.length = 64) (w : World) (hf : fld L 12 2 ≤ 48) (hg : fld L 0 8 ≠ 0) (he : packL (fld L 0 8) (fld L 8 4) ((L.drop 16).take (fld L 12 2)) ≠ L) : Calls Try.prog 20 #[.agg (ar L)] w (ReadNo w) := by
  have fg := fld_lt L 0 8
  have fp := fld_lt L 8 4
  have ff := fld_lt L 12 2
  have k1 := (Blk.new w (ar L) 47).alloc (.cells #[.int .u64 0, .int .u32 0, .int .i64 0] 49)
  have k2 : Blk ((w.alloc (.cells (ar L) 47)).alloc (.cells #[.int .u64 0, .int .u32 0, .int .i64 0] 49)) (w.heap.size + 1) #[.int .u64 0, .int .u32 0, .int .i64 0] 49 := by
    have := Blk.new (w.alloc (.cells (ar L) 47)) #[.int .u64 0, .int .u32 0, .int .i64 0] 49
    rwa [World.size_alloc] at this
  have b : Below w.heap.size w ((w.alloc (.cells (ar L) 47)).alloc (.cells #[.int .u64 0, .int .u32 0, .int .i64 0] 49)) := below_a1' (below_a1' (Below.refl _ _) _) _
  have hz := sz_ar hL
  generalize eG : fld L 0 8 = g at *
  generalize eP : fld L 8 4 = p at *
  generalize eF : fld L 12 2 = f at *
  have Hg := Lib.hid eG.symm
  have Hp := Lib.hid eP.symm
  have Hf := Lib.hid eF.symm
  have HL := Lib.hid hL
  clear eG eP eF
  go_enter Try.func20, Try.ntmps20
  go_wp2_with fail
  generalize (w.alloc (.cells (ar L) 47)).alloc (.cells #[.int .u64 0, .int .u32 0, .int .i64 0] 49) = W0 at k1 k2 b ⊢
  have r1 := rd_ar k1 (by rw [hL]; simp [maxLen])
  rw [hL] at r1
  have hlt2 := k2.lt
  refine (read_any (some ⟨w.heap.size, 0, none⟩) 64 64 _ L W0 r1 (Nat.le_refl _) (by omega)).mono ?_
  rintro e w1 ⟨gr, rfl, h0, b1⟩
  replace k1 := k1.step b1
  replace k2 := k2.step b1
  have hge := h0.ge
  replace b := below_step b b1
  clear b1 r1
  go_wp2_with fail
  refine (u64_at L 0 g Hg.out gr _ _ h0 (by rw [HL.out]; omega)).mono ?_
  rintro e w2 ⟨rfl, h1, g0⟩
  replace k1 := k1.left g0 (by omega)
  replace k2 := k2.left g0 (by omega)
  replace b := b.trans (below_grown g0 (by omega) h0.lt)
  clear g0 h0
  go_wp2_with fail
  refine (u32_at L 8 p Hp.out gr _ _ h1 (by rw [HL.out]; omega)).mono ?_
  rintro e w3 ⟨rfl, h2, g1⟩
  replace k1 := k1.left g1 (by omega)
  replace k2 := k2.left g1 (by omega)
  replace b := b.trans (below_grown g1 (by omega) h1.lt)
  clear g1 h1
  go_wp2_with fail
  refine (u16_at L 12 f Hf.out gr _ _ h2 (by rw [HL.out]; omega)).mono ?_
  rintro e w4 ⟨rfl, h3, g2⟩
  replace k1 := k1.left g2 (by omega)
  replace k2 := k2.left g2 (by omega)
  replace b := b.trans (below_grown g2 (by omega) h2.lt)
  clear g2 h2
  have hlt4 := k2.lt
  have k3 := Blk.new w4 #[.int .u64 (g : Nat), .int .u32 (p : Nat), .int .i64 (f : Nat)] 49
  have ba := below_a1' (Below.refl w4.heap.size w4) (.cells #[.int .u64 (g : Nat), .int .u32 (p : Nat), .int .i64 (f : Nat)] 49)
  replace k1 := k1.step ba
  replace k2 := k2.step ba
  replace b := below_step b ba
  clear ba h3
  have i48 : (f : Int) ≤ 48 := by omega
  have hlw := k3.lt
  have eS := slcA L HL.out f (by omega)
  obtain ⟨q0, q1, q2⟩ := box3 k3
  go_wp2_with (at_builtin; refine wpList_app8 _ rfl _ _ rfl (w4.heap.size + 1) (some ⟨w4.heap.size + 1, 0, none⟩) 0 0 [] rfl (Own.emptyK _ _ _ (by simp) (Nat.le_refl _)) _ (some ⟨w.heap.size, 16, none⟩) f 48 _ rfl (rd_pay (k1.alloc _) HL.out (by omega)) (by omega) (by simp) ?_)
  intro A7 c7 w6 o7 b7
  have b7' : Below (w4.heap.size + 1) (w4.alloc (.cells #[.int .u64 (g : Nat), .int .u32 (p : Nat), .int .i64 (f : Nat)] 49)) w6 := ((Below.refl _ _).alloc (by simp) _).trans b7
  rw [show w4.heap.size + 1 = (w4.alloc (.cells #[.int .u64 (g : Nat), .int .u32 (p : Nat), .int .i64 (f : Nat)] 49)).heap.size from by simp] at b7'
  replace o7 : Own w6 (w4.heap.size + 1) A7 f c7 ((L.drop 16).take f) := o7
  replace k1 := k1.step b7'
  replace k2 := k2.step b7'
  replace k3 := k3.step b7'
  replace b := below_step b b7'
  clear b7 eS q0 q1 q2
  have hb7 := b7'.size
  clear b7'
  obtain ⟨q0, q1, q2⟩ := box3 k3
  go_wp2_with fail
  have hpk := pack_ok g p hg (by omega) (by omega) _ f _ _ (by omega) _ o7.rd
  refine hpk.mono ?_
  clear hpk
  rintro e w7 ⟨rfl, b8⟩
  have hb8 := b8.size
  have hlw' := o7.at'
  replace k1 := k1.step b8
  replace k2 := k2.step b8
  replace k3 := k3.step b8
  replace b := below_step b b8
  replace o7 := o7.below b8
  clear b8 q0 q1 q2
  have k8 := Blk.new w7 (ar zeroA) 47
  have ba := below_a1' (Below.refl w7.heap.size w7) (.cells (ar zeroA) 47)
  have h1 := k1.lt
  have h2 := k2.lt
  have h3 := k3.lt
  replace k1 := k1.step ba
  replace k2 := k2.step ba
  replace k3 := k3.step ba
  replace b := below_step b ba
  replace o7 := o7.below ba
  clear ba
  have hpl : (packL g p ((L.drop 16).take f)).length = 64 := packL_length g p _ (by rw [List.length_take]; omega)
  go_wp2_with (refine wpl_storeA _ rfl _ _ rfl w7.heap.size zeroA (packL g p ((L.drop 16).take f)) rfl rfl k8 zl hpl ?_)
  intro w8 k9 g8
  replace k1 := k1.left g8 (by omega)
  replace k2 := k2.left g8 (by omega)
  replace k3 := k3.left g8 (by omega)
  replace b := b.trans (below_grown g8 (by omega) k8.lt)
  replace o7 := o7.grown' g8 (fun k hk => by have := hlw' k hk; omega)
  clear g8 k8
  have eE := fun W => eqE (packL g p ((L.drop 16).take f)) L false hpl HL.out (by rw [beq_eq_false_iff_ne]; exact he) W
  obtain ⟨z0, z1, z2⟩ := box3 k2
  have y0 := k2.frozen 0
  have y1 := k2.frozen 1
  have y2 := k2.frozen 2
  obtain ⟨q0, q1, q2⟩ := box3 k3
  have kf := blk_set3 k2 (.int .u64 0) (.int .u32 0) (.int .i64 0)
  have hg3 := grown_set3 w8 (w.heap.size + 1) (.int .u64 0) (.int .u32 0) (.int .i64 0)
  have bff := b.trans (below_grown hg3 (Nat.le_succ _) k2.lt)
  obtain ⟨t0, t1, t2⟩ := box3 kf
  clear k2 k3
  go_wp2_with (first | refine wpl_loadG _ rfl _ rfl w7.heap.size (packL g p ((L.drop 16).take f)) rfl k9 hpl ?_ | refine wpl_loadG _ rfl _ rfl w.heap.size L rfl k1 HL.out ?_)
  refine bodyPost_ret (v := .tuple #[.agg #[.int .u64 0, .int .u32 0, .int .i64 0], .slice none 0 0, .int .i64 150]) (by simp [results, Try.results20, go_sem, t0, t1, t2]) rfl ?_
  exact ⟨rfl, bff⟩
set_option maxRecDepth 100000 in
set_option maxHeartbeats 8000000 in
theorem read_ok (L : List UInt8) (hL : L.length = 64) (w : World) (hf : fld L 12 2 ≤ 48) (hg : fld L 0 8 ≠ 0) (he : packL (fld L 0 8) (fld L 8 4) ((L.drop 16).take (fld L 12 2)) = L) : Calls Try.prog 20 #[.agg (ar L)] w (ReadOk L w) := by
  unfold ReadOk
  have fg := fld_lt L 0 8
  have fp := fld_lt L 8 4
  have ff := fld_lt L 12 2
  have k1 := (Blk.new w (ar L) 47).alloc (.cells #[.int .u64 0, .int .u32 0, .int .i64 0] 49)
  have k2 : Blk ((w.alloc (.cells (ar L) 47)).alloc (.cells #[.int .u64 0, .int .u32 0, .int .i64 0] 49)) (w.heap.size + 1) #[.int .u64 0, .int .u32 0, .int .i64 0] 49 := by
    have := Blk.new (w.alloc (.cells (ar L) 47)) #[.int .u64 0, .int .u32 0, .int .i64 0] 49
    rwa [World.size_alloc] at this
  have b : Below w.heap.size w ((w.alloc (.cells (ar L) 47)).alloc (.cells #[.int .u64 0, .int .u32 0, .int .i64 0] 49)) := below_a1' (below_a1' (Below.refl _ _) _) _
  have hz := sz_ar hL
  generalize eG : fld L 0 8 = g at *
  generalize eP : fld L 8 4 = p at *
  generalize eF : fld L 12 2 = f at *
  have Hg := Lib.hid eG.symm
  have Hp := Lib.hid eP.symm
  have Hf := Lib.hid eF.symm
  have HL := Lib.hid hL
  clear eG eP eF
  go_enter Try.func20, Try.ntmps20
  go_wp2_with fail
  generalize (w.alloc (.cells (ar L) 47)).alloc (.cells #[.int .u64 0, .int .u32 0, .int .i64 0] 49) = W0 at k1 k2 b ⊢
  have r1 := rd_ar k1 (by rw [hL]; simp [maxLen])
  rw [hL] at r1
  have hlt2 := k2.lt
  refine (read_any (some ⟨w.heap.size, 0, none⟩) 64 64 _ L W0 r1 (Nat.le_refl _) (by omega)).mono ?_
  rintro e w1 ⟨gr, rfl, h0, b1⟩
  replace k1 := k1.step b1
  replace k2 := k2.step b1
  have hge := h0.ge
  replace b := below_step b b1
  clear b1 r1
  go_wp2_with fail
  refine (u64_at L 0 g Hg.out gr _ _ h0 (by rw [HL.out]; omega)).mono ?_
  rintro e w2 ⟨rfl, h1, g0⟩
  replace k1 := k1.left g0 (by omega)
  replace k2 := k2.left g0 (by omega)
  replace b := b.trans (below_grown g0 (by omega) h0.lt)
  clear g0 h0
  go_wp2_with fail
  refine (u32_at L 8 p Hp.out gr _ _ h1 (by rw [HL.out]; omega)).mono ?_
  rintro e w3 ⟨rfl, h2, g1⟩
  replace k1 := k1.left g1 (by omega)
  replace k2 := k2.left g1 (by omega)
  replace b := b.trans (below_grown g1 (by omega) h1.lt)
  clear g1 h1
  go_wp2_with fail
  refine (u16_at L 12 f Hf.out gr _ _ h2 (by rw [HL.out]; omega)).mono ?_
  rintro e w4 ⟨rfl, h3, g2⟩
  replace k1 := k1.left g2 (by omega)
  replace k2 := k2.left g2 (by omega)
  replace b := b.trans (below_grown g2 (by omega) h2.lt)
  clear g2 h2
  have hlt4 := k2.lt
  have k3 := Blk.new w4 #[.int .u64 (g : Nat), .int .u32 (p : Nat), .int .i64 (f : Nat)] 49
  have ba := below_a1' (Below.refl w4.heap.size w4) (.cells #[.int .u64 (g : Nat), .int .u32 (p : Nat), .int .i64 (f : Nat)] 49)
  replace k1 := k1.step ba
  replace k2 := k2.step ba
  replace b := below_step b ba
  clear ba h3
  have i48 : (f : Int) ≤ 48 := by omega
  have hlw := k3.lt
  have eS := slcA L HL.out f (by omega)
  obtain ⟨q0, q1, q2⟩ := box3 k3
  go_wp2_with (at_builtin; refine wpList_app8 _ rfl _ _ rfl (w4.heap.size + 1) (some ⟨w4.heap.size + 1, 0, none⟩) 0 0 [] rfl (Own.emptyK _ _ _ (by simp) (Nat.le_refl _)) _ (some ⟨w.heap.size, 16, none⟩) f 48 _ rfl (rd_pay (k1.alloc _) HL.out (by omega)) (by omega) (by simp) ?_)
  intro A7 c7 w6 o7 b7
  have b7' : Below (w4.heap.size + 1) (w4.alloc (.cells #[.int .u64 (g : Nat), .int .u32 (p : Nat), .int .i64 (f : Nat)] 49)) w6 := ((Below.refl _ _).alloc (by simp) _).trans b7
  rw [show w4.heap.size + 1 = (w4.alloc (.cells #[.int .u64 (g : Nat), .int .u32 (p : Nat), .int .i64 (f : Nat)] 49)).heap.size from by simp] at b7'
  replace o7 : Own w6 (w4.heap.size + 1) A7 f c7 ((L.drop 16).take f) := o7
  replace k1 := k1.step b7'
  replace k2 := k2.step b7'
  replace k3 := k3.step b7'
  replace b := below_step b b7'
  clear b7 eS q0 q1 q2
  have hb7 := b7'.size
  clear b7'
  obtain ⟨q0, q1, q2⟩ := box3 k3
  go_wp2_with fail
  have hpk := pack_ok g p hg (by omega) (by omega) _ f _ _ (by omega) _ o7.rd
  rw [he] at hpk
  refine hpk.mono ?_
  clear hpk
  rintro e w7 ⟨rfl, b8⟩
  have hb8 := b8.size
  have hlw' := o7.at'
  replace k1 := k1.step b8
  replace k2 := k2.step b8
  replace k3 := k3.step b8
  replace b := below_step b b8
  replace o7 := o7.below b8
  clear b8 q0 q1 q2
  have k8 := Blk.new w7 (ar zeroA) 47
  have ba := below_a1' (Below.refl w7.heap.size w7) (.cells (ar zeroA) 47)
  have h1 := k1.lt
  have h2 := k2.lt
  have h3 := k3.lt
  replace k1 := k1.step ba
  replace k2 := k2.step ba
  replace k3 := k3.step ba
  replace b := below_step b ba
  replace o7 := o7.below ba
  clear ba
  have hpl : L.length = 64 := HL.out
  go_wp2_with (refine wpl_storeA _ rfl _ _ rfl w7.heap.size zeroA L rfl rfl k8 zl hpl ?_)
  intro w8 k9 g8
  replace k1 := k1.left g8 (by omega)
  replace k2 := k2.left g8 (by omega)
  replace k3 := k3.left g8 (by omega)
  replace b := b.trans (below_grown g8 (by omega) k8.lt)
  replace o7 := o7.grown' g8 (fun k hk => by have := hlw' k hk; omega)
  clear g8 k8
  have eE := fun W => eqE L L true hpl HL.out (by simp) W
  obtain ⟨z0, z1, z2⟩ := box3 k2
  have y0 := k2.frozen 0
  have y1 := k2.frozen 1
  have y2 := k2.frozen 2
  obtain ⟨q0, q1, q2⟩ := box3 k3
  have kf := blk_set3 k2 (.int .u64 (g : Nat)) (.int .u32 (p : Nat)) (.int .i64 (f : Nat))
  have hg3 := grown_set3 w8 (w.heap.size + 1) (.int .u64 (g : Nat)) (.int .u32 (p : Nat)) (.int .i64 (f : Nat))
  have bff := b.trans (below_grown hg3 (Nat.le_succ _) k2.lt)
  obtain ⟨t0, t1, t2⟩ := box3 kf
  clear k2 k3
  go_wp2_with (first | refine wpl_loadG _ rfl _ rfl w7.heap.size L rfl k9 hpl ?_ | refine wpl_loadG _ rfl _ rfl w.heap.size L rfl k1 HL.out ?_)
  refine bodyPost_ret (v := .tuple #[.agg #[.int .u64 (g : Nat), .int .u32 (p : Nat), .int .i64 (f : Nat)], .slice A7 f c7, .int .i64 0]) (by simp [results, Try.results20, go_sem, t0, t1, t2]) rfl ?_
  exact ⟨A7, c7, rfl, (o7.grown' hg3 (fun k hk => by have := hlw' k hk; omega)).more (by omega), bff⟩
end Go.Proofs.Ytkemlpcfijfaeaa

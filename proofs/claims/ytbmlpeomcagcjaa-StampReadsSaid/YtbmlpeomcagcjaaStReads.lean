/- StampReads: whatever sector is read as the document says, or refused. Conditions: none. -/
import Derived.Test.YtbmlpeomcagcjaaOpb
import Derived.Test.YtbmlpeomcagcjaaWak5
namespace Go.Proofs.Ytbmlpeomcagcjaa
set_option linter.unusedVariables false
open Go.ChangeShapes Go.WideShapes Go.ChangeAt Go.RowKit

def ReadsQ (w : World) (e : Ending) (w' : World) : Prop := e = .returned (.bool true) ∧ Below w.heap.size w w'
set_option maxRecDepth 100000 in
set_option maxHeartbeats 400000 in
theorem reads_y (L : List UInt8) (hL : L.length = 64) (w : World) (h : okS L) : Calls Try.prog 6 #[.agg (ar L)] w (ReadsQ w) := by
  have k1 := Blk.new w (ar L) 45
  have b := below_a1' (Below.refl w.heap.size w) (.cells (ar L) 45)
  have HL := Lib.hid hL
  have HO := Lib.hid h
  have hR := fun W => read_yes L hL W h
  have hRR := fun W => rread_yes L hL W h
  unfold ReadOk at hR
  unfold ROk at hRR
  generalize fld L 0 8 = g at hR hRR
  generalize fld L 8 4 = p at hR hRR
  generalize fld L 12 2 = f at hR hRR
  have HR := Lib.hid hR
  have HRR := Lib.hid hRR
  clear hR hRR h hL
  go_enter Try.func6, Try.ntmps6
  go_wp2_with fail
  generalize w.alloc (.cells (ar L) 45) = W0 at k1 b ⊢
  refine (wakes05 _).mono ?_
  rintro e w1 ⟨rfl, b1⟩
  replace k1 := k1.step b1
  replace b := below_step b b1
  clear b1
  go_wp2_with (refine wpl_loadA _ rfl _ rfl w.heap.size L rfl k1 HL.out ?_)
  refine (HR.out _).mono ?_
  rintro e w2 ⟨P, cP, rfl, oP, b2⟩
  replace k1 := k1.step b2
  replace b := below_step b b2
  clear b2
  have k2 := Blk.new w2 #[.int .u64 (g : Nat), .int .u32 (p : Nat), .int .i64 (f : Nat)] 51
  have ba := below_a1' (Below.refl w2.heap.size w2) (.cells #[.int .u64 (g : Nat), .int .u32 (p : Nat), .int .i64 (f : Nat)] 51)
  replace k1 := k1.step ba
  replace b := below_step b ba
  have rP := (oP.below ba).rd
  clear oP
  clear ba
  go_wp2_with (refine wpl_loadA _ rfl _ rfl w.heap.size L rfl k1 HL.out ?_)
  refine (HRR.out _).mono ?_
  rintro e w3 ⟨Q, cQ, rfl, oQ, b3⟩
  replace k2 := k2.step b3
  replace b := below_step b b3
  replace rP := (rP.below b3).more b3.size
  clear b3 k1
  have k3 := Blk.new w3 #[.int .u64 (g : Nat), .int .u32 (p : Nat), .int .i64 (f : Nat)] 51
  have ba := below_a1' (Below.refl w3.heap.size w3) (.cells #[.int .u64 (g : Nat), .int .u32 (p : Nat), .int .i64 (f : Nat)] 51)
  replace k2 := k2.step ba
  replace b := below_step b ba
  have rQ := (oQ.below ba).rd
  replace rP := (rP.below ba).more ba.size
  clear oQ
  clear ba
  obtain ⟨q0, q1, q2⟩ := box3 k2
  obtain ⟨p0, p1, p2⟩ := box3 k3
  go_wp2_with fail
  refine (same_any P Q f cP f cQ _ _ _ _ rP rQ).mono ?_
  rintro e w4 ⟨rfl, hq⟩
  have b4 := quiet_self hq
  clear hq
  replace b := below_step b b4
  rw [show eqB ((L.drop 16).take f) ((L.drop 16).take f) = true from decide_eq_true rfl]
  go_wp2_with fail
  go_ret
  exact ⟨rfl, b⟩
set_option maxRecDepth 100000 in
set_option maxHeartbeats 400000 in
theorem reads_n (L : List UInt8) (hL : L.length = 64) (w : World) (h : ¬ okS L) : Calls Try.prog 6 #[.agg (ar L)] w (ReadsQ w) := by
  have k1 := Blk.new w (ar L) 45
  have b := below_a1' (Below.refl w.heap.size w) (.cells (ar L) 45)
  have HL := Lib.hid hL
  have HO := Lib.hid h
  have hR := fun W => read_no L hL W h
  have hRR := fun W => rread_no L hL W h
  unfold ReadNo at hR
  unfold RNo at hRR
  have HR := Lib.hid hR
  have HRR := Lib.hid hRR
  clear hR hRR h hL
  go_enter Try.func6, Try.ntmps6
  go_wp2_with fail
  generalize w.alloc (.cells (ar L) 45) = W0 at k1 b ⊢
  refine (wakes05 _).mono ?_
  rintro e w1 ⟨rfl, b1⟩
  replace k1 := k1.step b1
  replace b := below_step b b1
  clear b1
  go_wp2_with (refine wpl_loadA _ rfl _ rfl w.heap.size L rfl k1 HL.out ?_)
  refine (HR.out _).mono ?_
  rintro e w2 ⟨rfl, b2⟩
  replace k1 := k1.step b2
  replace b := below_step b b2
  clear b2
  have k2 := Blk.new w2 #[.int .u64 0, .int .u32 0, .int .i64 0] 51
  have ba := below_a1' (Below.refl w2.heap.size w2) (.cells #[.int .u64 0, .int .u32 0, .int .i64 0] 51)
  replace k1 := k1.step ba
  replace b := below_step b ba
  clear ba
  go_wp2_with (refine wpl_loadA _ rfl _ rfl w.heap.size L rfl k1 HL.out ?_)
  refine (HRR.out _).mono ?_
  rintro e w3 ⟨rfl, b3⟩
  replace k2 := k2.step b3
  replace b := below_step b b3
  clear b3 k1
  have k3 := Blk.new w3 #[.int .u64 0, .int .u32 0, .int .i64 0] 51
  have ba := below_a1' (Below.refl w3.heap.size w3) (.cells #[.int .u64 0, .int .u32 0, .int .i64 0] 51)
  replace k2 := k2.step ba
  replace b := below_step b ba
  clear ba
  obtain ⟨q0, q1, q2⟩ := box3 k2
  obtain ⟨p0, p1, p2⟩ := box3 k3
  go_wp2_with fail
  go_ret
  exact ⟨rfl, b⟩
theorem walk_stampReads (L : List UInt8) (w : World) (hL : L.length = 64 ∧ True) (_ : True) :
    Calls Try.prog 6 #[.agg (ar L)] w fun e w' => e = .returned (.bool true) ∧ Below w.heap.size w w' := by
  by_cases h : okS L
  · exact reads_y L hL.1 w h
  · exact reads_n L hL.1 w h


set_option maxRecDepth 100000 in
theorem lifted_stampReads (os : Os) (started : os.Started) (H : Type) (enc : TypeId × Value → H) :
    ReturnsInHanded {} Try.checked os 6 .any (Rows.stampReadsSpec.pre6 enc Try.prog Try.f6 Rows.stampReadsRow.domain false) (Rows.stampReadsSpec.post enc Try.prog Try.f6 false true false false) := by
  refine returnsInHanded_of_change_sized (C := Try.checked) own started (by kernel_rfl) Try.func6
    (ChangeSpec.witness6 (enc := enc) (C := Try.checked) false ⟨#[], #[.agg (ar zeroA)], []⟩ 8 (by kernel_rfl) (by kernel_rfl) (by kernel_rfl) (by kernel_rfl)) ?_
  intro W base args ds gs before hval0 hW hcnd hsz0 _
  have hval : ∀ (j : Nat) t v, Try.f6.params[j]? = some t → args[j]? = some v → Value.okWide Try.prog W .any base t v := hval0
  have hsz : (DataW.weightsEach Try.prog (Try.f6.params.toList ++ Rows.stampReadsSpec.plain.varTypes Try.prog) (ds ++ gs)).all (· ≤ reachBytes) = true := hsz0
  have hW' := hW
  obtain ⟨p, q, hA0, hV, rfl, hfz, hnd⟩ := hW
  have hA : DataW.TrodAll enc Try.prog W 0 (fun _ => true) true Try.f6.params.toList args.toList ds p := hA0
  rw [Try.params6] at hA hval hsz
  obtain ⟨v0, vs0, d0, ds0, p0, q0, hargs, rfl, rfl, h0, t0⟩ := trodAll_cons hA
  obtain ⟨rfl, rfl, rfl⟩ := trodAll_nil t0
  obtain rfl : args = #[v0] := by cases args; simp_all
  obtain ⟨rfl, rfl⟩ := trodVars_none hV
  have k0 := h0
  obtain ⟨L0, rfl, r0, y0⟩ := open_block2 (hval 0 45 v0 rfl rfl) h0
  have s0 := y0 (weights_of hsz (j := 0) rfl rfl)
  clear hA0 hval0
  refine (walk_stampReads L0 W r0 s0).mono fun e W' ⟨he, bel⟩ => ?_
  subst he
  exact ⟨_, rfl, _, _, _, [], _, [], hW', trodAll_mk1 (shut_bool Try.underlying4 _), (trodAll_cons_mk (Below.trod laidOut (by kernel_rfl) (of_decide_eq_true (by kernel_rfl)) k0 bel (trod_places k0)) trodAll_mk0), rfl, bel.frame _, fun h => by cases h⟩

theorem over_stampReads : Rows.stampReadsRow.holds Try.pinned (OpenSpec.ofChange Rows.stampReadsSpec) :=
  OpenClaim.holds_of_wide 6 Try.f6 rfl rfl rfl rfl rfl rfl rfl ⟨rfl, rfl, rfl, rfl, rfl⟩ rfl rfl rfl rfl rfl (by kernel_rfl) Try.func6 (by kernel_rfl)
    (of_decide_eq_true (by kernel_rfl)) (by unfold Func.isWrapper; first | (rw [if_pos (by decide +kernel)]; kernel_rfl) | (rw [if_neg (by decide +kernel)]; exact ⟨rfl, rfl⟩))
    (fun os started H enc _ => lifted_stampReads os started H enc)

/-- The statement. -/
theorem stampReads_holds : Rows.StampReadsSaid := over_stampReads
#print axioms stampReads_holds

end Go.Proofs.Ytbmlpeomcagcjaa

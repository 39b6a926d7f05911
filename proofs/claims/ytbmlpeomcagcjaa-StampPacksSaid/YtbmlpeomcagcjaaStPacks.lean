/- StampPacks: whatever is packed is the document's sector, or refused. Conditions: none. -/
import Derived.Test.YtbmlpeomcagcjaaWak5
import Derived.Deep.RegionHeld3
import Derived.Deep.DrawnRows
namespace Go.Proofs.Ytbmlpeomcagcjaa
set_option linter.unusedVariables false
open Go.ChangeShapes Go.WideShapes Go.ChangeAt Go.RowKit

theorem take_ {P : Program} {md : Region.Mode} {ops : Array Oper} {Q : Exit → Act → World → Prop} {S : World → Prop} {i : Nat} {oi : Oper} {v : Value} {fuel : Nat} {listed : Array Bool} {a : Act} {w : World} (hi : ops.toList[i]? = some oi)
    (hs : Region.noSelect ops = true) (hf : Region.free md ops listed i = true) (hr : (Region.ready md ops listed).contains i = true)
    (hQ : ∀ c a w, Q (.panic c) (a.put oi.dst v) w → Q (.panic c) a w) (hy : YieldsIf P ops S oi v a) (hS : S w)
    (h : wpAnyH P md ops Q S fuel (listed.setIfInBounds i true) (a.put oi.dst v) w) : wpAnyH P md ops Q S (fuel + 1) listed a w :=
  wpAnyH_take (by rw [← Array.getElem?_toList]; exact hi) hs hf hr hQ hy hS h
theorem cons_ {P : Program} {md : Region.Mode} {ops : Array Oper} {Q : Exit → Act → World → Prop} {S : World → Prop} {fuel : Nat} {listed : Array Bool} {a : Act} {w : World} {i : Nat} {o : Oper} {rs : List Nat} (ho : ops.toList[i]? = some o)
    (h : ∀ K' : Act → World → Prop, Shut (∀ a w, S w → (S w → wpAnyH P md ops Q S fuel (listed.setIfInBounds i true) a w) → K' a w) → if Region.wanted o (yielded ops a.tmps) = true then Oper.wp P o a w K' Q else K' (a.put o.dst undef) w)
    (hs : AllReadyH P md ops Q S fuel listed a w rs) : AllReadyH P md ops Q S fuel listed a w (i :: rs) :=
  AllReadyH.cons (by rw [← Array.getElem?_toList]; exact ho) h hs
theorem wpl_buildZ (w : World) {ops : Array Oper} {rest : List Oper} {o : Oper} {a : Act} {Q : Exit → Act → World → Prop} (hg : Region.wanted o (yielded ops a.tmps) = true) (hop : o.op = Op.build 45 #[])
    (hK : wpList Try.prog ops Q rest (a.put o.dst (.agg (ar zeroA))) w) : wpList Try.prog ops Q (o :: rest) a w :=
  wpList_want hg fun K hK' => by
    unfold Oper.wp
    simp [execOp, hop, go_sem]
    exact hK' _ _ hK
theorem yield_la {o : Oper} {a : Act} {w : World} {src : Operand} {g : Nat} {l : List UInt8} (hop : o.op = Op.load 45 src) (he : a.eval src = .pointer (some ⟨g, 0, none⟩)) (hk : Blk w g (ar l) 45) (hl : l.length = 64) : (execOp a.eval o).run Try.prog w = .ok (.value (.agg (ar l))) w := by
  have h1 := run_la hk hl
  simp [execOp, hop, he, h1, Result.andThen]
def LawQ (w : World) (e : Ending) (w' : World) : Prop := e = .returned (.bool true) ∧ Below w.heap.size w w'
set_option maxRecDepth 100000 in
set_option maxHeartbeats 1000000 in
theorem packs_0 (g ps : Nat) (hg : g = 0) (A : Option Addr) (n c : Nat) (l : List UInt8) (w : World) (r : Rd w w.heap.size A n c l) (hmx : n ≤ 140737488351232) : Calls Try.prog 5 #[.int .u64 g, .int .u32 ps, .slice A n c] w (LawQ w) := by
  have t0 : ((g : Int) == 0) = true := by rw [beq_iff_eq]; omega
  have b := Below.refl w.heap.size w

  have HG := Lib.hid hg
  have HL := r.len
  have HLL := Lib.hid HL
  clear HL
  clear hg
  have hpl : zeroA.length = 64 := zl
  go_enter Try.func5, Try.ntmps5
  go_wp2_with fail
  refine (wakes05 _).mono ?_
  rintro e w1 ⟨rfl, b1⟩
  replace b := below_step b b1
  clear b1
  go_wp2_with (at_builtin; refine wpList_app8 _ rfl _ _ rfl w1.heap.size (some ⟨w1.heap.size, 0, none⟩) 0 0 [] rfl (Own.empty w1 _ (Nat.le_refl _)) w.heap.size A n c l rfl ((r.below b).alloc b.size _) (by omega) (by simp) ?_)
  intro A2 c2 w2 o2 b2
  replace b := below_step b (((Below.refl w1.heap.size w1).alloc (Nat.le_refl _) _).trans b2)
  clear b2
  go_wp2_with fail
  have hpk : Calls Try.prog 23 #[.int .u64 g, .int .u32 ps, .slice A2 n c2] w2 (PackNo 2 w2) := by rw [HG.out]; exact pack_0 ps A2 n c2 w2
  refine hpk.mono ?_
  rintro e w3 ⟨rfl, b3⟩
  replace b := below_step b b3
  clear b3 hpk o2
  have hs3 := b.size
  have k3 := Blk.new w3 (ar zeroA) 45
  replace b := below_a1' b (.cells (ar zeroA) 45)
  go_wp2_with (refine wpl_storeA _ rfl _ _ rfl w3.heap.size zeroA zeroA rfl rfl k3 zl hpl ?_)
  intro w4 k4 g4
  replace b := b.trans (below_grown g4 (by omega) k3.lt)
  clear k3 g4
  have eE := fun W => eqE zeroA zeroA true zl zl (by simp) W
  go_wp2_with (first | refine wpl_loadA _ rfl _ rfl w3.heap.size zeroA rfl k4 zl ?_ | refine wpl_buildZ _ rfl rfl ?_ )
  go_ret
  exact ⟨rfl, b⟩
set_option maxRecDepth 100000 in
set_option maxHeartbeats 1000000 in
theorem packs_L (g ps : Nat) (hg : g ≠ 0) (A : Option Addr) (n c : Nat) (l : List UInt8) (w : World) (r : Rd w w.heap.size A n c l) (hmx : n ≤ 140737488351232) (hn : 48 < n) : Calls Try.prog 5 #[.int .u64 g, .int .u32 ps, .slice A n c] w (LawQ w) := by
  have t0 : ((g : Int) == 0) = false := by rw [beq_eq_false_iff_ne]; omega
  have b := Below.refl w.heap.size w
  have t1 : (48 : Int) < (n : Int) := by omega
  have HG := Lib.hid hg
  have HL := r.len
  have HLL := Lib.hid HL
  clear HL
  clear hg
  have hpl : zeroA.length = 64 := zl
  go_enter Try.func5, Try.ntmps5
  go_wp2_with fail
  refine (wakes05 _).mono ?_
  rintro e w1 ⟨rfl, b1⟩
  replace b := below_step b b1
  clear b1
  go_wp2_with (at_builtin; refine wpList_app8 _ rfl _ _ rfl w1.heap.size (some ⟨w1.heap.size, 0, none⟩) 0 0 [] rfl (Own.empty w1 _ (Nat.le_refl _)) w.heap.size A n c l rfl ((r.below b).alloc b.size _) (by omega) (by simp) ?_)
  intro A2 c2 w2 o2 b2
  replace b := below_step b (((Below.refl w1.heap.size w1).alloc (Nat.le_refl _) _).trans b2)
  clear b2
  go_wp2_with fail
  have hpk : Calls Try.prog 23 #[.int .u64 g, .int .u32 ps, .slice A2 n c2] w2 (PackNo 3 w2) := pack_L g ps HG.out A2 n c2 hn w2
  refine hpk.mono ?_
  rintro e w3 ⟨rfl, b3⟩
  replace b := below_step b b3
  clear b3 hpk o2
  have hs3 := b.size
  have k3 := Blk.new w3 (ar zeroA) 45
  replace b := below_a1' b (.cells (ar zeroA) 45)
  go_wp2_with (refine wpl_storeA _ rfl _ _ rfl w3.heap.size zeroA zeroA rfl rfl k3 zl hpl ?_)
  intro w4 k4 g4
  replace b := b.trans (below_grown g4 (by omega) k3.lt)
  clear k3 g4
  have eE := fun W => eqE zeroA zeroA true zl zl (by simp) W
  go_wp2_with (first | refine wpl_loadA _ rfl _ rfl w3.heap.size zeroA rfl k4 zl ?_ | refine wpl_buildZ _ rfl rfl ?_ )
  go_ret
  exact ⟨rfl, b⟩
set_option maxRecDepth 100000 in
set_option maxHeartbeats 1000000 in
theorem packs_O (g ps : Nat) (hg : g ≠ 0) (hg2 : g < 18446744073709551616) (hps : ps < 4294967296) (A : Option Addr) (n c : Nat) (l : List UInt8) (w : World) (r : Rd w w.heap.size A n c l) (hmx : n ≤ 140737488351232) (hn : n ≤ 48) : Calls Try.prog 5 #[.int .u64 g, .int .u32 ps, .slice A n c] w (LawQ w) := by
  have t0 : ((g : Int) == 0) = false := by rw [beq_eq_false_iff_ne]; omega
  have b := Below.refl w.heap.size w
  have t1 : (n : Int) ≤ 48 := by omega
  have HG := Lib.hid hg
  have HL := r.len
  have HLL := Lib.hid HL
  clear HL
  clear hg
  have hpl : (packL g ps l).length = 64 := packL_length g ps l (by rw [HLL.out]; exact hn)
  go_enter Try.func5, Try.ntmps5
  go_wp2_with fail
  refine (wakes05 _).mono ?_
  rintro e w1 ⟨rfl, b1⟩
  replace b := below_step b b1
  clear b1
  go_wp2_with (at_builtin; refine wpList_app8 _ rfl _ _ rfl w1.heap.size (some ⟨w1.heap.size, 0, none⟩) 0 0 [] rfl (Own.empty w1 _ (Nat.le_refl _)) w.heap.size A n c l rfl ((r.below b).alloc b.size _) (by omega) (by simp) ?_)
  intro A2 c2 w2 o2 b2
  replace b := below_step b (((Below.refl w1.heap.size w1).alloc (Nat.le_refl _) _).trans b2)
  clear b2
  go_wp2_with fail
  have hpk : Calls Try.prog 23 #[.int .u64 g, .int .u32 ps, .slice A2 n c2] w2 (PackOk (packL g ps l) w2) := pack_ok g ps HG.out hg2 hps A2 n c2 l hn w2 o2.rd
  refine hpk.mono ?_
  rintro e w3 ⟨rfl, b3⟩
  replace b := below_step b b3
  clear b3 hpk o2
  have hs3 := b.size
  have k3 := Blk.new w3 (ar zeroA) 45
  replace b := below_a1' b (.cells (ar zeroA) 45)
  go_wp2_with (refine wpl_storeA _ rfl _ _ rfl w3.heap.size zeroA (packL g ps l) rfl rfl k3 zl hpl ?_)
  intro w4 k4 g4
  replace b := b.trans (below_grown g4 (by omega) k3.lt)
  clear k3 g4
  have eE := fun W => eqE (packL g ps l) (packL g ps l) true hpl hpl (by simp) W
  go_upto_region 8 with fail
  refine wp_region_held_drew (S := fun w' => Blk w' w3.heap.size (ar (packL g ps l)) 45) (by kernel_rfl) k4 (fun hHeld => ?_)
  have k4d : Blk w4.drew w3.heap.size (ar (packL g ps l)) 45 := k4
  refine take_ (i := 0) (v := ?_) rfl (by kernel_rfl) (by kernel_rfl) (by kernel_rfl) (fun _ _ _ h => h) (Or.inl ⟨by rfl, ?_⟩) hHeld ?_
  rotate_left
  · (intro wx hSw; (try dsimp only at hSw); go_simp; (try with_reducible rfl))
  try simp only [Act.put, List.setIfInBounds_toArray, List.set_cons_zero, List.set_cons_succ]
  refine take_ (i := 1) (v := ?_) rfl (by kernel_rfl) (by kernel_rfl) (by kernel_rfl) (fun _ _ _ h => h) (Or.inl ⟨by rfl, ?_⟩) hHeld ?_
  rotate_left
  · (intro wx hSw; (try dsimp only at hSw); go_simp; (try with_reducible rfl))
  try simp only [Act.put, List.setIfInBounds_toArray, List.set_cons_zero, List.set_cons_succ]
  refine take_ (i := 2) (v := ?_) rfl (by kernel_rfl) (by kernel_rfl) (by kernel_rfl) (fun _ _ _ h => h) (Or.inl ⟨by rfl, ?_⟩) hHeld ?_
  rotate_left
  · (intro wx hSw; (try dsimp only at hSw); go_simp; (try with_reducible rfl))
  try simp only [Act.put, List.setIfInBounds_toArray, List.set_cons_zero, List.set_cons_succ]
  refine take_ (i := 3) (v := ?_) rfl (by kernel_rfl) (by kernel_rfl) (by kernel_rfl) (fun _ _ _ h => h) (Or.inl ⟨by rfl, ?_⟩) hHeld ?_
  rotate_left
  · (intro wx hSw; (try dsimp only at hSw); refine yield_la (src := .tmp 7) ?_ ?_ hSw hpl <;> rfl)
  try simp only [Act.put, List.setIfInBounds_toArray, List.set_cons_zero, List.set_cons_succ]
  refine take_ (i := 4) (v := ?_) rfl (by kernel_rfl) (by kernel_rfl) (by kernel_rfl) (fun _ _ _ h => h) (Or.inl ⟨by rfl, ?_⟩) hHeld ?_
  rotate_left
  · (intro wx hSw; (try dsimp only at hSw); go_simp; (try with_reducible rfl))
  try simp only [Act.put, List.setIfInBounds_toArray, List.set_cons_zero, List.set_cons_succ]
  refine take_ (i := 5) (v := ?_) rfl (by kernel_rfl) (by kernel_rfl) (by kernel_rfl) (fun _ _ _ h => h) (Or.inl ⟨by rfl, ?_⟩) hHeld ?_
  rotate_left
  · (intro wx hSw; (try dsimp only at hSw); go_simp; (try with_reducible rfl))
  try simp only [Act.put, List.setIfInBounds_toArray, List.set_cons_zero, List.set_cons_succ]
  refine take_ (i := 6) (v := ?_) rfl (by kernel_rfl) (by kernel_rfl) (by kernel_rfl) (fun _ _ _ h => h) (Or.inl ⟨by rfl, ?_⟩) hHeld ?_
  rotate_left
  · (intro wx hSw; (try dsimp only at hSw); go_simp; (try with_reducible rfl))
  try simp only [Act.put, List.setIfInBounds_toArray, List.set_cons_zero, List.set_cons_succ]
  refine wpAnyH_ready (rs := [7]) (by kernel_rfl) (by simp) ?_
  refine cons_ (i := 7) rfl (fun K hK => ?_) AllReadyH.nil
  go_simp
  refine (rblock_any g ps hg2 hps A n c l hn _ ((r.below b.drew).more b.size)).mono ?_
  rintro e w5 ⟨rfl, b5⟩
  refine hK.out _ _ ?_ (fun hHeld => ?_)
  · exact k4d.step b5
  clear hK K hHeld
  try simp only [Act.put, List.setIfInBounds_toArray, List.set_cons_zero, List.set_cons_succ]
  have hHeld := k4d.step b5
  refine take_ (i := 8) (v := ?_) rfl (by kernel_rfl) (by kernel_rfl) (by kernel_rfl) (fun _ _ _ h => h) (Or.inl ⟨by rfl, ?_⟩) hHeld ?_
  rotate_left
  · (intro wx hSw; (try dsimp only at hSw); go_simp; (try with_reducible rfl))
  try simp only [Act.put, List.setIfInBounds_toArray, List.set_cons_zero, List.set_cons_succ]
  refine take_ (i := 9) (v := ?_) rfl (by kernel_rfl) (by kernel_rfl) (by kernel_rfl) (fun _ _ _ h => h) (Or.inl ⟨by rfl, ?_⟩) hHeld ?_
  rotate_left
  · (intro wx hSw; (try dsimp only at hSw); go_simp; (try with_reducible rfl))
  try simp only [Act.put, List.setIfInBounds_toArray, List.set_cons_zero, List.set_cons_succ]
  refine take_ (i := 10) (v := ?_) rfl (by kernel_rfl) (by kernel_rfl) (by kernel_rfl) (fun _ _ _ h => h) (Or.inl ⟨by rfl, ?_⟩) hHeld ?_
  rotate_left
  · (intro wx hSw; (try dsimp only at hSw); go_simp; (try with_reducible rfl))
  try simp only [Act.put, List.setIfInBounds_toArray, List.set_cons_zero, List.set_cons_succ]
  refine wpAnyH_done (by kernel_rfl) ?_ _
  go_wp2_with fail
  go_ret
  exact ⟨rfl, below_step b.drew b5⟩
theorem walk_stampPacks (g ps : Nat) (A : Option Addr) (n c : Nat) (l : List UInt8) (w : World) (m0 : (g : Int) ≤ 18446744073709551615) (m1 : (ps : Int) ≤ 4294967295) (r : Rd w w.heap.size A n c l) (hc : c ≤ 140737488351232) :
    Calls Try.prog 5 #[.int .u64 g, .int .u32 ps, .slice A n c] w fun e w' => e = .returned (.bool true) ∧ Below w.heap.size w w' := by
  have hnc := r.cap
  by_cases hg : g = 0
  · exact packs_0 g ps hg A n c l w r (by omega)
  · by_cases hn : n ≤ 48
    · exact packs_O g ps hg (by omega) (by omega) A n c l w r (by omega) hn
    · exact packs_L g ps hg A n c l w r (by omega) (by omega)


set_option maxRecDepth 100000 in
theorem lifted_stampPacks (os : Os) (started : os.Started) (H : Type) (enc : TypeId × Value → H) :
    ReturnsInHanded {} Try.checked os 5 .any (Rows.stampPacksSpec.pre6 enc Try.prog Try.f5 Rows.stampPacksRow.domain false) (Rows.stampPacksSpec.post enc Try.prog Try.f5 false true false false) := by
  refine returnsInHanded_of_change_sized (C := Try.checked) own started (by kernel_rfl) Try.func5
    (ChangeSpec.witness6 (enc := enc) (C := Try.checked) false ⟨#[], #[.int .u64 0, .int .u32 0, .slice none 0 0], []⟩ 8 (by kernel_rfl) (by kernel_rfl) (by kernel_rfl) (by kernel_rfl)) ?_
  intro W base args ds gs before hval0 hW hcnd hsz0 _
  have hval : ∀ (j : Nat) t v, Try.f5.params[j]? = some t → args[j]? = some v → Value.okWide Try.prog W .any base t v := hval0
  have hsz : (DataW.weightsEach Try.prog (Try.f5.params.toList ++ Rows.stampPacksSpec.plain.varTypes Try.prog) (ds ++ gs)).all (· ≤ reachBytes) = true := hsz0
  have hW' := hW
  obtain ⟨p, q, hA0, hV, rfl, hfz, hnd⟩ := hW
  have hA : DataW.TrodAll enc Try.prog W 0 (fun _ => true) true Try.f5.params.toList args.toList ds p := hA0
  rw [Try.params5] at hA hval hsz
  obtain ⟨v0, vs0, d0, ds0, p0, q0, hargs, rfl, rfl, h0, t0⟩ := trodAll_cons hA
  obtain ⟨v1, vs1, d1, ds1, p1, q1, rfl, rfl, rfl, h1, t1⟩ := trodAll_cons t0
  obtain ⟨v2, vs2, d2, ds2, p2, q2, rfl, rfl, rfl, h2, t2⟩ := trodAll_cons t1
  obtain ⟨rfl, rfl, rfl⟩ := trodAll_nil t2
  obtain rfl : args = #[v0, v1, v2] := by cases args; simp_all
  obtain ⟨rfl, rfl⟩ := trodVars_none hV
  have k0 := h0
  obtain ⟨z0, rfl, rfl, rfl, wf0⟩ := open_int Try.underlying24 (hval 0 24 v0 rfl rfl) h0
  obtain ⟨x0, rfl, m0⟩ := wf_nat (M := 18446744073709551615) wf0 rfl rfl
  have k1 := h1
  obtain ⟨z1, rfl, rfl, rfl, wf1⟩ := open_int Try.underlying23 (hval 1 23 v1 rfl rfl) h1
  obtain ⟨x1, rfl, m1⟩ := wf_nat (M := 4294967295) wf1 rfl rfl
  have k2 := h2
  obtain ⟨A2, n2, c2, l2, rfl, r2, y2⟩ := open_bytes (hval 2 27 v2 rfl rfl) h2
  have s2 := y2 (weights_of hsz (j := 2) rfl rfl)
  clear hA0 hval0
  refine (walk_stampPacks x0 x1 A2 n2 c2 l2 W m0 m1 r2 s2).mono fun e W' ⟨he, bel⟩ => ?_
  subst he
  exact ⟨_, rfl, _, _, _, [], _, [], hW', trodAll_mk1 (shut_bool Try.underlying4 _), (trodAll_cons_mk (Below.trod laidOut (by kernel_rfl) (of_decide_eq_true (by kernel_rfl)) k0 bel (trod_places k0)) (trodAll_cons_mk (Below.trod laidOut (by kernel_rfl) (of_decide_eq_true (by kernel_rfl)) k1 bel (trod_places k1)) (trodAll_cons_mk (Below.trod laidOut (by kernel_rfl) (of_decide_eq_true (by kernel_rfl)) k2 bel (trod_places k2)) trodAll_mk0))), rfl, bel.frame _, fun h => by cases h⟩

theorem over_stampPacks : Rows.stampPacksRow.holds Try.pinned (OpenSpec.ofChange Rows.stampPacksSpec) :=
  OpenClaim.holds_of_wide 5 Try.f5 rfl rfl rfl rfl rfl rfl rfl ⟨rfl, rfl, rfl, rfl, rfl⟩ rfl rfl rfl rfl rfl (by kernel_rfl) Try.func5 (by kernel_rfl)
    (of_decide_eq_true (by kernel_rfl)) (by unfold Func.isWrapper; first | (rw [if_pos (by decide +kernel)]; kernel_rfl) | (rw [if_neg (by decide +kernel)]; exact ⟨rfl, rfl⟩))
    (fun os started H enc _ => lifted_stampPacks os started H enc)

/-- The statement. -/
theorem stampPacks_holds : Rows.StampPacksSaid := over_stampPacks
#print axioms stampPacks_holds

end Go.Proofs.Ytbmlpeomcagcjaa

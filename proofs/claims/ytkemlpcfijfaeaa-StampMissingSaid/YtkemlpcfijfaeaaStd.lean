/- icehouseref05.Read. Conditions: typed in each theorem. -/
import Derived.Test.YtkemlpcfijfaeaaStc
import Derived.StillTailTactics
import Derived.Deep.RegionHeld3
import Derived.Deep.DrawnRows
namespace Go.Proofs.Ytkemlpcfijfaeaa
set_option linter.unusedVariables false
open Go.RowKit

theorem high_fld5 {l : List UInt8} {o k : Nat} (h : o + k ≤ l.length) : highB (fld l o k) k = (l.drop o).take k :=
  highB_numB k _ (by rw [List.length_take, List.length_drop]; omega)
theorem cut_app (L : List UInt8) (i j : Nat) : (L.drop i).take j ++ L.drop (i + j) = L.drop i := by
  rw [← List.drop_drop]
  exact List.take_append_drop _ _
/-- A sector is the stamped one of its numbers and its payload: two noughts, and noughts behind the payload. -/
theorem pack_eq {L : List UInt8} (hL : L.length = 64) (hf : fld L 12 2 ≤ 48) (h1 : (L.drop 14).take 2 = [0, 0]) (h2 : L.drop (16 + fld L 12 2) = List.replicate (48 - fld L 12 2) 0) : packL (fld L 0 8) (fld L 8 4) ((L.drop 16).take (fld L 12 2)) = L := by
  have hp : ((L.drop 16).take (fld L 12 2)).length = fld L 12 2 := by rw [List.length_take, List.length_drop]; omega
  unfold packL stH
  rw [hp, high_fld5 (by omega), high_fld5 (by omega), high_fld5 (o := 12) (k := 2) (by omega), ← h1, ← h2]
  simp only [List.append_assoc]
  rw [cut_app L 16, show (16 : Nat) = 14 + 2 from rfl, cut_app L 14, show (14 : Nat) = 12 + 2 from rfl, cut_app L 12, show (12 : Nat) = 8 + 4 from rfl, cut_app L 8, show (8 : Nat) = 0 + 8 from rfl, cut_app L 0, List.drop_zero]
theorem pack_get (g p : Nat) (l : List UInt8) (hl : l.length ≤ 48) (i : Nat) (hi : i = 14 ∨ i = 15 ∨ (16 + l.length ≤ i ∧ i < 64)) : (packL g p l)[i]? = some 0 := by
  unfold packL
  have h14 := stH_length g p l.length
  rcases hi with rfl | rfl | ⟨h1, h2⟩
  · rw [List.append_assoc, List.append_assoc, List.getElem?_append_right (by omega), h14]; rfl
  · rw [List.append_assoc, List.append_assoc, List.getElem?_append_right (by omega), h14]; rfl
  · rw [List.getElem?_append_right (by simp [h14]; omega), List.getElem?_replicate, if_pos (by simp [h14]; omega)]
theorem cell_blk {w : World} {g : Nat} {L : List UInt8} (h : Blk w g (ar L) 47) {i : Nat} {x : UInt8} (hx : L[i]? = some x) : w.cell? ⟨g, i, none⟩ = some (.int .u8 (x.toNat : Int)) := by
  rw [cell_of_row w g i _ _ (0, 0) h]
  simp [ar, cbs, hx, cb]
theorem slcC (L : List UInt8) (hL : L.length = 64) (i j : Nat) (hij : i ≤ j) (hj : j ≤ 64) (hi : i < 64) : ∀ (g : Nat) (wx : World), (Instr.sliceAt 47 (.pointer (some ⟨g, 0, none⟩)) (some (.int .i64 (i : Nat))) (some (.int .i64 (j : Nat))) none).run Try.prog wx = .ok (.slice (some ⟨g, i, none⟩) (j - i) (64 - i)) wx := fun g wx => by
  rw [run_sliceAt_array_lh (P := Try.prog) wx _ ⟨g, 0, none⟩ unAe .i64 .i64 (i : Int) (j : Int) (by omega) (by omega) (by rw [arL]; omega), sz8 _ elA]
  simp only [Result.andThen, slicedAt, arL]
  have ha : (⟨g, 0, none⟩ : Addr).add i = ⟨g, i, none⟩ := by
    unfold Addr.add
    by_cases hi : i = 0
    · subst hi; rfl
    · rw [if_neg hi]; simp
  simp [ha]
  omega
theorem num_blk {W : World} {gb : Nat} {L : List UInt8} (h : Blk W gb (ar L) 47) (hL : L.length = 64) (i k : Nat) (hk : k ≤ 8) (hj : i + k ≤ 63) :
    Calls Try.prog 44 #[.slice (some ⟨gb, i, none⟩) k (64 - i)] W fun e w' => e = .returned (.int .u64 (fld L i k : Nat)) ∧ W = w' := by
  have r := rd_ar h (by rw [hL]; simp [maxLen])
  rw [hL] at r
  have hh := r.cut (i := i) (j := i + k) (by omega) (by omega)
  rw [if_neg (by omega), List.drop_take, Nat.add_sub_cancel_left] at hh
  have ea : (some (⟨gb, 0, none⟩ : Addr)).map (·.add i) = some ⟨gb, i, none⟩ := by
    show some (Addr.add _ i) = _
    unfold Addr.add
    by_cases hi : i = 0
    · subst hi; rfl
    · rw [if_neg hi]; simp
  rw [ea] at hh
  have := number_any _ k (64 - i) _ _ W hh
  rw [numQ_small (by rw [List.length_take]; omega)] at this
  exact this
theorem take_ {P : Program} {md : Region.Mode} {ops : Array Oper} {Q : Exit → Act → World → Prop} {S : World → Prop} {i : Nat} {oi : Oper} {v : Value} {fuel : Nat} {listed : Array Bool} {a : Act} {w : World} (hi : ops.toList[i]? = some oi)
    (hs : Region.noSelect ops = true) (hf : Region.free md ops listed i = true) (hr : (Region.ready md ops listed).contains i = true)
    (hQ : ∀ c a w, Q (.panic c) (a.put oi.dst v) w → Q (.panic c) a w) (hy : YieldsIf P ops S oi v a) (hS : S w)
    (h : wpAnyH P md ops Q S fuel (listed.setIfInBounds i true) (a.put oi.dst v) w) : wpAnyH P md ops Q S (fuel + 1) listed a w :=
  wpAnyH_take (by rw [← Array.getElem?_toList]; exact hi) hs hf hr hQ hy hS h
theorem cons_ {P : Program} {md : Region.Mode} {ops : Array Oper} {Q : Exit → Act → World → Prop} {S : World → Prop} {fuel : Nat} {listed : Array Bool} {a : Act} {w : World} {i : Nat} {o : Oper} {rs : List Nat} (ho : ops.toList[i]? = some o)
    (h : ∀ K' : Act → World → Prop, Shut (∀ a w, S w → (S w → wpAnyH P md ops Q S fuel (listed.setIfInBounds i true) a w) → K' a w) → if Region.wanted o (yielded ops a.tmps) = true then Oper.wp P o a w K' Q else K' (a.put o.dst undef) w)
    (hs : AllReadyH P md ops Q S fuel listed a w rs) : AllReadyH P md ops Q S fuel listed a w (i :: rs) :=
  AllReadyH.cons (by rw [← Array.getElem?_toList]; exact ho) h hs
def RNo (w : World) (e : Ending) (w' : World) : Prop := e = .returned (.tuple #[.agg #[.int .u64 0, .int .u32 0, .int .i64 0], .slice none 0 0, .bool false]) ∧ Below w.heap.size w w'
def ROk (L : List UInt8) (w : World) (e : Ending) (w' : World) : Prop := ∃ P cP, e = .returned (.tuple #[.agg #[.int .u64 (fld L 0 8 : Nat), .int .u32 (fld L 8 4 : Nat), .int .i64 (fld L 12 2 : Nat)], .slice P (fld L 12 2) cP, .bool true]) ∧ Own w' w.heap.size P (fld L 12 2) cP ((L.drop 16).take (fld L 12 2)) ∧ Below w.heap.size w w'
/-- Noughts stand behind the payload, and it is told; or they do not. -/
def ROt (L : List UInt8) (w : World) (e : Ending) (w' : World) : Prop := ((∀ j, 16 + fld L 12 2 ≤ j → j < 64 → L[j]? = some 0) ∧ ROk L w e w') ∨ ((∃ j, 16 + fld L 12 2 ≤ j ∧ j < 64 ∧ L[j]? ≠ some 0) ∧ RNo w e w')
set_option maxRecDepth 100000 in
set_option maxHeartbeats 1000000 in
theorem rread_g (L : List UInt8) (hL : L.length = 64) (w : World) (hg : fld L 0 8 = 0) : Calls Try.prog 30 #[.agg (ar L)] w (RNo w) := by
  have fg := fld_lt L 0 8
  have fp := fld_lt L 8 4
  have ff := fld_lt L 12 2
  have k1 := (Blk.new w (ar L) 47).alloc (.cells #[.int .u64 0, .int .u32 0, .int .i64 0] 49)
  have k2 : Blk ((w.alloc (.cells (ar L) 47)).alloc (.cells #[.int .u64 0, .int .u32 0, .int .i64 0] 49)) (w.heap.size + 1) #[.int .u64 0, .int .u32 0, .int .i64 0] 49 := by
    have := Blk.new (w.alloc (.cells (ar L) 47)) #[.int .u64 0, .int .u32 0, .int .i64 0] 49
    rwa [World.size_alloc] at this
  have b : Below w.heap.size w ((w.alloc (.cells (ar L) 47)).alloc (.cells #[.int .u64 0, .int .u32 0, .int .i64 0] 49)) := below_a1' (below_a1' (Below.refl _ _) _) _
  have hz := sz_ar hL
  have hN0 := fun (W : World) (k : Blk W w.heap.size (ar L) 47) => num_blk k hL 0 8 (by omega) (by omega)
  have hN8 := fun (W : World) (k : Blk W w.heap.size (ar L) 47) => num_blk k hL 8 4 (by omega) (by omega)
  have hN12 := fun (W : World) (k : Blk W w.heap.size (ar L) 47) => num_blk k hL 12 2 (by omega) (by omega)
  have s0 := slcC L hL 0 8 (by omega) (by omega) (by omega)
  have s8 := slcC L hL 8 12 (by omega) (by omega) (by omega)
  have s12 := slcC L hL 12 14 (by omega) (by omega) (by omega)
  generalize eG : fld L 0 8 = g at *
  generalize eP : fld L 8 4 = p at *
  generalize eF : fld L 12 2 = f at *
  have Hg := Lib.hid eG.symm
  have Hp := Lib.hid eP.symm
  have Hf := Lib.hid eF.symm
  have HL := Lib.hid hL
  have HN0 := Lib.hid hN0
  have HN8 := Lib.hid hN8
  have HN12 := Lib.hid hN12
  clear eG eP eF hN0 hN8 hN12
  have Wp : IntKind.u32.wrap (p : Int) = (p : Int) := IntWalk.u32_in _ (by omega)
  have Wf : IntKind.i64.wrap (f : Int) = (f : Int) := IntWalk.i64_in _ (by omega)
  have g0 : ((g : Int) == 0) = true := by rw [beq_iff_eq]; omega

  have Hgz := Lib.hid hg
  clear hg
  go_enter Try.func30, Try.ntmps30
  go_wp2_with fail
  generalize (w.alloc (.cells (ar L) 47)).alloc (.cells #[.int .u64 0, .int .u32 0, .int .i64 0] 49) = W0 at k1 k2 b ⊢
  have hltG := k2.lt
  go_upto_region 1 with fail
  go_cut [5] (fun s wx => s = .pointer (some ⟨W0.heap.size, 0, none⟩) ∧ Blk wx W0.heap.size #[.int .u64 (g : Nat), .int .u32 (p : Nat), .int .i64 (f : Nat)] 49 ∧ Blk wx w.heap.size (ar L) 47 ∧ Blk wx (w.heap.size + 1) #[.int .u64 0, .int .u32 0, .int .i64 0] 49 ∧ Below w.heap.size w wx)
  case first =>
    have q1 : Blk W0.drew w.heap.size (ar L) 47 := k1
    have q2 : ∀ o : Obj, Blk (W0.alloc o).drew w.heap.size (ar L) 47 := fun o => k1.alloc o
    go_region_held3 (fun _ => True) (trivial)
      (first
        | (go_at_call 44
           first
             | with_reducible refine (HN0.out _ q1).mono ?_
             | with_reducible refine (HN0.out _ (q2 _)).mono ?_
             | with_reducible refine (HN8.out _ q1).mono ?_
             | with_reducible refine (HN8.out _ (q2 _)).mono ?_
             | with_reducible refine (HN12.out _ q1).mono ?_
             | with_reducible refine (HN12.out _ (q2 _)).mono ?_
             | fail
           rintro e w2 ⟨rfl, hw⟩
           subst hw)
        | fail)
    all_goals go_wp2_with fail
    all_goals go_meet
    all_goals exact ⟨rfl, Blk.new W0 #[.int .u64 (g : Nat), .int .u32 (p : Nat), .int .i64 (f : Nat)] 49, k1.alloc _, k2.alloc _, (below_a1' b _).drew⟩
  case rest =>
  obtain ⟨rfl, k3, k1', k2', b'⟩ := hcut
  clear HN0 HN8 HN12 s0 s8 s12 k1 k2 b
  obtain ⟨z0, z1, z2⟩ := box3 k2'
  have y0 := k2'.frozen 0
  have y1 := k2'.frozen 1
  have y2 := k2'.frozen 2
  obtain ⟨q0, q1, q2⟩ := box3 k3
  have kf := blk_set3 k2' (.int .u64 0) (.int .u32 0) (.int .i64 0)
  have hg3 := grown_set3 wc (w.heap.size + 1) (.int .u64 0) (.int .u32 0) (.int .i64 0)
  have bff := b'.trans (below_grown hg3 (Nat.le_succ _) k2'.lt)
  obtain ⟨t0, t1, t2⟩ := box3 kf
  clear k1' k2' k3
  go_wp2_with fail
  refine bodyPost_ret (v := .tuple #[.agg #[.int .u64 0, .int .u32 0, .int .i64 0], .slice none 0 0, .bool false]) (by simp [results, Try.results30, go_sem, t0, t1, t2]) rfl ?_
  exact ⟨rfl, bff⟩
set_option maxRecDepth 100000 in
set_option maxHeartbeats 1000000 in
theorem rread_f (L : List UInt8) (hL : L.length = 64) (w : World) (hg : fld L 0 8 ≠ 0) (hf : 48 < fld L 12 2) : Calls Try.prog 30 #[.agg (ar L)] w (RNo w) := by
  have fg := fld_lt L 0 8
  have fp := fld_lt L 8 4
  have ff := fld_lt L 12 2
  have k1 := (Blk.new w (ar L) 47).alloc (.cells #[.int .u64 0, .int .u32 0, .int .i64 0] 49)
  have k2 : Blk ((w.alloc (.cells (ar L) 47)).alloc (.cells #[.int .u64 0, .int .u32 0, .int .i64 0] 49)) (w.heap.size + 1) #[.int .u64 0, .int .u32 0, .int .i64 0] 49 := by
    have := Blk.new (w.alloc (.cells (ar L) 47)) #[.int .u64 0, .int .u32 0, .int .i64 0] 49
    rwa [World.size_alloc] at this
  have b : Below w.heap.size w ((w.alloc (.cells (ar L) 47)).alloc (.cells #[.int .u64 0, .int .u32 0, .int .i64 0] 49)) := below_a1' (below_a1' (Below.refl _ _) _) _
  have hz := sz_ar hL
  have hN0 := fun (W : World) (k : Blk W w.heap.size (ar L) 47) => num_blk k hL 0 8 (by omega) (by omega)
  have hN8 := fun (W : World) (k : Blk W w.heap.size (ar L) 47) => num_blk k hL 8 4 (by omega) (by omega)
  have hN12 := fun (W : World) (k : Blk W w.heap.size (ar L) 47) => num_blk k hL 12 2 (by omega) (by omega)
  have s0 := slcC L hL 0 8 (by omega) (by omega) (by omega)
  have s8 := slcC L hL 8 12 (by omega) (by omega) (by omega)
  have s12 := slcC L hL 12 14 (by omega) (by omega) (by omega)
  generalize eG : fld L 0 8 = g at *
  generalize eP : fld L 8 4 = p at *
  generalize eF : fld L 12 2 = f at *
  have Hg := Lib.hid eG.symm
  have Hp := Lib.hid eP.symm
  have Hf := Lib.hid eF.symm
  have HL := Lib.hid hL
  have HN0 := Lib.hid hN0
  have HN8 := Lib.hid hN8
  have HN12 := Lib.hid hN12
  clear eG eP eF hN0 hN8 hN12
  have Wp : IntKind.u32.wrap (p : Int) = (p : Int) := IntWalk.u32_in _ (by omega)
  have Wf : IntKind.i64.wrap (f : Int) = (f : Int) := IntWalk.i64_in _ (by omega)
  have g0 : ((g : Int) == 0) = false := by rw [beq_eq_false_iff_ne]; omega
  have i48 : (48 : Int) < (f : Int) := by omega
  have Hgz := Lib.hid hg
  clear hg
  go_enter Try.func30, Try.ntmps30
  go_wp2_with fail
  generalize (w.alloc (.cells (ar L) 47)).alloc (.cells #[.int .u64 0, .int .u32 0, .int .i64 0] 49) = W0 at k1 k2 b ⊢
  have hltG := k2.lt
  go_upto_region 1 with fail
  go_cut [5] (fun s wx => s = .pointer (some ⟨W0.heap.size, 0, none⟩) ∧ Blk wx W0.heap.size #[.int .u64 (g : Nat), .int .u32 (p : Nat), .int .i64 (f : Nat)] 49 ∧ Blk wx w.heap.size (ar L) 47 ∧ Blk wx (w.heap.size + 1) #[.int .u64 0, .int .u32 0, .int .i64 0] 49 ∧ Below w.heap.size w wx)
  case first =>
    have q1 : Blk W0.drew w.heap.size (ar L) 47 := k1
    have q2 : ∀ o : Obj, Blk (W0.alloc o).drew w.heap.size (ar L) 47 := fun o => k1.alloc o
    go_region_held3 (fun _ => True) (trivial)
      (first
        | (go_at_call 44
           first
             | with_reducible refine (HN0.out _ q1).mono ?_
             | with_reducible refine (HN0.out _ (q2 _)).mono ?_
             | with_reducible refine (HN8.out _ q1).mono ?_
             | with_reducible refine (HN8.out _ (q2 _)).mono ?_
             | with_reducible refine (HN12.out _ q1).mono ?_
             | with_reducible refine (HN12.out _ (q2 _)).mono ?_
             | fail
           rintro e w2 ⟨rfl, hw⟩
           subst hw)
        | fail)
    all_goals go_wp2_with fail
    all_goals go_meet
    all_goals exact ⟨rfl, Blk.new W0 #[.int .u64 (g : Nat), .int .u32 (p : Nat), .int .i64 (f : Nat)] 49, k1.alloc _, k2.alloc _, (below_a1' b _).drew⟩
  case rest =>
  obtain ⟨rfl, k3, k1', k2', b'⟩ := hcut
  clear HN0 HN8 HN12 s0 s8 s12 k1 k2 b
  obtain ⟨z0, z1, z2⟩ := box3 k2'
  have y0 := k2'.frozen 0
  have y1 := k2'.frozen 1
  have y2 := k2'.frozen 2
  obtain ⟨q0, q1, q2⟩ := box3 k3
  have kf := blk_set3 k2' (.int .u64 0) (.int .u32 0) (.int .i64 0)
  have hg3 := grown_set3 wc (w.heap.size + 1) (.int .u64 0) (.int .u32 0) (.int .i64 0)
  have bff := b'.trans (below_grown hg3 (Nat.le_succ _) k2'.lt)
  obtain ⟨t0, t1, t2⟩ := box3 kf
  clear k1' k2' k3
  go_wp2_with fail
  refine bodyPost_ret (v := .tuple #[.agg #[.int .u64 0, .int .u32 0, .int .i64 0], .slice none 0 0, .bool false]) (by simp [results, Try.results30, go_sem, t0, t1, t2]) rfl ?_
  exact ⟨rfl, bff⟩
set_option maxRecDepth 100000 in
set_option maxHeartbeats 1000000 in
theorem rread_x (L : List UInt8) (hL : L.length = 64) (w : World) (hg : fld L 0 8 ≠ 0) (hf : fld L 12 2 ≤ 48) (h14 : L[14]? ≠ some 0) : Calls Try.prog 30 #[.agg (ar L)] w (RNo w) := by
  have fg := fld_lt L 0 8
  have fp := fld_lt L 8 4
  have ff := fld_lt L 12 2
  have k1 := (Blk.new w (ar L) 47).alloc (.cells #[.int .u64 0, .int .u32 0, .int .i64 0] 49)
  have k2 : Blk ((w.alloc (.cells (ar L) 47)).alloc (.cells #[.int .u64 0, .int .u32 0, .int .i64 0] 49)) (w.heap.size + 1) #[.int .u64 0, .int .u32 0, .int .i64 0] 49 := by
    have := Blk.new (w.alloc (.cells (ar L) 47)) #[.int .u64 0, .int .u32 0, .int .i64 0] 49
    rwa [World.size_alloc] at this
  have b : Below w.heap.size w ((w.alloc (.cells (ar L) 47)).alloc (.cells #[.int .u64 0, .int .u32 0, .int .i64 0] 49)) := below_a1' (below_a1' (Below.refl _ _) _) _
  have hz := sz_ar hL
  have hN0 := fun (W : World) (k : Blk W w.heap.size (ar L) 47) => num_blk k hL 0 8 (by omega) (by omega)
  have hN8 := fun (W : World) (k : Blk W w.heap.size (ar L) 47) => num_blk k hL 8 4 (by omega) (by omega)
  have hN12 := fun (W : World) (k : Blk W w.heap.size (ar L) 47) => num_blk k hL 12 2 (by omega) (by omega)
  have s0 := slcC L hL 0 8 (by omega) (by omega) (by omega)
  have s8 := slcC L hL 8 12 (by omega) (by omega) (by omega)
  have s12 := slcC L hL 12 14 (by omega) (by omega) (by omega)
  generalize eG : fld L 0 8 = g at *
  generalize eP : fld L 8 4 = p at *
  generalize eF : fld L 12 2 = f at *
  have Hg := Lib.hid eG.symm
  have Hp := Lib.hid eP.symm
  have Hf := Lib.hid eF.symm
  have HL := Lib.hid hL
  have HN0 := Lib.hid hN0
  have HN8 := Lib.hid hN8
  have HN12 := Lib.hid hN12
  clear eG eP eF hN0 hN8 hN12
  have Wp : IntKind.u32.wrap (p : Int) = (p : Int) := IntWalk.u32_in _ (by omega)
  have Wf : IntKind.i64.wrap (f : Int) = (f : Int) := IntWalk.i64_in _ (by omega)
  have g0 : ((g : Int) == 0) = false := by rw [beq_eq_false_iff_ne]; omega
  have i48 : (f : Int) ≤ 48 := by omega
  have Hgz := Lib.hid hg
  clear hg
  go_enter Try.func30, Try.ntmps30
  go_wp2_with fail
  generalize (w.alloc (.cells (ar L) 47)).alloc (.cells #[.int .u64 0, .int .u32 0, .int .i64 0] 49) = W0 at k1 k2 b ⊢
  have hltG := k2.lt
  go_upto_region 1 with fail
  go_cut [5] (fun s wx => s = .pointer (some ⟨W0.heap.size, 0, none⟩) ∧ Blk wx W0.heap.size #[.int .u64 (g : Nat), .int .u32 (p : Nat), .int .i64 (f : Nat)] 49 ∧ Blk wx w.heap.size (ar L) 47 ∧ Blk wx (w.heap.size + 1) #[.int .u64 0, .int .u32 0, .int .i64 0] 49 ∧ Below w.heap.size w wx)
  case first =>
    have q1 : Blk W0.drew w.heap.size (ar L) 47 := k1
    have q2 : ∀ o : Obj, Blk (W0.alloc o).drew w.heap.size (ar L) 47 := fun o => k1.alloc o
    go_region_held3 (fun _ => True) (trivial)
      (first
        | (go_at_call 44
           first
             | with_reducible refine (HN0.out _ q1).mono ?_
             | with_reducible refine (HN0.out _ (q2 _)).mono ?_
             | with_reducible refine (HN8.out _ q1).mono ?_
             | with_reducible refine (HN8.out _ (q2 _)).mono ?_
             | with_reducible refine (HN12.out _ q1).mono ?_
             | with_reducible refine (HN12.out _ (q2 _)).mono ?_
             | fail
           rintro e w2 ⟨rfl, hw⟩
           subst hw)
        | fail)
    all_goals go_wp2_with fail
    all_goals go_meet
    all_goals exact ⟨rfl, Blk.new W0 #[.int .u64 (g : Nat), .int .u32 (p : Nat), .int .i64 (f : Nat)] 49, k1.alloc _, k2.alloc _, (below_a1' b _).drew⟩
  case rest =>
  obtain ⟨rfl, k3, k1', k2', b'⟩ := hcut
  clear HN0 HN8 HN12 s0 s8 s12 k1 k2 b
  obtain ⟨x14, e14⟩ : ∃ x, L[14]? = some x := ⟨_, List.getElem?_eq_getElem (by rw [HL.out]; omega)⟩
  obtain ⟨x15, e15⟩ : ∃ x, L[15]? = some x := ⟨_, List.getElem?_eq_getElem (by rw [HL.out]; omega)⟩
  have c14 := cell_blk k1' e14
  have c15 := cell_blk k1' e15
  have n14 : (x14.toNat : Int) ≠ 0 := by intro h0; apply h14; rw [e14]; congr 1; apply UInt8.toNat_inj.1; simpa using h0
  generalize (x14.toNat : Int) = v14 at *
  have d14 : (v14 != 0) = true := by rw [bne_iff_ne]; exact n14
  have d14' : (v14 == 0) = false := by rw [beq_eq_false_iff_ne]; exact n14
  clear e14 h14
  obtain ⟨z0, z1, z2⟩ := box3 k2'
  have y0 := k2'.frozen 0
  have y1 := k2'.frozen 1
  have y2 := k2'.frozen 2
  obtain ⟨q0, q1, q2⟩ := box3 k3
  have kf := blk_set3 k2' (.int .u64 0) (.int .u32 0) (.int .i64 0)
  have hg3 := grown_set3 wc (w.heap.size + 1) (.int .u64 0) (.int .u32 0) (.int .i64 0)
  have bff := b'.trans (below_grown hg3 (Nat.le_succ _) k2'.lt)
  obtain ⟨t0, t1, t2⟩ := box3 kf
  clear k1' k2' k3
  go_wp2_with fail
  refine bodyPost_ret (v := .tuple #[.agg #[.int .u64 0, .int .u32 0, .int .i64 0], .slice none 0 0, .bool false]) (by simp [results, Try.results30, go_sem, t0, t1, t2]) rfl ?_
  exact ⟨rfl, bff⟩
set_option maxRecDepth 100000 in
set_option maxHeartbeats 1000000 in
theorem rread_y (L : List UInt8) (hL : L.length = 64) (w : World) (hg : fld L 0 8 ≠ 0) (hf : fld L 12 2 ≤ 48) (h14 : L[14]? = some 0) (h15 : L[15]? ≠ some 0) : Calls Try.prog 30 #[.agg (ar L)] w (RNo w) := by
  have fg := fld_lt L 0 8
  have fp := fld_lt L 8 4
  have ff := fld_lt L 12 2
  have k1 := (Blk.new w (ar L) 47).alloc (.cells #[.int .u64 0, .int .u32 0, .int .i64 0] 49)
  have k2 : Blk ((w.alloc (.cells (ar L) 47)).alloc (.cells #[.int .u64 0, .int .u32 0, .int .i64 0] 49)) (w.heap.size + 1) #[.int .u64 0, .int .u32 0, .int .i64 0] 49 := by
    have := Blk.new (w.alloc (.cells (ar L) 47)) #[.int .u64 0, .int .u32 0, .int .i64 0] 49
    rwa [World.size_alloc] at this
  have b : Below w.heap.size w ((w.alloc (.cells (ar L) 47)).alloc (.cells #[.int .u64 0, .int .u32 0, .int .i64 0] 49)) := below_a1' (below_a1' (Below.refl _ _) _) _
  have hz := sz_ar hL
  have hN0 := fun (W : World) (k : Blk W w.heap.size (ar L) 47) => num_blk k hL 0 8 (by omega) (by omega)
  have hN8 := fun (W : World) (k : Blk W w.heap.size (ar L) 47) => num_blk k hL 8 4 (by omega) (by omega)
  have hN12 := fun (W : World) (k : Blk W w.heap.size (ar L) 47) => num_blk k hL 12 2 (by omega) (by omega)
  have s0 := slcC L hL 0 8 (by omega) (by omega) (by omega)
  have s8 := slcC L hL 8 12 (by omega) (by omega) (by omega)
  have s12 := slcC L hL 12 14 (by omega) (by omega) (by omega)
  generalize eG : fld L 0 8 = g at *
  generalize eP : fld L 8 4 = p at *
  generalize eF : fld L 12 2 = f at *
  have Hg := Lib.hid eG.symm
  have Hp := Lib.hid eP.symm
  have Hf := Lib.hid eF.symm
  have HL := Lib.hid hL
  have HN0 := Lib.hid hN0
  have HN8 := Lib.hid hN8
  have HN12 := Lib.hid hN12
  clear eG eP eF hN0 hN8 hN12
  have Wp : IntKind.u32.wrap (p : Int) = (p : Int) := IntWalk.u32_in _ (by omega)
  have Wf : IntKind.i64.wrap (f : Int) = (f : Int) := IntWalk.i64_in _ (by omega)
  have g0 : ((g : Int) == 0) = false := by rw [beq_eq_false_iff_ne]; omega
  have i48 : (f : Int) ≤ 48 := by omega
  have Hgz := Lib.hid hg
  clear hg
  go_enter Try.func30, Try.ntmps30
  go_wp2_with fail
  generalize (w.alloc (.cells (ar L) 47)).alloc (.cells #[.int .u64 0, .int .u32 0, .int .i64 0] 49) = W0 at k1 k2 b ⊢
  have hltG := k2.lt
  go_upto_region 1 with fail
  go_cut [5] (fun s wx => s = .pointer (some ⟨W0.heap.size, 0, none⟩) ∧ Blk wx W0.heap.size #[.int .u64 (g : Nat), .int .u32 (p : Nat), .int .i64 (f : Nat)] 49 ∧ Blk wx w.heap.size (ar L) 47 ∧ Blk wx (w.heap.size + 1) #[.int .u64 0, .int .u32 0, .int .i64 0] 49 ∧ Below w.heap.size w wx)
  case first =>
    have q1 : Blk W0.drew w.heap.size (ar L) 47 := k1
    have q2 : ∀ o : Obj, Blk (W0.alloc o).drew w.heap.size (ar L) 47 := fun o => k1.alloc o
    go_region_held3 (fun _ => True) (trivial)
      (first
        | (go_at_call 44
           first
             | with_reducible refine (HN0.out _ q1).mono ?_
             | with_reducible refine (HN0.out _ (q2 _)).mono ?_
             | with_reducible refine (HN8.out _ q1).mono ?_
             | with_reducible refine (HN8.out _ (q2 _)).mono ?_
             | with_reducible refine (HN12.out _ q1).mono ?_
             | with_reducible refine (HN12.out _ (q2 _)).mono ?_
             | fail
           rintro e w2 ⟨rfl, hw⟩
           subst hw)
        | fail)
    all_goals go_wp2_with fail
    all_goals go_meet
    all_goals exact ⟨rfl, Blk.new W0 #[.int .u64 (g : Nat), .int .u32 (p : Nat), .int .i64 (f : Nat)] 49, k1.alloc _, k2.alloc _, (below_a1' b _).drew⟩
  case rest =>
  obtain ⟨rfl, k3, k1', k2', b'⟩ := hcut
  clear HN0 HN8 HN12 s0 s8 s12 k1 k2 b
  obtain ⟨x14, e14⟩ : ∃ x, L[14]? = some x := ⟨_, List.getElem?_eq_getElem (by rw [HL.out]; omega)⟩
  obtain ⟨x15, e15⟩ : ∃ x, L[15]? = some x := ⟨_, List.getElem?_eq_getElem (by rw [HL.out]; omega)⟩
  have c14 := cell_blk k1' e14
  have c15 := cell_blk k1' e15
  obtain rfl : x14 = 0 := by rw [h14] at e14; injection e14 with e; exact e.symm
  replace c14 : wc.cell? ⟨w.heap.size, 14, none⟩ = some (.int .u8 0) := c14
  clear e14 h14
  have n15 : (x15.toNat : Int) ≠ 0 := by intro h0; apply h15; rw [e15]; congr 1; apply UInt8.toNat_inj.1; simpa using h0
  generalize (x15.toNat : Int) = v15 at *
  have d15 : (v15 != 0) = true := by rw [bne_iff_ne]; exact n15
  have d15' : (v15 == 0) = false := by rw [beq_eq_false_iff_ne]; exact n15
  clear e15 h15
  obtain ⟨z0, z1, z2⟩ := box3 k2'
  have y0 := k2'.frozen 0
  have y1 := k2'.frozen 1
  have y2 := k2'.frozen 2
  obtain ⟨q0, q1, q2⟩ := box3 k3
  have kf := blk_set3 k2' (.int .u64 0) (.int .u32 0) (.int .i64 0)
  have hg3 := grown_set3 wc (w.heap.size + 1) (.int .u64 0) (.int .u32 0) (.int .i64 0)
  have bff := b'.trans (below_grown hg3 (Nat.le_succ _) k2'.lt)
  obtain ⟨t0, t1, t2⟩ := box3 kf
  clear k1' k2' k3
  go_wp2_with fail
  refine bodyPost_ret (v := .tuple #[.agg #[.int .u64 0, .int .u32 0, .int .i64 0], .slice none 0 0, .bool false]) (by simp [results, Try.results30, go_sem, t0, t1, t2]) rfl ?_
  exact ⟨rfl, bff⟩
set_option maxRecDepth 100000 in
set_option maxHeartbeats 1000000 in
theorem rread_o (L : List UInt8) (hL : L.length = 64) (w : World) (hg : fld L 0 8 ≠ 0) (hf : fld L 12 2 ≤ 48) (h14 : L[14]? = some 0) (h15 : L[15]? = some 0) : Calls Try.prog 30 #[.agg (ar L)] w (ROt L w) := by
  unfold ROt ROk
  have fg := fld_lt L 0 8
  have fp := fld_lt L 8 4
  have ff := fld_lt L 12 2
  have k1 := (Blk.new w (ar L) 47).alloc (.cells #[.int .u64 0, .int .u32 0, .int .i64 0] 49)
  have k2 : Blk ((w.alloc (.cells (ar L) 47)).alloc (.cells #[.int .u64 0, .int .u32 0, .int .i64 0] 49)) (w.heap.size + 1) #[.int .u64 0, .int .u32 0, .int .i64 0] 49 := by
    have := Blk.new (w.alloc (.cells (ar L) 47)) #[.int .u64 0, .int .u32 0, .int .i64 0] 49
    rwa [World.size_alloc] at this
  have b : Below w.heap.size w ((w.alloc (.cells (ar L) 47)).alloc (.cells #[.int .u64 0, .int .u32 0, .int .i64 0] 49)) := below_a1' (below_a1' (Below.refl _ _) _) _
  have hz := sz_ar hL
  have hN0 := fun (W : World) (k : Blk W w.heap.size (ar L) 47) => num_blk k hL 0 8 (by omega) (by omega)
  have hN8 := fun (W : World) (k : Blk W w.heap.size (ar L) 47) => num_blk k hL 8 4 (by omega) (by omega)
  have hN12 := fun (W : World) (k : Blk W w.heap.size (ar L) 47) => num_blk k hL 12 2 (by omega) (by omega)
  have s0 := slcC L hL 0 8 (by omega) (by omega) (by omega)
  have s8 := slcC L hL 8 12 (by omega) (by omega) (by omega)
  have s12 := slcC L hL 12 14 (by omega) (by omega) (by omega)
  generalize eG : fld L 0 8 = g at *
  generalize eP : fld L 8 4 = p at *
  generalize eF : fld L 12 2 = f at *
  have Hg := Lib.hid eG.symm
  have Hp := Lib.hid eP.symm
  have Hf := Lib.hid eF.symm
  have HL := Lib.hid hL
  have HN0 := Lib.hid hN0
  have HN8 := Lib.hid hN8
  have HN12 := Lib.hid hN12
  clear eG eP eF hN0 hN8 hN12
  have Wp : IntKind.u32.wrap (p : Int) = (p : Int) := IntWalk.u32_in _ (by omega)
  have Wf : IntKind.i64.wrap (f : Int) = (f : Int) := IntWalk.i64_in _ (by omega)
  have g0 : ((g : Int) == 0) = false := by rw [beq_eq_false_iff_ne]; omega
  have i48 : (f : Int) ≤ 48 := by omega
  have Hgz := Lib.hid hg
  clear hg
  go_enter Try.func30, Try.ntmps30
  go_wp2_with fail
  generalize (w.alloc (.cells (ar L) 47)).alloc (.cells #[.int .u64 0, .int .u32 0, .int .i64 0] 49) = W0 at k1 k2 b ⊢
  have hltG := k2.lt
  go_upto_region 1 with fail
  go_cut [5] (fun s wx => s = .pointer (some ⟨W0.heap.size, 0, none⟩) ∧ Blk wx W0.heap.size #[.int .u64 (g : Nat), .int .u32 (p : Nat), .int .i64 (f : Nat)] 49 ∧ Blk wx w.heap.size (ar L) 47 ∧ Blk wx (w.heap.size + 1) #[.int .u64 0, .int .u32 0, .int .i64 0] 49 ∧ Below w.heap.size w wx)
  case first =>
    have q1 : Blk W0.drew w.heap.size (ar L) 47 := k1
    have q2 : ∀ o : Obj, Blk (W0.alloc o).drew w.heap.size (ar L) 47 := fun o => k1.alloc o
    go_region_held3 (fun _ => True) (trivial)
      (first
        | (go_at_call 44
           first
             | with_reducible refine (HN0.out _ q1).mono ?_
             | with_reducible refine (HN0.out _ (q2 _)).mono ?_
             | with_reducible refine (HN8.out _ q1).mono ?_
             | with_reducible refine (HN8.out _ (q2 _)).mono ?_
             | with_reducible refine (HN12.out _ q1).mono ?_
             | with_reducible refine (HN12.out _ (q2 _)).mono ?_
             | fail
           rintro e w2 ⟨rfl, hw⟩
           subst hw)
        | fail)
    all_goals go_wp2_with fail
    all_goals go_meet
    all_goals exact ⟨rfl, Blk.new W0 #[.int .u64 (g : Nat), .int .u32 (p : Nat), .int .i64 (f : Nat)] 49, k1.alloc _, k2.alloc _, (below_a1' b _).drew⟩
  case rest =>
  obtain ⟨rfl, k3, k1', k2', b'⟩ := hcut
  clear HN0 HN8 HN12 s0 s8 s12 k1 k2 b
  obtain ⟨x14, e14⟩ : ∃ x, L[14]? = some x := ⟨_, List.getElem?_eq_getElem (by rw [HL.out]; omega)⟩
  obtain ⟨x15, e15⟩ : ∃ x, L[15]? = some x := ⟨_, List.getElem?_eq_getElem (by rw [HL.out]; omega)⟩
  have c14 := cell_blk k1' e14
  have c15 := cell_blk k1' e15
  obtain rfl : x14 = 0 := by rw [h14] at e14; injection e14 with e; exact e.symm
  replace c14 : wc.cell? ⟨w.heap.size, 14, none⟩ = some (.int .u8 0) := c14
  clear e14 h14
  obtain rfl : x15 = 0 := by rw [h15] at e15; injection e15 with e; exact e.symm
  replace c15 : wc.cell? ⟨w.heap.size, 15, none⟩ = some (.int .u8 0) := c15
  clear e15 h15
  obtain ⟨z0, z1, z2⟩ := box3 k2'
  have y0 := k2'.frozen 0
  have y1 := k2'.frozen 1
  have y2 := k2'.frozen 2
  obtain ⟨q0, q1, q2⟩ := box3 k3
  go_wp2_with fail
  go_loopw [6] (fun i wr => ∃ k : Nat, 16 + f ≤ k ∧ k ≤ 64 ∧ i = .int .i64 k ∧ wc = wr ∧ ∀ j, 16 + f ≤ j → j < k → L[j]? = some 0) (fun i _ => 64 - (intOf i).toNat)
  case atStart => exact ⟨16 + f, Nat.le_refl _, by omega, by go_num, rfl, fun j h1 h2 => by omega⟩
  case round =>
    obtain ⟨k, hk1, hk2, rfl, rfl, hj⟩ := hrel
    by_cases hlt : k < 64
    · obtain ⟨x, ex⟩ : ∃ x, L[k]? = some x := ⟨_, List.getElem?_eq_getElem (by rw [HL.out]; omega)⟩
      have hc := cell_blk k1' ex
      have hk64 : (k : Int) < 64 := by omega
      by_cases hx : x = 0
      · subst hx
        replace hc : wc.cell? ⟨w.heap.size, k, none⟩ = some (.int .u8 0) := hc
        have HJ := Lib.hid hj
        have HX := Lib.hid ex
        clear hj ex k1' k2' k3
        go_wp2
        go_roundw
        case rel =>
          refine ⟨k + 1, by omega, by omega, by go_num, trivial, fun j h1 h2 => ?_⟩
          rcases Nat.lt_or_ge j k with h3 | h3
          · exact HJ.out j h1 h3
          · obtain rfl : j = k := by omega
            exact HX.out
        case measure => simp [intOf]; omega
      · have nx : (x.toNat : Int) ≠ 0 := by intro h0; apply hx; apply UInt8.toNat_inj.1; simpa using h0
        have HN : Hid (L[k]? ≠ some 0) := by show L[k]? ≠ some 0; rw [ex]; intro h0; injection h0 with h0; exact hx h0
        clear hj ex hx
        generalize (x.toNat : Int) = v at *
        have dx : (v != 0) = true := by rw [bne_iff_ne]; exact nx
        have dx' : (v == 0) = false := by rw [beq_eq_false_iff_ne]; exact nx
        have kf := blk_set3 k2' (.int .u64 0) (.int .u32 0) (.int .i64 0)
        have hg3 := grown_set3 wc (w.heap.size + 1) (.int .u64 0) (.int .u32 0) (.int .i64 0)
        have bff := b'.trans (below_grown hg3 (Nat.le_succ _) k2'.lt)
        obtain ⟨t0, t1, t2⟩ := box3 kf
        clear k1' k2' k3
        go_wp2_with fail
        refine bodyPost_ret (v := .tuple #[.agg #[.int .u64 0, .int .u32 0, .int .i64 0], .slice none 0 0, .bool false]) (by simp [results, Try.results30, go_sem, t0, t1, t2]) rfl ?_
        exact Or.inr ⟨⟨k, hk1, hlt, HN.out⟩, rfl, bff⟩
    · obtain rfl : k = 64 := by omega
      have HJ := Lib.hid hj
      clear hj
      clear z0 z1 z2 y0 y1 y2 q0 q1 q2
      go_upto_region 9 with fail
      have eS := slcA L HL.out f (by omega)
      have W16 : IntKind.i64.wrap (16 + (f : Int)) = 16 + (f : Int) := IntWalk.i64_in _ (by omega)
      have k3d : Blk wc.drew W0.heap.size #[.int .u64 (g : Nat), .int .u32 (p : Nat), .int .i64 (f : Nat)] 49 := k3
      have rP := rd_pay (w := wc.drew) k1' HL.out hf
      refine wp_region_held_drew (S := fun w' => Blk w' W0.heap.size #[.int .u64 (g : Nat), .int .u32 (p : Nat), .int .i64 (f : Nat)] 49) (by kernel_rfl) k3 (fun hHeld => ?_)
      refine take_ (i := 0) (v := ?_) rfl (by kernel_rfl) (by kernel_rfl) (by kernel_rfl) (fun _ _ _ h => h) (Or.inl ⟨by rfl, ?_⟩) hHeld ?_
      rotate_left
      · (intro wx hSw; (try dsimp only at hSw); obtain ⟨p0, p1, p2⟩ := box3 hSw; go_simp; (try with_reducible rfl))
      try simp only [Act.put, List.setIfInBounds_toArray, List.set_cons_zero, List.set_cons_succ]
      refine take_ (i := 1) (v := ?_) rfl (by kernel_rfl) (by kernel_rfl) (by kernel_rfl) (fun _ _ _ h => h) (Or.inl ⟨by rfl, ?_⟩) hHeld ?_
      rotate_left
      · (intro wx hSw; (try dsimp only at hSw); obtain ⟨p0, p1, p2⟩ := box3 hSw; go_simp; (try with_reducible rfl))
      try simp only [Act.put, List.setIfInBounds_toArray, List.set_cons_zero, List.set_cons_succ]
      refine take_ (i := 2) (v := ?_) rfl (by kernel_rfl) (by kernel_rfl) (by kernel_rfl) (fun _ _ _ h => h) (Or.inl ⟨by rfl, ?_⟩) hHeld ?_
      rotate_left
      · (intro wx hSw; (try dsimp only at hSw); obtain ⟨p0, p1, p2⟩ := box3 hSw; go_simp; (try with_reducible rfl))
      try simp only [Act.put, List.setIfInBounds_toArray, List.set_cons_zero, List.set_cons_succ]
      refine take_ (i := 3) (v := ?_) rfl (by kernel_rfl) (by kernel_rfl) (by kernel_rfl) (fun _ _ _ h => h) (Or.inl ⟨by rfl, ?_⟩) hHeld ?_
      rotate_left
      · (intro wx hSw; (try dsimp only at hSw); obtain ⟨p0, p1, p2⟩ := box3 hSw; go_simp; (try with_reducible rfl))
      try simp only [Act.put, List.setIfInBounds_toArray, List.set_cons_zero, List.set_cons_succ]
      refine take_ (i := 4) (v := ?_) rfl (by kernel_rfl) (by kernel_rfl) (by kernel_rfl) (fun _ _ _ h => h) (Or.inl ⟨by rfl, ?_⟩) hHeld ?_
      rotate_left
      · (intro wx hSw; (try dsimp only at hSw); obtain ⟨p0, p1, p2⟩ := box3 hSw; go_simp; (try with_reducible rfl))
      try simp only [Act.put, List.setIfInBounds_toArray, List.set_cons_zero, List.set_cons_succ]
      refine wpAnyH_ready (rs := [5]) (by kernel_rfl) (by simp) ?_
      refine cons_ (i := 5) rfl (fun K hK => ?_) AllReadyH.nil
      go_simp
      refine (both_any _ none f 48 0 0 _ _ [] _ rP (Rd.nil _ _) (Nat.le_refl _) (by omega)).mono ?_
      rintro e w5 ⟨A5, c5, rfl, o5, b5⟩
      refine hK.out _ _ ?_ (fun hHeld => ?_)
      · exact k3d.step b5
      clear hK K hHeld
      try simp only [Act.put, List.setIfInBounds_toArray, List.set_cons_zero, List.set_cons_succ]
      have hHeld := k3d.step b5
      have k2d : Blk wc.drew (w.heap.size + 1) #[.int .u64 0, .int .u32 0, .int .i64 0] 49 := k2'
      have k5 := k2d.step b5
      have bb := below_step (show Below w.heap.size w wc.drew from b'.drew) b5
      have kf := blk_set3 k5 (.int .u64 (g : Nat)) (.int .u32 (p : Nat)) (.int .i64 (f : Nat))
      have hg3 := grown_set3 w5 (w.heap.size + 1) (.int .u64 (g : Nat)) (.int .u32 (p : Nat)) (.int .i64 (f : Nat))
      have bff := bb.trans (below_grown hg3 (Nat.le_succ _) k5.lt)
      obtain ⟨t0, t1, t2⟩ := box3 kf
      obtain ⟨z0, z1, z2⟩ := box3 k5
      have y0 := k5.frozen 0
      have y1 := k5.frozen 1
      have y2 := k5.frozen 2
      have h5 := o5.at'
      have o6 := o5.grown' hg3 (fun k hk => by have := h5 k hk; have := k2d.lt; omega)
      refine wpAnyH_ready (rs := [6]) (by kernel_rfl) (by simp) ?_
      refine cons_ (i := 6) rfl (fun K hK => ?_) AllReadyH.nil
      go_simp
      have hH6 := hHeld.left hg3 (by omega)
      refine hK.out _ _ hH6 (fun hHeld' => ?_)
      clear hK K hHeld' hHeld
      have hHeld := hH6
      try simp only [Act.put, List.setIfInBounds_toArray, List.set_cons_zero, List.set_cons_succ]
      refine take_ (i := 7) (v := ?_) rfl (by kernel_rfl) (by kernel_rfl) (by kernel_rfl) (fun _ _ _ h => h) (Or.inl ⟨by rfl, ?_⟩) hHeld ?_
      rotate_left
      · (intro wx hSw; (try dsimp only at hSw); obtain ⟨p0, p1, p2⟩ := box3 hSw; go_simp; (try with_reducible rfl))
      try simp only [Act.put, List.setIfInBounds_toArray, List.set_cons_zero, List.set_cons_succ]
      refine take_ (i := 8) (v := ?_) rfl (by kernel_rfl) (by kernel_rfl) (by kernel_rfl) (fun _ _ _ h => h) (Or.inl ⟨by rfl, ?_⟩) hHeld ?_
      rotate_left
      · (intro wx hSw; (try dsimp only at hSw); obtain ⟨p0, p1, p2⟩ := box3 hSw; go_simp; (try with_reducible rfl))
      try simp only [Act.put, List.setIfInBounds_toArray, List.set_cons_zero, List.set_cons_succ]
      refine wpAnyH_done (by kernel_rfl) ?_ _
      go_wp2_with fail
      refine bodyPost_ret (v := .tuple #[.agg #[.int .u64 (g : Nat), .int .u32 (p : Nat), .int .i64 (f : Nat)], .slice A5 f c5, .bool true]) (by simp [results, Try.results30, go_sem, t0, t1, t2]) rfl ?_
      have o7 := o6.more (B' := w.heap.size) (by have := k2d.lt; omega)
      rw [List.append_nil] at o7
      exact Or.inl ⟨HJ.out, A5, c5, rfl, o7, bff⟩
/-- A sector that is stamped. -/
def okS (L : List UInt8) : Prop := fld L 0 8 ≠ 0 ∧ fld L 12 2 ≤ 48 ∧ packL (fld L 0 8) (fld L 8 4) ((L.drop 16).take (fld L 12 2)) = L
theorem pay_len {L : List UInt8} (hL : L.length = 64) (hf : fld L 12 2 ≤ 48) : ((L.drop 16).take (fld L 12 2)).length = fld L 12 2 := by rw [List.length_take, List.length_drop]; omega
theorem read_yes (L : List UInt8) (hL : L.length = 64) (w : World) (h : okS L) : Calls Try.prog 20 #[.agg (ar L)] w (ReadOk L w) := read_ok L hL w h.2.1 h.1 h.2.2
theorem read_no (L : List UInt8) (hL : L.length = 64) (w : World) (h : ¬ okS L) : Calls Try.prog 20 #[.agg (ar L)] w (ReadNo w) := by
  by_cases hf : fld L 12 2 ≤ 48
  · by_cases hg : fld L 0 8 = 0
    · exact read_nul L hL w hf hg
    · exact read_bad L hL w hf hg fun he => h ⟨hg, hf, he⟩
  · exact read_big L hL w (by omega)
theorem okS_get {L : List UInt8} (hL : L.length = 64) (h : okS L) (i : Nat) (hi : i = 14 ∨ i = 15 ∨ (16 + fld L 12 2 ≤ i ∧ i < 64)) : L[i]? = some 0 := by
  obtain ⟨_, hf, he⟩ := h
  have hp := pay_len hL hf
  have := pack_get (fld L 0 8) (fld L 8 4) ((L.drop 16).take (fld L 12 2)) (by rw [hp]; exact hf) i (by rw [hp]; exact hi)
  rwa [he] at this
theorem okS_of {L : List UInt8} (hL : L.length = 64) (hg : fld L 0 8 ≠ 0) (hf : fld L 12 2 ≤ 48) (h14 : L[14]? = some 0) (h15 : L[15]? = some 0) (ht : ∀ j, 16 + fld L 12 2 ≤ j → j < 64 → L[j]? = some 0) : okS L := by
  refine ⟨hg, hf, pack_eq hL hf ?_ ?_⟩
  · apply List.ext_getElem?
    intro i
    rw [List.getElem?_take, List.getElem?_drop]
    match i with
    | 0 => simpa using h14
    | 1 => simpa using h15
    | i + 2 => rw [if_neg (by omega)]; rfl
  · apply List.ext_getElem?
    intro i
    rw [List.getElem?_drop, List.getElem?_replicate]
    by_cases hi : i < 48 - fld L 12 2
    · rw [if_pos hi]; exact ht _ (by omega) (by omega)
    · rw [if_neg hi, List.getElem?_eq_none_iff]; omega
theorem rread_yes (L : List UInt8) (hL : L.length = 64) (w : World) (h : okS L) : Calls Try.prog 30 #[.agg (ar L)] w (ROk L w) := by
  refine (rread_o L hL w h.1 h.2.1 (okS_get hL h 14 (Or.inl rfl)) (okS_get hL h 15 (Or.inr (Or.inl rfl)))).mono ?_
  rintro e w' (⟨_, h1⟩ | ⟨⟨j, h1, h2, h3⟩, _⟩)
  · exact h1
  · exact absurd (okS_get hL h j (Or.inr (Or.inr ⟨h1, h2⟩))) h3
theorem rread_no (L : List UInt8) (hL : L.length = 64) (w : World) (h : ¬ okS L) : Calls Try.prog 30 #[.agg (ar L)] w (RNo w) := by
  by_cases hg : fld L 0 8 = 0
  · exact rread_g L hL w hg
  · by_cases hf : fld L 12 2 ≤ 48
    · by_cases h14 : L[14]? = some 0
      · by_cases h15 : L[15]? = some 0
        · refine (rread_o L hL w hg hf h14 h15).mono ?_
          rintro e w' (⟨h1, _⟩ | ⟨_, h1⟩)
          · exact absurd (okS_of hL hg hf h14 h15 h1) h
          · exact h1
        · exact rread_y L hL w hg hf h14 h15
      · exact rread_x L hL w hg hf h14
    · exact rread_f L hL w hg (by omega)
end Go.Proofs.Ytkemlpcfijfaeaa

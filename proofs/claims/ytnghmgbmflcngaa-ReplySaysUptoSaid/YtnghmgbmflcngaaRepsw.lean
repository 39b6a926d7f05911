/- ReplySays: the walk by cases. Conditions: typed in each theorem. -/
import Derived.Test.YtnghmgbmflcngaaRfr
import Derived.Test.YtnghmgbmflcngaaCop21
import Derived.Test.YtnghmgbmflcngaaRbs
import Derived.Deep.DeepCutAuto
namespace Go.Proofs.Ytnghmgbmflcngaa
set_option linter.unusedVariables false
open Go.RowKit

set_option maxRecDepth 100000 in
set_option maxHeartbeats 8000000 in
theorem says_g (op : Int) (qt fu : Bool) (bad : Int) (oq fl ex cs dl ini : Nat) (KA : Option Addr) (nk ck : Nat) (VB : Option Addr) (nb cb2 : Nat) (st : Int) (VA : Option Addr) (nv cv af ac an : Nat) (SA : Option Addr) (ns sc : Nat) (cl : Bool) (w : World) (hg : 5000 < nk ∨ 40 < ns) : Calls Try.prog 3 #[.agg #[.int .i64 op, .bool qt, .bool fu, .int .i64 bad, .int .u32 (oq : Nat), .slice KA nk ck, .slice VB nb cb2, .int .u32 (fl : Nat), .int .u32 (ex : Nat), .int .u64 (cs : Nat), .int .u64 (dl : Nat), .int .u64 (ini : Nat)], .agg #[.int .i64 st, .slice VA nv cv, .int .u32 (af : Nat), .int .u64 (ac : Nat), .int .u64 (an : Nat), .slice SA ns sc, .bool cl]] w (fun e w' => e = .returned (.bool true) ∧ Below w.heap.size w w') := by
  have HWK := Lib.hid (fun W => wakes21 W)
  have kq := (Blk.new w #[.int .i64 op, .bool qt, .bool fu, .int .i64 bad, .int .u32 (oq : Nat), .slice KA nk ck, .slice VB nb cb2, .int .u32 (fl : Nat), .int .u32 (ex : Nat), .int .u64 (cs : Nat), .int .u64 (dl : Nat), .int .u64 (ini : Nat)] 26).alloc (.cells #[.int .i64 st, .slice VA nv cv, .int .u32 (af : Nat), .int .u64 (ac : Nat), .int .u64 (an : Nat), .slice SA ns sc, .bool cl] 29)
  have ka := Blk.new (w.alloc (.cells #[.int .i64 op, .bool qt, .bool fu, .int .i64 bad, .int .u32 (oq : Nat), .slice KA nk ck, .slice VB nb cb2, .int .u32 (fl : Nat), .int .u32 (ex : Nat), .int .u64 (cs : Nat), .int .u64 (dl : Nat), .int .u64 (ini : Nat)] 26)) #[.int .i64 st, .slice VA nv cv, .int .u32 (af : Nat), .int .u64 (ac : Nat), .int .u64 (an : Nat), .slice SA ns sc, .bool cl] 29
  have b := below_a1' (below_a1' (Below.refl w.heap.size w) (.cells #[.int .i64 op, .bool qt, .bool fu, .int .i64 bad, .int .u32 (oq : Nat), .slice KA nk ck, .slice VB nb cb2, .int .u32 (fl : Nat), .int .u32 (ex : Nat), .int .u64 (cs : Nat), .int .u64 (dl : Nat), .int .u64 (ini : Nat)] 26)) (.cells #[.int .i64 st, .slice VA nv cv, .int .u32 (af : Nat), .int .u64 (ac : Nat), .int .u64 (an : Nat), .slice SA ns sc, .bool cl] 29)
  rw [World.size_alloc] at ka
  go_enter Try.func3, Try.ntmps3
  go_upto_region 1 with fail
  generalize (w.alloc (.cells #[.int .i64 op, .bool qt, .bool fu, .int .i64 bad, .int .u32 (oq : Nat), .slice KA nk ck, .slice VB nb cb2, .int .u32 (fl : Nat), .int .u32 (ex : Nat), .int .u64 (cs : Nat), .int .u64 (dl : Nat), .int .u64 (ini : Nat)] 26)).alloc (.cells #[.int .i64 st, .slice VA nv cv, .int .u32 (af : Nat), .int .u64 (ac : Nat), .int .u64 (an : Nat), .slice SA ns sc, .bool cl] 29) = W0 at kq ka b ⊢
  go_wp2_with fail
  refine (HWK.out W0).mono ?_
  rintro e w1 ⟨rfl, b1⟩
  replace kq := kq.step b1
  replace ka := ka.step b1
  replace b := below_step b b1
  clear b1
  obtain ⟨p0, p1, p2, p3, p4, p5, p6, p7, p8, p9, p10, p11⟩ := box12 kq
  obtain ⟨q0, q1, q2, q3, q4, q5, q6⟩ := box7 ka
  by_cases hbk : 5000 < nk
  · have hk' : ((5000 : Int) < (nk : Int)) = True := eq_true (by omega)
    go_wp2_with fail
    go_ret
    exact ⟨rfl, b⟩
  · have hk' : ((5000 : Int) < (nk : Int)) = False := eq_false (by omega)
    have hs' : ((40 : Int) < (ns : Int)) = True := eq_true (by omega)
    go_wp2_with fail
    go_ret
    exact ⟨rfl, b⟩
set_option maxRecDepth 100000 in
set_option maxHeartbeats 8000000 in
theorem says_w (op : Int) (qt fu : Bool) (bad : Int) (oq fl ex cs dl ini : Nat) (KA : Option Addr) (nk ck : Nat) (VB : Option Addr) (nb cb2 : Nat) (st : Int) (VA : Option Addr) (nv cv af ac an : Nat) (SA : Option Addr) (ns sc : Nat) (cl : Bool) (w : World) (lv : List UInt8) (SL : List (ByteArray × ByteArray)) (sil okv : Bool) (ER : Int) (LB RB : List UInt8) (hnk : nk ≤ 5000 ∧ ns ≤ 40) (hcop : ∀ W, Below w.heap.size w W → Calls Try.prog 23 #[.agg #[.int .i64 st, .slice VA nv cv, .int .u32 (af : Nat), .int .u64 (ac : Nat), .int .u64 (an : Nat), .slice SA ns sc, .bool cl]] W (fun e W' => ∃ A1 c1 A2 c2, e = .returned (.agg #[.int .i64 st, .slice A1 nv c1, .int .u32 (af : Nat), .int .u64 (ac : Nat), .int .u64 (an : Nat), .slice A2 ns c2, .bool cl]) ∧ (Rd W' W'.heap.size A1 nv c1 lv ∧ Rz W' W'.heap.size 2 A2 ns c2 (SL.map stCells).flatten) ∧ Below W.heap.size W W')) (hof : ∀ W A1 c1 A2 c2, Below w.heap.size w W → Rd W W.heap.size A1 nv c1 lv ∧ Rz W W.heap.size 2 A2 ns c2 (SL.map stCells).flatten → Calls Try.prog 22 #[.agg #[.int .i64 op, .bool qt, .bool fu, .int .i64 bad, .int .u32 (oq : Nat), .slice KA nk ck, .slice VB nb cb2, .int .u32 (fl : Nat), .int .u32 (ex : Nat), .int .u64 (cs : Nat), .int .u64 (dl : Nat), .int .u64 (ini : Nat)], .agg #[.int .i64 st, .slice A1 nv c1, .int .u32 (af : Nat), .int .u64 (ac : Nat), .int .u64 (an : Nat), .slice A2 ns c2, .bool cl]] W (fun e W' => ∃ (N : Nat) (A : Option Addr) (c : Nat), e = .returned (.tuple #[.slice A N c, .int .i64 ER]) ∧ Rd W' W'.heap.size A N c LB ∧ Below W.heap.size W W')) (hck : ∀ W A1 c1 A2 c2, Below w.heap.size w W → Rd W W.heap.size A1 nv c1 lv ∧ Rz W W.heap.size 2 A2 ns c2 (SL.map stCells).flatten → Calls Try.prog 25 #[.agg #[.int .i64 op, .bool qt, .bool fu, .int .i64 bad, .int .u32 (oq : Nat), .slice KA nk ck, .slice VB nb cb2, .int .u32 (fl : Nat), .int .u32 (ex : Nat), .int .u64 (cs : Nat), .int .u64 (dl : Nat), .int .u64 (ini : Nat)], .agg #[.int .i64 st, .slice A1 nv c1, .int .u32 (af : Nat), .int .u64 (ac : Nat), .int .u64 (an : Nat), .slice A2 ns c2, .bool cl]] W (BoxQ' (.int .i64 2) W)) (hsi : ∀ W A1 c1 A2 c2, Calls Try.prog 26 #[.agg #[.int .i64 op, .bool qt, .bool fu, .int .i64 bad, .int .u32 (oq : Nat), .slice KA nk ck, .slice VB nb cb2, .int .u32 (fl : Nat), .int .u32 (ex : Nat), .int .u64 (cs : Nat), .int .u64 (dl : Nat), .int .u64 (ini : Nat)], .agg #[.int .i64 st, .slice A1 nv c1, .int .u32 (af : Nat), .int .u64 (ac : Nat), .int .u64 (an : Nat), .slice A2 ns c2, .bool cl]] W (BoxQ' (.bool sil) W)) (hrs : ∀ W, Calls Try.prog 27 #[.agg #[.int .i64 op, .bool qt, .bool fu, .int .i64 bad, .int .u32 (oq : Nat), .slice KA nk ck, .slice VB nb cb2, .int .u32 (fl : Nat), .int .u32 (ex : Nat), .int .u64 (cs : Nat), .int .u64 (dl : Nat), .int .u64 (ini : Nat)], .agg #[.int .i64 st, .slice VA nv cv, .int .u32 (af : Nat), .int .u64 (ac : Nat), .int .u64 (an : Nat), .slice SA ns sc, .bool cl]] W (BoxQ' (.bool sil) W)) (hrt : ∀ W, Below w.heap.size w W → Calls Try.prog 24 #[.agg #[.int .i64 op, .bool qt, .bool fu, .int .i64 bad, .int .u32 (oq : Nat), .slice KA nk ck, .slice VB nb cb2, .int .u32 (fl : Nat), .int .u32 (ex : Nat), .int .u64 (cs : Nat), .int .u64 (dl : Nat), .int .u64 (ini : Nat)], .agg #[.int .i64 st, .slice VA nv cv, .int .u32 (af : Nat), .int .u64 (ac : Nat), .int .u64 (an : Nat), .slice SA ns sc, .bool cl]] W (BoxQ' (.bool false) W)) (hrb : ∀ W, Below w.heap.size w W → Calls Try.prog 28 #[.agg #[.int .i64 op, .bool qt, .bool fu, .int .i64 bad, .int .u32 (oq : Nat), .slice KA nk ck, .slice VB nb cb2, .int .u32 (fl : Nat), .int .u32 (ex : Nat), .int .u64 (cs : Nat), .int .u64 (dl : Nat), .int .u64 (ini : Nat)], .agg #[.int .i64 st, .slice VA nv cv, .int .u32 (af : Nat), .int .u64 (ac : Nat), .int .u64 (an : Nat), .slice SA ns sc, .bool cl]] W (RbQ RB okv W)) (hLB : LB = []) (hER : ER = 2) : Calls Try.prog 3 #[.agg #[.int .i64 op, .bool qt, .bool fu, .int .i64 bad, .int .u32 (oq : Nat), .slice KA nk ck, .slice VB nb cb2, .int .u32 (fl : Nat), .int .u32 (ex : Nat), .int .u64 (cs : Nat), .int .u64 (dl : Nat), .int .u64 (ini : Nat)], .agg #[.int .i64 st, .slice VA nv cv, .int .u32 (af : Nat), .int .u64 (ac : Nat), .int .u64 (an : Nat), .slice SA ns sc, .bool cl]] w (fun e w' => e = .returned (.bool true) ∧ Below w.heap.size w w') := by
  have HCO := Lib.hid hcop
  have HOF := Lib.hid hof
  have HCK := Lib.hid hck
  have HSI := Lib.hid hsi
  have HRS := Lib.hid hrs
  have HRT := Lib.hid hrt
  have HRB := Lib.hid hrb
  have HK := Lib.hid hnk
  clear hcop hof hck hsi hrs hrt hrb hnk
  have HWK := Lib.hid (fun W => wakes21 W)
  have HLB := Lib.hid hLB
  have HER := Lib.hid hER
  clear hLB hER
  have kq := (Blk.new w #[.int .i64 op, .bool qt, .bool fu, .int .i64 bad, .int .u32 (oq : Nat), .slice KA nk ck, .slice VB nb cb2, .int .u32 (fl : Nat), .int .u32 (ex : Nat), .int .u64 (cs : Nat), .int .u64 (dl : Nat), .int .u64 (ini : Nat)] 26).alloc (.cells #[.int .i64 st, .slice VA nv cv, .int .u32 (af : Nat), .int .u64 (ac : Nat), .int .u64 (an : Nat), .slice SA ns sc, .bool cl] 29)
  have ka := Blk.new (w.alloc (.cells #[.int .i64 op, .bool qt, .bool fu, .int .i64 bad, .int .u32 (oq : Nat), .slice KA nk ck, .slice VB nb cb2, .int .u32 (fl : Nat), .int .u32 (ex : Nat), .int .u64 (cs : Nat), .int .u64 (dl : Nat), .int .u64 (ini : Nat)] 26)) #[.int .i64 st, .slice VA nv cv, .int .u32 (af : Nat), .int .u64 (ac : Nat), .int .u64 (an : Nat), .slice SA ns sc, .bool cl] 29
  have b := below_a1' (below_a1' (Below.refl w.heap.size w) (.cells #[.int .i64 op, .bool qt, .bool fu, .int .i64 bad, .int .u32 (oq : Nat), .slice KA nk ck, .slice VB nb cb2, .int .u32 (fl : Nat), .int .u32 (ex : Nat), .int .u64 (cs : Nat), .int .u64 (dl : Nat), .int .u64 (ini : Nat)] 26)) (.cells #[.int .i64 st, .slice VA nv cv, .int .u32 (af : Nat), .int .u64 (ac : Nat), .int .u64 (an : Nat), .slice SA ns sc, .bool cl] 29)
  rw [World.size_alloc] at ka
  go_enter Try.func3, Try.ntmps3
  go_upto_region 1 with fail
  generalize (w.alloc (.cells #[.int .i64 op, .bool qt, .bool fu, .int .i64 bad, .int .u32 (oq : Nat), .slice KA nk ck, .slice VB nb cb2, .int .u32 (fl : Nat), .int .u32 (ex : Nat), .int .u64 (cs : Nat), .int .u64 (dl : Nat), .int .u64 (ini : Nat)] 26)).alloc (.cells #[.int .i64 st, .slice VA nv cv, .int .u32 (af : Nat), .int .u64 (ac : Nat), .int .u64 (an : Nat), .slice SA ns sc, .bool cl] 29) = W0 at kq ka b ⊢
  go_wp2_with fail
  refine (HWK.out W0).mono ?_
  rintro e w1 ⟨rfl, b1⟩
  replace kq := kq.step b1
  replace ka := ka.step b1
  replace b := below_step b b1
  clear b1
  obtain ⟨p0, p1, p2, p3, p4, p5, p6, p7, p8, p9, p10, p11⟩ := box12 kq
  obtain ⟨q0, q1, q2, q3, q4, q5, q6⟩ := box7 ka
  have hk' : ((5000 : Int) < (nk : Int)) = False := eq_false (by have := HK.out; omega)
  have hs' : ((40 : Int) < (ns : Int)) = False := eq_false (by have := HK.out; omega)
  go_upto_region 5 with fail
  clear p0 p1 p2 p3 p4 p5 p6 p7 p8 p9 p10 p11 q0 q1 q2 q3 q4 q5 q6
  clear hk' hs'
  go_cut [5, 6] (fun s5 s6 wx => ∃ A N c, s5 = .slice A N c ∧ s6 = .int .i64 ER ∧ Rd wx wx.heap.size A N c LB ∧ Blk wx w.heap.size #[.int .i64 op, .bool qt, .bool fu, .int .i64 bad, .int .u32 (oq : Nat), .slice KA nk ck, .slice VB nb cb2, .int .u32 (fl : Nat), .int .u32 (ex : Nat), .int .u64 (cs : Nat), .int .u64 (dl : Nat), .int .u64 (ini : Nat)] 26 ∧ Blk wx (w.heap.size + 1) #[.int .i64 st, .slice VA nv cv, .int .u32 (af : Nat), .int .u64 (ac : Nat), .int .u64 (an : Nat), .slice SA ns sc, .bool cl] 29 ∧ Below w.heap.size w wx)
  case first =>
    refine wp_region_noPanic ?_
    refine region_T (fun wx => Blk wx w.heap.size #[.int .i64 op, .bool qt, .bool fu, .int .i64 bad, .int .u32 (oq : Nat), .slice KA nk ck, .slice VB nb cb2, .int .u32 (fl : Nat), .int .u32 (ex : Nat), .int .u64 (cs : Nat), .int .u64 (dl : Nat), .int .u64 (ini : Nat)] 26 ∧ Blk wx (w.heap.size + 1) #[.int .i64 st, .slice VA nv cv, .int .u32 (af : Nat), .int .u64 (ac : Nat), .int .u64 (an : Nat), .slice SA ns sc, .bool cl] 29) 9 (by kernel_rfl) ?_
    have bD : Below w1.heap.size w1 w1.drew := (Below.refl _ _).drew
    replace kq := kq.step bD
    replace ka := ka.step bD
    replace b := below_step b bD
    have hHeld := And.intro kq ka
    clear bD
    generalize w1.drew = Y0 at kq ka b hHeld ⊢
    refine takeT (i := 0) (v := ?_) rfl (by kernel_rfl) (by kernel_rfl) (by decide) (by kernel_rfl) (by kernel_rfl) (fun _ _ _ h => h) (Or.inl ⟨by rfl, ?_⟩) hHeld ?_
    rotate_left
    · (intro wx hSw; obtain ⟨sa, sb⟩ := hSw; obtain ⟨a0, a1, a2, a3, a4, a5, a6, a7, a8, a9, a10, a11⟩ := box12 sa; obtain ⟨c0, c1, c2, c3, c4, c5, c6⟩ := box7 sb; go_simp; try (with_reducible rfl))
    try simp only [Act.put, List.setIfInBounds_toArray, List.set_cons_zero, List.set_cons_succ]
    refine takeT (i := 1) (v := ?_) rfl (by kernel_rfl) (by kernel_rfl) (by decide) (by kernel_rfl) (by kernel_rfl) (fun _ _ _ h => h) (Or.inl ⟨by rfl, ?_⟩) hHeld ?_
    rotate_left
    · (intro wx hSw; obtain ⟨sa, sb⟩ := hSw; obtain ⟨a0, a1, a2, a3, a4, a5, a6, a7, a8, a9, a10, a11⟩ := box12 sa; obtain ⟨c0, c1, c2, c3, c4, c5, c6⟩ := box7 sb; go_simp; try (with_reducible rfl))
    try simp only [Act.put, List.setIfInBounds_toArray, List.set_cons_zero, List.set_cons_succ]
    refine oneT (i := 2) rfl (by kernel_rfl) (fun KK hK => ?_)
    go_simp
    refine (HCO.out Y0 b).mono ?_
    rintro e Y1 ⟨A1, c1, A2, c2, rfl, r12, b2⟩
    clear hHeld
    replace kq := kq.step b2
    replace ka := ka.step b2
    replace b := below_step b b2
    have hHeld := And.intro kq ka
    clear b2
    refine hK.out _ _ (fun _ => hHeld) ?_
    clear hK KK
    try simp only [Act.put, List.setIfInBounds_toArray, List.set_cons_zero, List.set_cons_succ]
    refine oneT (i := 3) rfl (by kernel_rfl) (fun KK hK => ?_)
    go_simp
    refine (HOF.out Y1 A1 c1 A2 c2 b r12).mono ?_
    rintro e Y2 ⟨N3, A3, c3, rfl, r3, b3⟩
    clear hHeld r12
    replace kq := kq.step b3
    replace ka := ka.step b3
    replace b := below_step b b3
    have hHeld := And.intro kq ka
    clear b3
    refine hK.out _ _ (fun _ => hHeld) ?_
    clear hK KK
    try simp only [Act.put, List.setIfInBounds_toArray, List.set_cons_zero, List.set_cons_succ]
    refine takeT (i := 4) (v := ?_) rfl (by kernel_rfl) (by kernel_rfl) (by decide) (by kernel_rfl) (by kernel_rfl) (fun _ _ _ h => h) (Or.inl ⟨by rfl, ?_⟩) hHeld ?_
    rotate_left
    · (intro wx hSw; obtain ⟨sa, sb⟩ := hSw; obtain ⟨a0, a1, a2, a3, a4, a5, a6, a7, a8, a9, a10, a11⟩ := box12 sa; obtain ⟨c0, c1, c2, c3, c4, c5, c6⟩ := box7 sb; go_simp; try (with_reducible rfl))
    try simp only [Act.put, List.setIfInBounds_toArray, List.set_cons_zero, List.set_cons_succ]
    refine takeT (i := 5) (v := ?_) rfl (by kernel_rfl) (by kernel_rfl) (by decide) (by kernel_rfl) (by kernel_rfl) (fun _ _ _ h => h) (Or.inl ⟨by rfl, ?_⟩) hHeld ?_
    rotate_left
    · (intro wx hSw; obtain ⟨sa, sb⟩ := hSw; obtain ⟨a0, a1, a2, a3, a4, a5, a6, a7, a8, a9, a10, a11⟩ := box12 sa; obtain ⟨c0, c1, c2, c3, c4, c5, c6⟩ := box7 sb; go_simp; try (with_reducible rfl))
    try simp only [Act.put, List.setIfInBounds_toArray, List.set_cons_zero, List.set_cons_succ]
    refine takeT (i := 6) (v := ?_) rfl (by kernel_rfl) (by kernel_rfl) (by decide) (by kernel_rfl) (by kernel_rfl) (fun _ _ _ h => h) (Or.inl ⟨by rfl, ?_⟩) hHeld ?_
    rotate_left
    · (intro wx hSw; obtain ⟨sa, sb⟩ := hSw; obtain ⟨a0, a1, a2, a3, a4, a5, a6, a7, a8, a9, a10, a11⟩ := box12 sa; obtain ⟨c0, c1, c2, c3, c4, c5, c6⟩ := box7 sb; go_simp; try (with_reducible rfl))
    try simp only [Act.put, List.setIfInBounds_toArray, List.set_cons_zero, List.set_cons_succ]
    refine takeT (i := 7) (v := ?_) rfl (by kernel_rfl) (by kernel_rfl) (by decide) (by kernel_rfl) (by kernel_rfl) (fun _ _ _ h => h) (Or.inl ⟨by rfl, ?_⟩) hHeld ?_
    rotate_left
    · (intro wx hSw; obtain ⟨sa, sb⟩ := hSw; obtain ⟨a0, a1, a2, a3, a4, a5, a6, a7, a8, a9, a10, a11⟩ := box12 sa; obtain ⟨c0, c1, c2, c3, c4, c5, c6⟩ := box7 sb; go_simp; try (with_reducible rfl))
    try simp only [Act.put, List.setIfInBounds_toArray, List.set_cons_zero, List.set_cons_succ]
    refine takeT (i := 8) (v := ?_) rfl (by kernel_rfl) (by kernel_rfl) (by decide) (by kernel_rfl) (by kernel_rfl) (fun _ _ _ h => h) (Or.inl ⟨by rfl, ?_⟩) hHeld ?_
    rotate_left
    · (intro wx hSw; obtain ⟨sa, sb⟩ := hSw; obtain ⟨a0, a1, a2, a3, a4, a5, a6, a7, a8, a9, a10, a11⟩ := box12 sa; obtain ⟨c0, c1, c2, c3, c4, c5, c6⟩ := box7 sb; go_simp; try (with_reducible rfl))
    try simp only [Act.put, List.setIfInBounds_toArray, List.set_cons_zero, List.set_cons_succ]
    refine doneT (by kernel_rfl) ?_ _
    refine NoPanic.normal ?_
    clear hHeld
    go_wp2_with fail
    go_meet
    exact ⟨A3, N3, c3, rfl, rfl, r3, kq, ka, b⟩
  case rest =>
    obtain ⟨A, N, c, rfl, rfl, rB, kq, ka, b⟩ := hcut
    obtain ⟨p0, p1, p2, p3, p4, p5, p6, p7, p8, p9, p10, p11⟩ := box12 kq
    obtain ⟨q0, q1, q2, q3, q4, q5, q6⟩ := box7 ka
    go_wp2_with fail
    refine (HRT.out wc b).mono ?_
    rintro e w2 ⟨rfl, b2⟩
    replace rB := rB.step b2
    clear p0 p1 p2 p3 p4 p5 p6 p7 p8 p9 p10 p11 q0 q1 q2 q3 q4 q5 q6
    replace kq := kq.step b2
    replace ka := ka.step b2
    replace b := below_step b b2
    clear b2
    go_upto_region 7 with fail
    go_cut [48] (fun s48 wx => s48 = .bool false ∧ Rd wx wx.heap.size A N c LB ∧ Blk wx w.heap.size #[.int .i64 op, .bool qt, .bool fu, .int .i64 bad, .int .u32 (oq : Nat), .slice KA nk ck, .slice VB nb cb2, .int .u32 (fl : Nat), .int .u32 (ex : Nat), .int .u64 (cs : Nat), .int .u64 (dl : Nat), .int .u64 (ini : Nat)] 26 ∧ Blk wx (w.heap.size + 1) #[.int .i64 st, .slice VA nv cv, .int .u32 (af : Nat), .int .u64 (ac : Nat), .int .u64 (an : Nat), .slice SA ns sc, .bool cl] 29 ∧ Below w.heap.size w wx)
    case first =>
      refine wp_region_noPanic ?_
      refine region_T (fun wx => Blk wx w.heap.size #[.int .i64 op, .bool qt, .bool fu, .int .i64 bad, .int .u32 (oq : Nat), .slice KA nk ck, .slice VB nb cb2, .int .u32 (fl : Nat), .int .u32 (ex : Nat), .int .u64 (cs : Nat), .int .u64 (dl : Nat), .int .u64 (ini : Nat)] 26 ∧ Blk wx (w.heap.size + 1) #[.int .i64 st, .slice VA nv cv, .int .u32 (af : Nat), .int .u64 (ac : Nat), .int .u64 (an : Nat), .slice SA ns sc, .bool cl] 29) 17 (by kernel_rfl) ?_
      have bD : Below w2.heap.size w2 w2.drew := (Below.refl _ _).drew
      replace rB := rB.step bD
      replace kq := kq.step bD
      replace ka := ka.step bD
      replace b := below_step b bD
      have hHeld := And.intro kq ka
      clear bD
      generalize w2.drew = Y0 at rB kq ka b hHeld ⊢
      refine takeT (i := 0) (v := ?_) rfl (by kernel_rfl) (by kernel_rfl) (by decide) (by kernel_rfl) (by kernel_rfl) (fun _ _ _ h => h) (Or.inl ⟨by rfl, ?_⟩) hHeld ?_
      rotate_left
      · (intro wx hSw; obtain ⟨sa, sb⟩ := hSw; obtain ⟨a0, a1, a2, a3, a4, a5, a6, a7, a8, a9, a10, a11⟩ := box12 sa; obtain ⟨c0, c1, c2, c3, c4, c5, c6⟩ := box7 sb; go_simp; try (with_reducible rfl))
      try simp only [Act.put, List.setIfInBounds_toArray, List.set_cons_zero, List.set_cons_succ]
      refine takeT (i := 1) (v := ?_) rfl (by kernel_rfl) (by kernel_rfl) (by decide) (by kernel_rfl) (by kernel_rfl) (fun _ _ _ h => h) (Or.inl ⟨by rfl, ?_⟩) hHeld ?_
      rotate_left
      · (intro wx hSw; obtain ⟨sa, sb⟩ := hSw; obtain ⟨a0, a1, a2, a3, a4, a5, a6, a7, a8, a9, a10, a11⟩ := box12 sa; obtain ⟨c0, c1, c2, c3, c4, c5, c6⟩ := box7 sb; go_simp; try (with_reducible rfl))
      try simp only [Act.put, List.setIfInBounds_toArray, List.set_cons_zero, List.set_cons_succ]
      refine takeT (i := 5) (v := ?_) rfl (by kernel_rfl) (by kernel_rfl) (by decide) (by kernel_rfl) (by kernel_rfl) (fun _ _ _ h => h) (Or.inl ⟨by rfl, ?_⟩) hHeld ?_
      rotate_left
      · (intro wx hSw; obtain ⟨sa, sb⟩ := hSw; obtain ⟨a0, a1, a2, a3, a4, a5, a6, a7, a8, a9, a10, a11⟩ := box12 sa; obtain ⟨c0, c1, c2, c3, c4, c5, c6⟩ := box7 sb; go_simp; try (with_reducible rfl))
      try simp only [Act.put, List.setIfInBounds_toArray, List.set_cons_zero, List.set_cons_succ]
      refine oneT (i := 2) rfl (by kernel_rfl) (fun KK hK => ?_)
      go_simp
      refine (HCO.out Y0 b).mono ?_
      rintro e Y1 ⟨A1, c1, A2, c2, rfl, r12, b2⟩
      clear hHeld
      replace rB := rB.step b2
      replace kq := kq.step b2
      replace ka := ka.step b2
      replace b := below_step b b2
      have hHeld := And.intro kq ka
      clear b2
      refine hK.out _ _ (fun _ => hHeld) ?_
      clear hK KK
      try simp only [Act.put, List.setIfInBounds_toArray, List.set_cons_zero, List.set_cons_succ]
      refine oneT (i := 3) rfl (by kernel_rfl) (fun KK hK => ?_)
      go_simp
      refine (HCK.out Y1 A1 c1 A2 c2 b r12).mono ?_
      rintro e Y2 ⟨rfl, b2⟩
      clear hHeld r12
      replace rB := rB.step b2
      replace kq := kq.step b2
      replace ka := ka.step b2
      replace b := below_step b b2
      have hHeld := And.intro kq ka
      clear b2
      refine hK.out _ _ (fun _ => hHeld) ?_
      clear hK KK
      try simp only [Act.put, List.setIfInBounds_toArray, List.set_cons_zero, List.set_cons_succ]
      refine takeT (i := 4) (v := ?_) rfl (by kernel_rfl) (by kernel_rfl) (by decide) (by kernel_rfl) (by kernel_rfl) (fun _ _ _ h => h) (Or.inl ⟨by rfl, ?_⟩) hHeld ?_
      rotate_left
      · (intro wx hSw; obtain ⟨sa, sb⟩ := hSw; obtain ⟨a0, a1, a2, a3, a4, a5, a6, a7, a8, a9, a10, a11⟩ := box12 sa; obtain ⟨c0, c1, c2, c3, c4, c5, c6⟩ := box7 sb; go_simp; try (with_reducible rfl))
      try simp only [Act.put, List.setIfInBounds_toArray, List.set_cons_zero, List.set_cons_succ]
      refine takeT (i := 6) (v := ?_) rfl (by kernel_rfl) (by kernel_rfl) (by decide) (by kernel_rfl) (by kernel_rfl) (fun _ _ _ h => h) (Or.inl ⟨by rfl, ?_⟩) hHeld ?_
      rotate_left
      · (intro wx hSw; obtain ⟨sa, sb⟩ := hSw; obtain ⟨a0, a1, a2, a3, a4, a5, a6, a7, a8, a9, a10, a11⟩ := box12 sa; obtain ⟨c0, c1, c2, c3, c4, c5, c6⟩ := box7 sb; go_simp; try (with_reducible rfl))
      try simp only [Act.put, List.setIfInBounds_toArray, List.set_cons_zero, List.set_cons_succ]
      refine takeT (i := 7) (v := ?_) rfl (by kernel_rfl) (by kernel_rfl) (by decide) (by kernel_rfl) (by kernel_rfl) (fun _ _ _ h => h) (Or.inl ⟨by rfl, ?_⟩) hHeld ?_
      rotate_left
      · (intro wx hSw; obtain ⟨sa, sb⟩ := hSw; obtain ⟨a0, a1, a2, a3, a4, a5, a6, a7, a8, a9, a10, a11⟩ := box12 sa; obtain ⟨c0, c1, c2, c3, c4, c5, c6⟩ := box7 sb; go_simp; try (with_reducible rfl))
      try simp only [Act.put, List.setIfInBounds_toArray, List.set_cons_zero, List.set_cons_succ]
      refine takeT (i := 8) (v := ?_) rfl (by kernel_rfl) (by kernel_rfl) (by decide) (by kernel_rfl) (by kernel_rfl) (fun _ _ _ h => h) (Or.inl ⟨by rfl, ?_⟩) hHeld ?_
      rotate_left
      · (intro wx hSw; obtain ⟨sa, sb⟩ := hSw; obtain ⟨a0, a1, a2, a3, a4, a5, a6, a7, a8, a9, a10, a11⟩ := box12 sa; obtain ⟨c0, c1, c2, c3, c4, c5, c6⟩ := box7 sb; go_simp; try (with_reducible rfl))
      try simp only [Act.put, List.setIfInBounds_toArray, List.set_cons_zero, List.set_cons_succ]
      refine takeT (i := 9) (v := ?_) rfl (by kernel_rfl) (by kernel_rfl) (by decide) (by kernel_rfl) (by kernel_rfl) (fun _ _ _ h => h) (Or.inl ⟨by rfl, ?_⟩) hHeld ?_
      rotate_left
      · (intro wx hSw; obtain ⟨sa, sb⟩ := hSw; obtain ⟨a0, a1, a2, a3, a4, a5, a6, a7, a8, a9, a10, a11⟩ := box12 sa; obtain ⟨c0, c1, c2, c3, c4, c5, c6⟩ := box7 sb; go_simp; try (with_reducible rfl))
      try simp only [Act.put, List.setIfInBounds_toArray, List.set_cons_zero, List.set_cons_succ]
      refine takeT (i := 12) (v := ?_) rfl (by kernel_rfl) (by kernel_rfl) (by decide) (by kernel_rfl) (by kernel_rfl) (fun _ _ _ h => h) (Or.inl ⟨by rfl, ?_⟩) hHeld ?_
      rotate_left
      · (intro wx hSw; obtain ⟨sa, sb⟩ := hSw; obtain ⟨a0, a1, a2, a3, a4, a5, a6, a7, a8, a9, a10, a11⟩ := box12 sa; obtain ⟨c0, c1, c2, c3, c4, c5, c6⟩ := box7 sb; go_simp; try (with_reducible rfl))
      try simp only [Act.put, List.setIfInBounds_toArray, List.set_cons_zero, List.set_cons_succ]
      refine takeT (i := 13) (v := ?_) rfl (by kernel_rfl) (by kernel_rfl) (by decide) (by kernel_rfl) (by kernel_rfl) (fun _ _ _ h => h) (Or.inl ⟨by rfl, ?_⟩) hHeld ?_
      rotate_left
      · (intro wx hSw; obtain ⟨sa, sb⟩ := hSw; obtain ⟨a0, a1, a2, a3, a4, a5, a6, a7, a8, a9, a10, a11⟩ := box12 sa; obtain ⟨c0, c1, c2, c3, c4, c5, c6⟩ := box7 sb; go_simp; try (with_reducible rfl))
      try simp only [Act.put, List.setIfInBounds_toArray, List.set_cons_zero, List.set_cons_succ]
      refine oneT (i := 10) rfl (by kernel_rfl) (fun KK hK => ?_)
      go_simp
      refine (HCO.out Y2 b).mono ?_
      rintro e Y3 ⟨A1, c1, A2, c2, rfl, r12, b2⟩
      clear hHeld
      replace rB := rB.step b2
      replace kq := kq.step b2
      replace ka := ka.step b2
      replace b := below_step b b2
      have hHeld := And.intro kq ka
      clear b2
      refine hK.out _ _ (fun _ => hHeld) ?_
      clear hK KK
      try simp only [Act.put, List.setIfInBounds_toArray, List.set_cons_zero, List.set_cons_succ]
      refine oneT (i := 11) rfl (by kernel_rfl) (fun KK hK => ?_)
      go_simp
      refine (HSI.out Y3 A1 c1 A2 c2).mono ?_
      rintro e Y4 ⟨rfl, b2⟩
      clear hHeld r12
      replace rB := rB.step b2
      replace kq := kq.step b2
      replace ka := ka.step b2
      replace b := below_step b b2
      have hHeld := And.intro kq ka
      clear b2
      refine hK.out _ _ (fun _ => hHeld) ?_
      clear hK KK
      try simp only [Act.put, List.setIfInBounds_toArray, List.set_cons_zero, List.set_cons_succ]
      refine oneT (i := 14) rfl (by kernel_rfl) (fun KK hK => ?_)
      go_simp
      refine (HRS.out Y4).mono ?_
      rintro e Y5 ⟨rfl, b2⟩
      clear hHeld
      replace rB := rB.step b2
      replace kq := kq.step b2
      replace ka := ka.step b2
      replace b := below_step b b2
      have hHeld := And.intro kq ka
      clear b2
      refine hK.out _ _ (fun _ => hHeld) ?_
      clear hK KK
      try simp only [Act.put, List.setIfInBounds_toArray, List.set_cons_zero, List.set_cons_succ]
      cases sil with
      | true =>
        refine takeT (i := 15) (v := ?_) rfl (by kernel_rfl) (by kernel_rfl) (by decide) (by kernel_rfl) (by kernel_rfl) (fun _ _ _ h => h) (Or.inl ⟨by rfl, ?_⟩) hHeld ?_
        rotate_left
        · (intro wx hSw; obtain ⟨sa, sb⟩ := hSw; obtain ⟨a0, a1, a2, a3, a4, a5, a6, a7, a8, a9, a10, a11⟩ := box12 sa; obtain ⟨c0, c1, c2, c3, c4, c5, c6⟩ := box7 sb; go_simp; try (with_reducible rfl))
        try simp only [Act.put, List.setIfInBounds_toArray, List.set_cons_zero, List.set_cons_succ]
        refine takeT (i := 16) (v := ?_) rfl (by kernel_rfl) (by kernel_rfl) (by decide) (by kernel_rfl) (by kernel_rfl) (fun _ _ _ h => h) (Or.inl ⟨by rfl, ?_⟩) hHeld ?_
        rotate_left
        · (intro wx hSw; obtain ⟨sa, sb⟩ := hSw; obtain ⟨a0, a1, a2, a3, a4, a5, a6, a7, a8, a9, a10, a11⟩ := box12 sa; obtain ⟨c0, c1, c2, c3, c4, c5, c6⟩ := box7 sb; go_simp; try (with_reducible rfl))
        try simp only [Act.put, List.setIfInBounds_toArray, List.set_cons_zero, List.set_cons_succ]
        refine doneT (by kernel_rfl) ?_ _
        refine NoPanic.normal ?_
        clear hHeld
        go_wp2_with fail
        go_meet
        exact ⟨rfl, rB, kq, ka, b⟩
      | false =>
        refine takeT (i := 15) (v := ?_) rfl (by kernel_rfl) (by kernel_rfl) (by decide) (by kernel_rfl) (by kernel_rfl) (fun _ _ _ h => h) (Or.inl ⟨by rfl, ?_⟩) hHeld ?_
        rotate_left
        · (intro wx hSw; obtain ⟨sa, sb⟩ := hSw; obtain ⟨a0, a1, a2, a3, a4, a5, a6, a7, a8, a9, a10, a11⟩ := box12 sa; obtain ⟨c0, c1, c2, c3, c4, c5, c6⟩ := box7 sb; go_simp; try (with_reducible rfl))
        try simp only [Act.put, List.setIfInBounds_toArray, List.set_cons_zero, List.set_cons_succ]
        refine takeT (i := 16) (v := ?_) rfl (by kernel_rfl) (by kernel_rfl) (by decide) (by kernel_rfl) (by kernel_rfl) (fun _ _ _ h => h) (Or.inl ⟨by rfl, ?_⟩) hHeld ?_
        rotate_left
        · (intro wx hSw; obtain ⟨sa, sb⟩ := hSw; obtain ⟨a0, a1, a2, a3, a4, a5, a6, a7, a8, a9, a10, a11⟩ := box12 sa; obtain ⟨c0, c1, c2, c3, c4, c5, c6⟩ := box7 sb; go_simp; try (with_reducible rfl))
        try simp only [Act.put, List.setIfInBounds_toArray, List.set_cons_zero, List.set_cons_succ]
        refine doneT (by kernel_rfl) ?_ _
        refine NoPanic.normal ?_
        clear hHeld
        go_wp2_with fail
        go_meet
        exact ⟨rfl, rB, kq, ka, b⟩
    case rest =>
      obtain ⟨rfl, rB, kq, ka, b⟩ := hcut
      obtain ⟨p0, p1, p2, p3, p4, p5, p6, p7, p8, p9, p10, p11⟩ := box12 kq
      obtain ⟨q0, q1, q2, q3, q4, q5, q6⟩ := box7 ka
      go_wp2_with fail
      refine (HRB.out _ b).mono ?_
      rintro e w4 ⟨A4, N4, c4, rfl, o4, b4⟩
      have r4 := o4.rd
      replace rB := rB.step b4
      clear p0 p1 p2 p3 p4 p5 p6 p7 p8 p9 p10 p11 q0 q1 q2 q3 q4 q5 q6
      replace kq := kq.step b4
      replace ka := ka.step b4
      replace b := below_step b b4
      clear b4 o4
      have hN := rB.len
      rw [HLB.out] at hN
      have hN0 : N = 0 := hN.symm
      subst hN0
      clear hN
      rw [HER.out]
      go_upto_region 11 with fail
      refine wp_region_noPanic ?_
      refine region_T (fun wx => Blk wx w.heap.size #[.int .i64 op, .bool qt, .bool fu, .int .i64 bad, .int .u32 (oq : Nat), .slice KA nk ck, .slice VB nb cb2, .int .u32 (fl : Nat), .int .u32 (ex : Nat), .int .u64 (cs : Nat), .int .u64 (dl : Nat), .int .u64 (ini : Nat)] 26 ∧ Blk wx (w.heap.size + 1) #[.int .i64 st, .slice VA nv cv, .int .u32 (af : Nat), .int .u64 (ac : Nat), .int .u64 (an : Nat), .slice SA ns sc, .bool cl] 29) 15 (by kernel_rfl) ?_
      have bD : Below w4.heap.size w4 w4.drew := (Below.refl _ _).drew
      replace kq := kq.step bD
      replace ka := ka.step bD
      replace b := below_step b bD
      have hHeld := And.intro kq ka
      clear bD
      generalize w4.drew = Y0 at kq ka b hHeld ⊢
      refine takeT (i := 0) (v := ?_) rfl (by kernel_rfl) (by kernel_rfl) (by decide) (by kernel_rfl) (by kernel_rfl) (fun _ _ _ h => h) (Or.inl ⟨by rfl, ?_⟩) hHeld ?_
      rotate_left
      · (intro wx hSw; obtain ⟨sa, sb⟩ := hSw; obtain ⟨a0, a1, a2, a3, a4, a5, a6, a7, a8, a9, a10, a11⟩ := box12 sa; obtain ⟨c0, c1, c2, c3, c4, c5, c6⟩ := box7 sb; go_simp; try (with_reducible rfl))
      try simp only [Act.put, List.setIfInBounds_toArray, List.set_cons_zero, List.set_cons_succ]
      refine takeT (i := 1) (v := ?_) rfl (by kernel_rfl) (by kernel_rfl) (by decide) (by kernel_rfl) (by kernel_rfl) (fun _ _ _ h => h) (Or.inl ⟨by rfl, ?_⟩) hHeld ?_
      rotate_left
      · (intro wx hSw; obtain ⟨sa, sb⟩ := hSw; obtain ⟨a0, a1, a2, a3, a4, a5, a6, a7, a8, a9, a10, a11⟩ := box12 sa; obtain ⟨c0, c1, c2, c3, c4, c5, c6⟩ := box7 sb; go_simp; try (with_reducible rfl))
      try simp only [Act.put, List.setIfInBounds_toArray, List.set_cons_zero, List.set_cons_succ]
      refine takeT (i := 2) (v := ?_) rfl (by kernel_rfl) (by kernel_rfl) (by decide) (by kernel_rfl) (by kernel_rfl) (fun _ _ _ h => h) (Or.inl ⟨by rfl, ?_⟩) hHeld ?_
      rotate_left
      · (intro wx hSw; obtain ⟨sa, sb⟩ := hSw; obtain ⟨a0, a1, a2, a3, a4, a5, a6, a7, a8, a9, a10, a11⟩ := box12 sa; obtain ⟨c0, c1, c2, c3, c4, c5, c6⟩ := box7 sb; go_simp; try (with_reducible rfl))
      try simp only [Act.put, List.setIfInBounds_toArray, List.set_cons_zero, List.set_cons_succ]
      refine takeT (i := 3) (v := ?_) rfl (by kernel_rfl) (by kernel_rfl) (by decide) (by kernel_rfl) (by kernel_rfl) (fun _ _ _ h => h) (Or.inl ⟨by rfl, ?_⟩) hHeld ?_
      rotate_left
      · (intro wx hSw; obtain ⟨sa, sb⟩ := hSw; obtain ⟨a0, a1, a2, a3, a4, a5, a6, a7, a8, a9, a10, a11⟩ := box12 sa; obtain ⟨c0, c1, c2, c3, c4, c5, c6⟩ := box7 sb; go_simp; try (with_reducible rfl))
      try simp only [Act.put, List.setIfInBounds_toArray, List.set_cons_zero, List.set_cons_succ]
      refine takeT (i := 4) (v := ?_) rfl (by kernel_rfl) (by kernel_rfl) (by decide) (by kernel_rfl) (by kernel_rfl) (fun _ _ _ h => h) (Or.inl ⟨by rfl, ?_⟩) hHeld ?_
      rotate_left
      · (intro wx hSw; obtain ⟨sa, sb⟩ := hSw; obtain ⟨a0, a1, a2, a3, a4, a5, a6, a7, a8, a9, a10, a11⟩ := box12 sa; obtain ⟨c0, c1, c2, c3, c4, c5, c6⟩ := box7 sb; go_simp; try (with_reducible rfl))
      try simp only [Act.put, List.setIfInBounds_toArray, List.set_cons_zero, List.set_cons_succ]
      refine takeT (i := 5) (v := ?_) rfl (by kernel_rfl) (by kernel_rfl) (by decide) (by kernel_rfl) (by kernel_rfl) (fun _ _ _ h => h) (Or.inl ⟨by rfl, ?_⟩) hHeld ?_
      rotate_left
      · (intro wx hSw; obtain ⟨sa, sb⟩ := hSw; obtain ⟨a0, a1, a2, a3, a4, a5, a6, a7, a8, a9, a10, a11⟩ := box12 sa; obtain ⟨c0, c1, c2, c3, c4, c5, c6⟩ := box7 sb; go_simp; try (with_reducible rfl))
      try simp only [Act.put, List.setIfInBounds_toArray, List.set_cons_zero, List.set_cons_succ]
      refine takeT (i := 6) (v := ?_) rfl (by kernel_rfl) (by kernel_rfl) (by decide) (by kernel_rfl) (by kernel_rfl) (fun _ _ _ h => h) (Or.inl ⟨by rfl, ?_⟩) hHeld ?_
      rotate_left
      · (intro wx hSw; obtain ⟨sa, sb⟩ := hSw; obtain ⟨a0, a1, a2, a3, a4, a5, a6, a7, a8, a9, a10, a11⟩ := box12 sa; obtain ⟨c0, c1, c2, c3, c4, c5, c6⟩ := box7 sb; go_simp; try (with_reducible rfl))
      try simp only [Act.put, List.setIfInBounds_toArray, List.set_cons_zero, List.set_cons_succ]
      refine takeT (i := 7) (v := ?_) rfl (by kernel_rfl) (by kernel_rfl) (by decide) (by kernel_rfl) (by kernel_rfl) (fun _ _ _ h => h) (Or.inl ⟨by rfl, ?_⟩) hHeld ?_
      rotate_left
      · (intro wx hSw; obtain ⟨sa, sb⟩ := hSw; obtain ⟨a0, a1, a2, a3, a4, a5, a6, a7, a8, a9, a10, a11⟩ := box12 sa; obtain ⟨c0, c1, c2, c3, c4, c5, c6⟩ := box7 sb; go_simp; try (with_reducible rfl))
      try simp only [Act.put, List.setIfInBounds_toArray, List.set_cons_zero, List.set_cons_succ]
      refine takeT (i := 8) (v := ?_) rfl (by kernel_rfl) (by kernel_rfl) (by decide) (by kernel_rfl) (by kernel_rfl) (fun _ _ _ h => h) (Or.inl ⟨by rfl, ?_⟩) hHeld ?_
      rotate_left
      · (intro wx hSw; obtain ⟨sa, sb⟩ := hSw; obtain ⟨a0, a1, a2, a3, a4, a5, a6, a7, a8, a9, a10, a11⟩ := box12 sa; obtain ⟨c0, c1, c2, c3, c4, c5, c6⟩ := box7 sb; go_simp; try (with_reducible rfl))
      try simp only [Act.put, List.setIfInBounds_toArray, List.set_cons_zero, List.set_cons_succ]
      refine takeT (i := 9) (v := ?_) rfl (by kernel_rfl) (by kernel_rfl) (by decide) (by kernel_rfl) (by kernel_rfl) (fun _ _ _ h => h) (Or.inl ⟨by rfl, ?_⟩) hHeld ?_
      rotate_left
      · (intro wx hSw; obtain ⟨sa, sb⟩ := hSw; obtain ⟨a0, a1, a2, a3, a4, a5, a6, a7, a8, a9, a10, a11⟩ := box12 sa; obtain ⟨c0, c1, c2, c3, c4, c5, c6⟩ := box7 sb; go_simp; try (with_reducible rfl))
      try simp only [Act.put, List.setIfInBounds_toArray, List.set_cons_zero, List.set_cons_succ]
      clear rB r4
      refine oneT (i := 10) rfl (by kernel_rfl) (fun KK hK => ?_)
      go_simp
      refine (HCO.out Y0 b).mono ?_
      rintro e Y1 ⟨A1, c1, A2, c2, rfl, r12, b2⟩
      clear hHeld
      replace kq := kq.step b2
      replace ka := ka.step b2
      replace b := below_step b b2
      have hHeld := And.intro kq ka
      clear b2
      refine hK.out _ _ (fun _ => hHeld) ?_
      clear hK KK
      try simp only [Act.put, List.setIfInBounds_toArray, List.set_cons_zero, List.set_cons_succ]
      refine oneT (i := 11) rfl (by kernel_rfl) (fun KK hK => ?_)
      go_simp
      refine (HCK.out Y1 A1 c1 A2 c2 b r12).mono ?_
      rintro e Y2 ⟨rfl, b2⟩
      clear hHeld r12
      replace kq := kq.step b2
      replace ka := ka.step b2
      replace b := below_step b b2
      have hHeld := And.intro kq ka
      clear b2
      refine hK.out _ _ (fun _ => hHeld) ?_
      clear hK KK
      try simp only [Act.put, List.setIfInBounds_toArray, List.set_cons_zero, List.set_cons_succ]
      refine takeT (i := 12) (v := ?_) rfl (by kernel_rfl) (by kernel_rfl) (by decide) (by kernel_rfl) (by kernel_rfl) (fun _ _ _ h => h) (Or.inl ⟨by rfl, ?_⟩) hHeld ?_
      rotate_left
      · (intro wx hSw; obtain ⟨sa, sb⟩ := hSw; obtain ⟨a0, a1, a2, a3, a4, a5, a6, a7, a8, a9, a10, a11⟩ := box12 sa; obtain ⟨c0, c1, c2, c3, c4, c5, c6⟩ := box7 sb; go_simp; try (with_reducible rfl))
      try simp only [Act.put, List.setIfInBounds_toArray, List.set_cons_zero, List.set_cons_succ]
      refine takeT (i := 13) (v := ?_) rfl (by kernel_rfl) (by kernel_rfl) (by decide) (by kernel_rfl) (by kernel_rfl) (fun _ _ _ h => h) (Or.inl ⟨by rfl, ?_⟩) hHeld ?_
      rotate_left
      · (intro wx hSw; obtain ⟨sa, sb⟩ := hSw; obtain ⟨a0, a1, a2, a3, a4, a5, a6, a7, a8, a9, a10, a11⟩ := box12 sa; obtain ⟨c0, c1, c2, c3, c4, c5, c6⟩ := box7 sb; go_simp; try (with_reducible rfl))
      try simp only [Act.put, List.setIfInBounds_toArray, List.set_cons_zero, List.set_cons_succ]
      refine takeT (i := 14) (v := ?_) rfl (by kernel_rfl) (by kernel_rfl) (by decide) (by kernel_rfl) (by kernel_rfl) (fun _ _ _ h => h) (Or.inl ⟨by rfl, ?_⟩) hHeld ?_
      rotate_left
      · (intro wx hSw; obtain ⟨sa, sb⟩ := hSw; obtain ⟨a0, a1, a2, a3, a4, a5, a6, a7, a8, a9, a10, a11⟩ := box12 sa; obtain ⟨c0, c1, c2, c3, c4, c5, c6⟩ := box7 sb; go_simp; try (with_reducible rfl))
      try simp only [Act.put, List.setIfInBounds_toArray, List.set_cons_zero, List.set_cons_succ]
      refine doneT (by kernel_rfl) ?_ _
      refine NoPanic.normal ?_
      clear hHeld kq ka
      go_wp2_with fail
      go_ret
      exact ⟨rfl, b⟩
set_option maxRecDepth 100000 in
set_option maxHeartbeats 8000000 in
theorem says_s (op : Int) (qt fu : Bool) (bad : Int) (oq fl ex cs dl ini : Nat) (KA : Option Addr) (nk ck : Nat) (VB : Option Addr) (nb cb2 : Nat) (st : Int) (VA : Option Addr) (nv cv af ac an : Nat) (SA : Option Addr) (ns sc : Nat) (cl : Bool) (w : World) (lv : List UInt8) (SL : List (ByteArray × ByteArray)) (sil okv : Bool) (ER : Int) (LB RB : List UInt8) (hnk : nk ≤ 5000 ∧ ns ≤ 40) (hcop : ∀ W, Below w.heap.size w W → Calls Try.prog 23 #[.agg #[.int .i64 st, .slice VA nv cv, .int .u32 (af : Nat), .int .u64 (ac : Nat), .int .u64 (an : Nat), .slice SA ns sc, .bool cl]] W (fun e W' => ∃ A1 c1 A2 c2, e = .returned (.agg #[.int .i64 st, .slice A1 nv c1, .int .u32 (af : Nat), .int .u64 (ac : Nat), .int .u64 (an : Nat), .slice A2 ns c2, .bool cl]) ∧ (Rd W' W'.heap.size A1 nv c1 lv ∧ Rz W' W'.heap.size 2 A2 ns c2 (SL.map stCells).flatten) ∧ Below W.heap.size W W')) (hof : ∀ W A1 c1 A2 c2, Below w.heap.size w W → Rd W W.heap.size A1 nv c1 lv ∧ Rz W W.heap.size 2 A2 ns c2 (SL.map stCells).flatten → Calls Try.prog 22 #[.agg #[.int .i64 op, .bool qt, .bool fu, .int .i64 bad, .int .u32 (oq : Nat), .slice KA nk ck, .slice VB nb cb2, .int .u32 (fl : Nat), .int .u32 (ex : Nat), .int .u64 (cs : Nat), .int .u64 (dl : Nat), .int .u64 (ini : Nat)], .agg #[.int .i64 st, .slice A1 nv c1, .int .u32 (af : Nat), .int .u64 (ac : Nat), .int .u64 (an : Nat), .slice A2 ns c2, .bool cl]] W (fun e W' => ∃ (N : Nat) (A : Option Addr) (c : Nat), e = .returned (.tuple #[.slice A N c, .int .i64 ER]) ∧ Rd W' W'.heap.size A N c LB ∧ Below W.heap.size W W')) (hck : ∀ W A1 c1 A2 c2, Below w.heap.size w W → Rd W W.heap.size A1 nv c1 lv ∧ Rz W W.heap.size 2 A2 ns c2 (SL.map stCells).flatten → Calls Try.prog 25 #[.agg #[.int .i64 op, .bool qt, .bool fu, .int .i64 bad, .int .u32 (oq : Nat), .slice KA nk ck, .slice VB nb cb2, .int .u32 (fl : Nat), .int .u32 (ex : Nat), .int .u64 (cs : Nat), .int .u64 (dl : Nat), .int .u64 (ini : Nat)], .agg #[.int .i64 st, .slice A1 nv c1, .int .u32 (af : Nat), .int .u64 (ac : Nat), .int .u64 (an : Nat), .slice A2 ns c2, .bool cl]] W (BoxQ' (.int .i64 0) W)) (hsi : ∀ W A1 c1 A2 c2, Calls Try.prog 26 #[.agg #[.int .i64 op, .bool qt, .bool fu, .int .i64 bad, .int .u32 (oq : Nat), .slice KA nk ck, .slice VB nb cb2, .int .u32 (fl : Nat), .int .u32 (ex : Nat), .int .u64 (cs : Nat), .int .u64 (dl : Nat), .int .u64 (ini : Nat)], .agg #[.int .i64 st, .slice A1 nv c1, .int .u32 (af : Nat), .int .u64 (ac : Nat), .int .u64 (an : Nat), .slice A2 ns c2, .bool cl]] W (BoxQ' (.bool sil) W)) (hrs : ∀ W, Calls Try.prog 27 #[.agg #[.int .i64 op, .bool qt, .bool fu, .int .i64 bad, .int .u32 (oq : Nat), .slice KA nk ck, .slice VB nb cb2, .int .u32 (fl : Nat), .int .u32 (ex : Nat), .int .u64 (cs : Nat), .int .u64 (dl : Nat), .int .u64 (ini : Nat)], .agg #[.int .i64 st, .slice VA nv cv, .int .u32 (af : Nat), .int .u64 (ac : Nat), .int .u64 (an : Nat), .slice SA ns sc, .bool cl]] W (BoxQ' (.bool sil) W)) (hrt : ∀ W, Below w.heap.size w W → Calls Try.prog 24 #[.agg #[.int .i64 op, .bool qt, .bool fu, .int .i64 bad, .int .u32 (oq : Nat), .slice KA nk ck, .slice VB nb cb2, .int .u32 (fl : Nat), .int .u32 (ex : Nat), .int .u64 (cs : Nat), .int .u64 (dl : Nat), .int .u64 (ini : Nat)], .agg #[.int .i64 st, .slice VA nv cv, .int .u32 (af : Nat), .int .u64 (ac : Nat), .int .u64 (an : Nat), .slice SA ns sc, .bool cl]] W (BoxQ' (.bool true) W)) (hrb : ∀ W, Below w.heap.size w W → Calls Try.prog 28 #[.agg #[.int .i64 op, .bool qt, .bool fu, .int .i64 bad, .int .u32 (oq : Nat), .slice KA nk ck, .slice VB nb cb2, .int .u32 (fl : Nat), .int .u32 (ex : Nat), .int .u64 (cs : Nat), .int .u64 (dl : Nat), .int .u64 (ini : Nat)], .agg #[.int .i64 st, .slice VA nv cv, .int .u32 (af : Nat), .int .u64 (ac : Nat), .int .u64 (an : Nat), .slice SA ns sc, .bool cl]] W (RbQ RB okv W)) (hLB : LB = []) (hER : ER = 0) (hsil : sil = true) : Calls Try.prog 3 #[.agg #[.int .i64 op, .bool qt, .bool fu, .int .i64 bad, .int .u32 (oq : Nat), .slice KA nk ck, .slice VB nb cb2, .int .u32 (fl : Nat), .int .u32 (ex : Nat), .int .u64 (cs : Nat), .int .u64 (dl : Nat), .int .u64 (ini : Nat)], .agg #[.int .i64 st, .slice VA nv cv, .int .u32 (af : Nat), .int .u64 (ac : Nat), .int .u64 (an : Nat), .slice SA ns sc, .bool cl]] w (fun e w' => e = .returned (.bool true) ∧ Below w.heap.size w w') := by
  have HCO := Lib.hid hcop
  have HOF := Lib.hid hof
  have HCK := Lib.hid hck
  have HSI := Lib.hid hsi
  have HRS := Lib.hid hrs
  have HRT := Lib.hid hrt
  have HRB := Lib.hid hrb
  have HK := Lib.hid hnk
  clear hcop hof hck hsi hrs hrt hrb hnk
  have HWK := Lib.hid (fun W => wakes21 W)
  have HLB := Lib.hid hLB
  have HER := Lib.hid hER
  clear hLB hER
  subst hsil
  have kq := (Blk.new w #[.int .i64 op, .bool qt, .bool fu, .int .i64 bad, .int .u32 (oq : Nat), .slice KA nk ck, .slice VB nb cb2, .int .u32 (fl : Nat), .int .u32 (ex : Nat), .int .u64 (cs : Nat), .int .u64 (dl : Nat), .int .u64 (ini : Nat)] 26).alloc (.cells #[.int .i64 st, .slice VA nv cv, .int .u32 (af : Nat), .int .u64 (ac : Nat), .int .u64 (an : Nat), .slice SA ns sc, .bool cl] 29)
  have ka := Blk.new (w.alloc (.cells #[.int .i64 op, .bool qt, .bool fu, .int .i64 bad, .int .u32 (oq : Nat), .slice KA nk ck, .slice VB nb cb2, .int .u32 (fl : Nat), .int .u32 (ex : Nat), .int .u64 (cs : Nat), .int .u64 (dl : Nat), .int .u64 (ini : Nat)] 26)) #[.int .i64 st, .slice VA nv cv, .int .u32 (af : Nat), .int .u64 (ac : Nat), .int .u64 (an : Nat), .slice SA ns sc, .bool cl] 29
  have b := below_a1' (below_a1' (Below.refl w.heap.size w) (.cells #[.int .i64 op, .bool qt, .bool fu, .int .i64 bad, .int .u32 (oq : Nat), .slice KA nk ck, .slice VB nb cb2, .int .u32 (fl : Nat), .int .u32 (ex : Nat), .int .u64 (cs : Nat), .int .u64 (dl : Nat), .int .u64 (ini : Nat)] 26)) (.cells #[.int .i64 st, .slice VA nv cv, .int .u32 (af : Nat), .int .u64 (ac : Nat), .int .u64 (an : Nat), .slice SA ns sc, .bool cl] 29)
  rw [World.size_alloc] at ka
  go_enter Try.func3, Try.ntmps3
  go_upto_region 1 with fail
  generalize (w.alloc (.cells #[.int .i64 op, .bool qt, .bool fu, .int .i64 bad, .int .u32 (oq : Nat), .slice KA nk ck, .slice VB nb cb2, .int .u32 (fl : Nat), .int .u32 (ex : Nat), .int .u64 (cs : Nat), .int .u64 (dl : Nat), .int .u64 (ini : Nat)] 26)).alloc (.cells #[.int .i64 st, .slice VA nv cv, .int .u32 (af : Nat), .int .u64 (ac : Nat), .int .u64 (an : Nat), .slice SA ns sc, .bool cl] 29) = W0 at kq ka b ⊢
  go_wp2_with fail
  refine (HWK.out W0).mono ?_
  rintro e w1 ⟨rfl, b1⟩
  replace kq := kq.step b1
  replace ka := ka.step b1
  replace b := below_step b b1
  clear b1
  obtain ⟨p0, p1, p2, p3, p4, p5, p6, p7, p8, p9, p10, p11⟩ := box12 kq
  obtain ⟨q0, q1, q2, q3, q4, q5, q6⟩ := box7 ka
  have hk' : ((5000 : Int) < (nk : Int)) = False := eq_false (by have := HK.out; omega)
  have hs' : ((40 : Int) < (ns : Int)) = False := eq_false (by have := HK.out; omega)
  go_upto_region 5 with fail
  clear p0 p1 p2 p3 p4 p5 p6 p7 p8 p9 p10 p11 q0 q1 q2 q3 q4 q5 q6
  clear hk' hs'
  go_cut [5, 6] (fun s5 s6 wx => ∃ A N c, s5 = .slice A N c ∧ s6 = .int .i64 ER ∧ Rd wx wx.heap.size A N c LB ∧ Blk wx w.heap.size #[.int .i64 op, .bool qt, .bool fu, .int .i64 bad, .int .u32 (oq : Nat), .slice KA nk ck, .slice VB nb cb2, .int .u32 (fl : Nat), .int .u32 (ex : Nat), .int .u64 (cs : Nat), .int .u64 (dl : Nat), .int .u64 (ini : Nat)] 26 ∧ Blk wx (w.heap.size + 1) #[.int .i64 st, .slice VA nv cv, .int .u32 (af : Nat), .int .u64 (ac : Nat), .int .u64 (an : Nat), .slice SA ns sc, .bool cl] 29 ∧ Below w.heap.size w wx)
  case first =>
    refine wp_region_noPanic ?_
    refine region_T (fun wx => Blk wx w.heap.size #[.int .i64 op, .bool qt, .bool fu, .int .i64 bad, .int .u32 (oq : Nat), .slice KA nk ck, .slice VB nb cb2, .int .u32 (fl : Nat), .int .u32 (ex : Nat), .int .u64 (cs : Nat), .int .u64 (dl : Nat), .int .u64 (ini : Nat)] 26 ∧ Blk wx (w.heap.size + 1) #[.int .i64 st, .slice VA nv cv, .int .u32 (af : Nat), .int .u64 (ac : Nat), .int .u64 (an : Nat), .slice SA ns sc, .bool cl] 29) 9 (by kernel_rfl) ?_
    have bD : Below w1.heap.size w1 w1.drew := (Below.refl _ _).drew
    replace kq := kq.step bD
    replace ka := ka.step bD
    replace b := below_step b bD
    have hHeld := And.intro kq ka
    clear bD
    generalize w1.drew = Y0 at kq ka b hHeld ⊢
    refine takeT (i := 0) (v := ?_) rfl (by kernel_rfl) (by kernel_rfl) (by decide) (by kernel_rfl) (by kernel_rfl) (fun _ _ _ h => h) (Or.inl ⟨by rfl, ?_⟩) hHeld ?_
    rotate_left
    · (intro wx hSw; obtain ⟨sa, sb⟩ := hSw; obtain ⟨a0, a1, a2, a3, a4, a5, a6, a7, a8, a9, a10, a11⟩ := box12 sa; obtain ⟨c0, c1, c2, c3, c4, c5, c6⟩ := box7 sb; go_simp; try (with_reducible rfl))
    try simp only [Act.put, List.setIfInBounds_toArray, List.set_cons_zero, List.set_cons_succ]
    refine takeT (i := 1) (v := ?_) rfl (by kernel_rfl) (by kernel_rfl) (by decide) (by kernel_rfl) (by kernel_rfl) (fun _ _ _ h => h) (Or.inl ⟨by rfl, ?_⟩) hHeld ?_
    rotate_left
    · (intro wx hSw; obtain ⟨sa, sb⟩ := hSw; obtain ⟨a0, a1, a2, a3, a4, a5, a6, a7, a8, a9, a10, a11⟩ := box12 sa; obtain ⟨c0, c1, c2, c3, c4, c5, c6⟩ := box7 sb; go_simp; try (with_reducible rfl))
    try simp only [Act.put, List.setIfInBounds_toArray, List.set_cons_zero, List.set_cons_succ]
    refine oneT (i := 2) rfl (by kernel_rfl) (fun KK hK => ?_)
    go_simp
    refine (HCO.out Y0 b).mono ?_
    rintro e Y1 ⟨A1, c1, A2, c2, rfl, r12, b2⟩
    clear hHeld
    replace kq := kq.step b2
    replace ka := ka.step b2
    replace b := below_step b b2
    have hHeld := And.intro kq ka
    clear b2
    refine hK.out _ _ (fun _ => hHeld) ?_
    clear hK KK
    try simp only [Act.put, List.setIfInBounds_toArray, List.set_cons_zero, List.set_cons_succ]
    refine oneT (i := 3) rfl (by kernel_rfl) (fun KK hK => ?_)
    go_simp
    refine (HOF.out Y1 A1 c1 A2 c2 b r12).mono ?_
    rintro e Y2 ⟨N3, A3, c3, rfl, r3, b3⟩
    clear hHeld r12
    replace kq := kq.step b3
    replace ka := ka.step b3
    replace b := below_step b b3
    have hHeld := And.intro kq ka
    clear b3
    refine hK.out _ _ (fun _ => hHeld) ?_
    clear hK KK
    try simp only [Act.put, List.setIfInBounds_toArray, List.set_cons_zero, List.set_cons_succ]
    refine takeT (i := 4) (v := ?_) rfl (by kernel_rfl) (by kernel_rfl) (by decide) (by kernel_rfl) (by kernel_rfl) (fun _ _ _ h => h) (Or.inl ⟨by rfl, ?_⟩) hHeld ?_
    rotate_left
    · (intro wx hSw; obtain ⟨sa, sb⟩ := hSw; obtain ⟨a0, a1, a2, a3, a4, a5, a6, a7, a8, a9, a10, a11⟩ := box12 sa; obtain ⟨c0, c1, c2, c3, c4, c5, c6⟩ := box7 sb; go_simp; try (with_reducible rfl))
    try simp only [Act.put, List.setIfInBounds_toArray, List.set_cons_zero, List.set_cons_succ]
    refine takeT (i := 5) (v := ?_) rfl (by kernel_rfl) (by kernel_rfl) (by decide) (by kernel_rfl) (by kernel_rfl) (fun _ _ _ h => h) (Or.inl ⟨by rfl, ?_⟩) hHeld ?_
    rotate_left
    · (intro wx hSw; obtain ⟨sa, sb⟩ := hSw; obtain ⟨a0, a1, a2, a3, a4, a5, a6, a7, a8, a9, a10, a11⟩ := box12 sa; obtain ⟨c0, c1, c2, c3, c4, c5, c6⟩ := box7 sb; go_simp; try (with_reducible rfl))
    try simp only [Act.put, List.setIfInBounds_toArray, List.set_cons_zero, List.set_cons_succ]
    refine takeT (i := 6) (v := ?_) rfl (by kernel_rfl) (by kernel_rfl) (by decide) (by kernel_rfl) (by kernel_rfl) (fun _ _ _ h => h) (Or.inl ⟨by rfl, ?_⟩) hHeld ?_
    rotate_left
    · (intro wx hSw; obtain ⟨sa, sb⟩ := hSw; obtain ⟨a0, a1, a2, a3, a4, a5, a6, a7, a8, a9, a10, a11⟩ := box12 sa; obtain ⟨c0, c1, c2, c3, c4, c5, c6⟩ := box7 sb; go_simp; try (with_reducible rfl))
    try simp only [Act.put, List.setIfInBounds_toArray, List.set_cons_zero, List.set_cons_succ]
    refine takeT (i := 7) (v := ?_) rfl (by kernel_rfl) (by kernel_rfl) (by decide) (by kernel_rfl) (by kernel_rfl) (fun _ _ _ h => h) (Or.inl ⟨by rfl, ?_⟩) hHeld ?_
    rotate_left
    · (intro wx hSw; obtain ⟨sa, sb⟩ := hSw; obtain ⟨a0, a1, a2, a3, a4, a5, a6, a7, a8, a9, a10, a11⟩ := box12 sa; obtain ⟨c0, c1, c2, c3, c4, c5, c6⟩ := box7 sb; go_simp; try (with_reducible rfl))
    try simp only [Act.put, List.setIfInBounds_toArray, List.set_cons_zero, List.set_cons_succ]
    refine takeT (i := 8) (v := ?_) rfl (by kernel_rfl) (by kernel_rfl) (by decide) (by kernel_rfl) (by kernel_rfl) (fun _ _ _ h => h) (Or.inl ⟨by rfl, ?_⟩) hHeld ?_
    rotate_left
    · (intro wx hSw; obtain ⟨sa, sb⟩ := hSw; obtain ⟨a0, a1, a2, a3, a4, a5, a6, a7, a8, a9, a10, a11⟩ := box12 sa; obtain ⟨c0, c1, c2, c3, c4, c5, c6⟩ := box7 sb; go_simp; try (with_reducible rfl))
    try simp only [Act.put, List.setIfInBounds_toArray, List.set_cons_zero, List.set_cons_succ]
    refine doneT (by kernel_rfl) ?_ _
    refine NoPanic.normal ?_
    clear hHeld
    go_wp2_with fail
    go_meet
    exact ⟨A3, N3, c3, rfl, rfl, r3, kq, ka, b⟩
  case rest =>
    obtain ⟨A, N, c, rfl, rfl, rB, kq, ka, b⟩ := hcut
    obtain ⟨p0, p1, p2, p3, p4, p5, p6, p7, p8, p9, p10, p11⟩ := box12 kq
    obtain ⟨q0, q1, q2, q3, q4, q5, q6⟩ := box7 ka
    go_wp2_with fail
    refine (HRT.out wc b).mono ?_
    rintro e w2 ⟨rfl, b2⟩
    replace rB := rB.step b2
    clear p0 p1 p2 p3 p4 p5 p6 p7 p8 p9 p10 p11 q0 q1 q2 q3 q4 q5 q6
    replace kq := kq.step b2
    replace ka := ka.step b2
    replace b := below_step b b2
    clear b2
    go_upto_region 7 with fail
    go_cut [48] (fun s48 wx => s48 = .bool false ∧ Rd wx wx.heap.size A N c LB ∧ Blk wx w.heap.size #[.int .i64 op, .bool qt, .bool fu, .int .i64 bad, .int .u32 (oq : Nat), .slice KA nk ck, .slice VB nb cb2, .int .u32 (fl : Nat), .int .u32 (ex : Nat), .int .u64 (cs : Nat), .int .u64 (dl : Nat), .int .u64 (ini : Nat)] 26 ∧ Blk wx (w.heap.size + 1) #[.int .i64 st, .slice VA nv cv, .int .u32 (af : Nat), .int .u64 (ac : Nat), .int .u64 (an : Nat), .slice SA ns sc, .bool cl] 29 ∧ Below w.heap.size w wx)
    case first =>
      refine wp_region_noPanic ?_
      refine region_T (fun wx => Blk wx w.heap.size #[.int .i64 op, .bool qt, .bool fu, .int .i64 bad, .int .u32 (oq : Nat), .slice KA nk ck, .slice VB nb cb2, .int .u32 (fl : Nat), .int .u32 (ex : Nat), .int .u64 (cs : Nat), .int .u64 (dl : Nat), .int .u64 (ini : Nat)] 26 ∧ Blk wx (w.heap.size + 1) #[.int .i64 st, .slice VA nv cv, .int .u32 (af : Nat), .int .u64 (ac : Nat), .int .u64 (an : Nat), .slice SA ns sc, .bool cl] 29) 17 (by kernel_rfl) ?_
      have bD : Below w2.heap.size w2 w2.drew := (Below.refl _ _).drew
      replace rB := rB.step bD
      replace kq := kq.step bD
      replace ka := ka.step bD
      replace b := below_step b bD
      have hHeld := And.intro kq ka
      clear bD
      generalize w2.drew = Y0 at rB kq ka b hHeld ⊢
      refine takeT (i := 0) (v := ?_) rfl (by kernel_rfl) (by kernel_rfl) (by decide) (by kernel_rfl) (by kernel_rfl) (fun _ _ _ h => h) (Or.inl ⟨by rfl, ?_⟩) hHeld ?_
      rotate_left
      · (intro wx hSw; obtain ⟨sa, sb⟩ := hSw; obtain ⟨a0, a1, a2, a3, a4, a5, a6, a7, a8, a9, a10, a11⟩ := box12 sa; obtain ⟨c0, c1, c2, c3, c4, c5, c6⟩ := box7 sb; go_simp; try (with_reducible rfl))
      try simp only [Act.put, List.setIfInBounds_toArray, List.set_cons_zero, List.set_cons_succ]
      refine takeT (i := 1) (v := ?_) rfl (by kernel_rfl) (by kernel_rfl) (by decide) (by kernel_rfl) (by kernel_rfl) (fun _ _ _ h => h) (Or.inl ⟨by rfl, ?_⟩) hHeld ?_
      rotate_left
      · (intro wx hSw; obtain ⟨sa, sb⟩ := hSw; obtain ⟨a0, a1, a2, a3, a4, a5, a6, a7, a8, a9, a10, a11⟩ := box12 sa; obtain ⟨c0, c1, c2, c3, c4, c5, c6⟩ := box7 sb; go_simp; try (with_reducible rfl))
      try simp only [Act.put, List.setIfInBounds_toArray, List.set_cons_zero, List.set_cons_succ]
      refine takeT (i := 5) (v := ?_) rfl (by kernel_rfl) (by kernel_rfl) (by decide) (by kernel_rfl) (by kernel_rfl) (fun _ _ _ h => h) (Or.inl ⟨by rfl, ?_⟩) hHeld ?_
      rotate_left
      · (intro wx hSw; obtain ⟨sa, sb⟩ := hSw; obtain ⟨a0, a1, a2, a3, a4, a5, a6, a7, a8, a9, a10, a11⟩ := box12 sa; obtain ⟨c0, c1, c2, c3, c4, c5, c6⟩ := box7 sb; go_simp; try (with_reducible rfl))
      try simp only [Act.put, List.setIfInBounds_toArray, List.set_cons_zero, List.set_cons_succ]
      refine oneT (i := 2) rfl (by kernel_rfl) (fun KK hK => ?_)
      go_simp
      refine (HCO.out Y0 b).mono ?_
      rintro e Y1 ⟨A1, c1, A2, c2, rfl, r12, b2⟩
      clear hHeld
      replace rB := rB.step b2
      replace kq := kq.step b2
      replace ka := ka.step b2
      replace b := below_step b b2
      have hHeld := And.intro kq ka
      clear b2
      refine hK.out _ _ (fun _ => hHeld) ?_
      clear hK KK
      try simp only [Act.put, List.setIfInBounds_toArray, List.set_cons_zero, List.set_cons_succ]
      refine oneT (i := 3) rfl (by kernel_rfl) (fun KK hK => ?_)
      go_simp
      refine (HCK.out Y1 A1 c1 A2 c2 b r12).mono ?_
      rintro e Y2 ⟨rfl, b2⟩
      clear hHeld r12
      replace rB := rB.step b2
      replace kq := kq.step b2
      replace ka := ka.step b2
      replace b := below_step b b2
      have hHeld := And.intro kq ka
      clear b2
      refine hK.out _ _ (fun _ => hHeld) ?_
      clear hK KK
      try simp only [Act.put, List.setIfInBounds_toArray, List.set_cons_zero, List.set_cons_succ]
      refine takeT (i := 4) (v := ?_) rfl (by kernel_rfl) (by kernel_rfl) (by decide) (by kernel_rfl) (by kernel_rfl) (fun _ _ _ h => h) (Or.inl ⟨by rfl, ?_⟩) hHeld ?_
      rotate_left
      · (intro wx hSw; obtain ⟨sa, sb⟩ := hSw; obtain ⟨a0, a1, a2, a3, a4, a5, a6, a7, a8, a9, a10, a11⟩ := box12 sa; obtain ⟨c0, c1, c2, c3, c4, c5, c6⟩ := box7 sb; go_simp; try (with_reducible rfl))
      try simp only [Act.put, List.setIfInBounds_toArray, List.set_cons_zero, List.set_cons_succ]
      refine takeT (i := 6) (v := ?_) rfl (by kernel_rfl) (by kernel_rfl) (by decide) (by kernel_rfl) (by kernel_rfl) (fun _ _ _ h => h) (Or.inl ⟨by rfl, ?_⟩) hHeld ?_
      rotate_left
      · (intro wx hSw; obtain ⟨sa, sb⟩ := hSw; obtain ⟨a0, a1, a2, a3, a4, a5, a6, a7, a8, a9, a10, a11⟩ := box12 sa; obtain ⟨c0, c1, c2, c3, c4, c5, c6⟩ := box7 sb; go_simp; try (with_reducible rfl))
      try simp only [Act.put, List.setIfInBounds_toArray, List.set_cons_zero, List.set_cons_succ]
      refine takeT (i := 7) (v := ?_) rfl (by kernel_rfl) (by kernel_rfl) (by decide) (by kernel_rfl) (by kernel_rfl) (fun _ _ _ h => h) (Or.inl ⟨by rfl, ?_⟩) hHeld ?_
      rotate_left
      · (intro wx hSw; obtain ⟨sa, sb⟩ := hSw; obtain ⟨a0, a1, a2, a3, a4, a5, a6, a7, a8, a9, a10, a11⟩ := box12 sa; obtain ⟨c0, c1, c2, c3, c4, c5, c6⟩ := box7 sb; go_simp; try (with_reducible rfl))
      try simp only [Act.put, List.setIfInBounds_toArray, List.set_cons_zero, List.set_cons_succ]
      refine takeT (i := 8) (v := ?_) rfl (by kernel_rfl) (by kernel_rfl) (by decide) (by kernel_rfl) (by kernel_rfl) (fun _ _ _ h => h) (Or.inl ⟨by rfl, ?_⟩) hHeld ?_
      rotate_left
      · (intro wx hSw; obtain ⟨sa, sb⟩ := hSw; obtain ⟨a0, a1, a2, a3, a4, a5, a6, a7, a8, a9, a10, a11⟩ := box12 sa; obtain ⟨c0, c1, c2, c3, c4, c5, c6⟩ := box7 sb; go_simp; try (with_reducible rfl))
      try simp only [Act.put, List.setIfInBounds_toArray, List.set_cons_zero, List.set_cons_succ]
      refine takeT (i := 9) (v := ?_) rfl (by kernel_rfl) (by kernel_rfl) (by decide) (by kernel_rfl) (by kernel_rfl) (fun _ _ _ h => h) (Or.inl ⟨by rfl, ?_⟩) hHeld ?_
      rotate_left
      · (intro wx hSw; obtain ⟨sa, sb⟩ := hSw; obtain ⟨a0, a1, a2, a3, a4, a5, a6, a7, a8, a9, a10, a11⟩ := box12 sa; obtain ⟨c0, c1, c2, c3, c4, c5, c6⟩ := box7 sb; go_simp; try (with_reducible rfl))
      try simp only [Act.put, List.setIfInBounds_toArray, List.set_cons_zero, List.set_cons_succ]
      refine takeT (i := 12) (v := ?_) rfl (by kernel_rfl) (by kernel_rfl) (by decide) (by kernel_rfl) (by kernel_rfl) (fun _ _ _ h => h) (Or.inl ⟨by rfl, ?_⟩) hHeld ?_
      rotate_left
      · (intro wx hSw; obtain ⟨sa, sb⟩ := hSw; obtain ⟨a0, a1, a2, a3, a4, a5, a6, a7, a8, a9, a10, a11⟩ := box12 sa; obtain ⟨c0, c1, c2, c3, c4, c5, c6⟩ := box7 sb; go_simp; try (with_reducible rfl))
      try simp only [Act.put, List.setIfInBounds_toArray, List.set_cons_zero, List.set_cons_succ]
      refine takeT (i := 13) (v := ?_) rfl (by kernel_rfl) (by kernel_rfl) (by decide) (by kernel_rfl) (by kernel_rfl) (fun _ _ _ h => h) (Or.inl ⟨by rfl, ?_⟩) hHeld ?_
      rotate_left
      · (intro wx hSw; obtain ⟨sa, sb⟩ := hSw; obtain ⟨a0, a1, a2, a3, a4, a5, a6, a7, a8, a9, a10, a11⟩ := box12 sa; obtain ⟨c0, c1, c2, c3, c4, c5, c6⟩ := box7 sb; go_simp; try (with_reducible rfl))
      try simp only [Act.put, List.setIfInBounds_toArray, List.set_cons_zero, List.set_cons_succ]
      refine oneT (i := 10) rfl (by kernel_rfl) (fun KK hK => ?_)
      go_simp
      refine (HCO.out Y2 b).mono ?_
      rintro e Y3 ⟨A1, c1, A2, c2, rfl, r12, b2⟩
      clear hHeld
      replace rB := rB.step b2
      replace kq := kq.step b2
      replace ka := ka.step b2
      replace b := below_step b b2
      have hHeld := And.intro kq ka
      clear b2
      refine hK.out _ _ (fun _ => hHeld) ?_
      clear hK KK
      try simp only [Act.put, List.setIfInBounds_toArray, List.set_cons_zero, List.set_cons_succ]
      refine oneT (i := 11) rfl (by kernel_rfl) (fun KK hK => ?_)
      go_simp
      refine (HSI.out Y3 A1 c1 A2 c2).mono ?_
      rintro e Y4 ⟨rfl, b2⟩
      clear hHeld r12
      replace rB := rB.step b2
      replace kq := kq.step b2
      replace ka := ka.step b2
      replace b := below_step b b2
      have hHeld := And.intro kq ka
      clear b2
      refine hK.out _ _ (fun _ => hHeld) ?_
      clear hK KK
      try simp only [Act.put, List.setIfInBounds_toArray, List.set_cons_zero, List.set_cons_succ]
      refine oneT (i := 14) rfl (by kernel_rfl) (fun KK hK => ?_)
      go_simp
      refine (HRS.out Y4).mono ?_
      rintro e Y5 ⟨rfl, b2⟩
      clear hHeld
      replace rB := rB.step b2
      replace kq := kq.step b2
      replace ka := ka.step b2
      replace b := below_step b b2
      have hHeld := And.intro kq ka
      clear b2
      refine hK.out _ _ (fun _ => hHeld) ?_
      clear hK KK
      try simp only [Act.put, List.setIfInBounds_toArray, List.set_cons_zero, List.set_cons_succ]
      refine takeT (i := 15) (v := ?_) rfl (by kernel_rfl) (by kernel_rfl) (by decide) (by kernel_rfl) (by kernel_rfl) (fun _ _ _ h => h) (Or.inl ⟨by rfl, ?_⟩) hHeld ?_
      rotate_left
      · (intro wx hSw; obtain ⟨sa, sb⟩ := hSw; obtain ⟨a0, a1, a2, a3, a4, a5, a6, a7, a8, a9, a10, a11⟩ := box12 sa; obtain ⟨c0, c1, c2, c3, c4, c5, c6⟩ := box7 sb; go_simp; try (with_reducible rfl))
      try simp only [Act.put, List.setIfInBounds_toArray, List.set_cons_zero, List.set_cons_succ]
      refine takeT (i := 16) (v := ?_) rfl (by kernel_rfl) (by kernel_rfl) (by decide) (by kernel_rfl) (by kernel_rfl) (fun _ _ _ h => h) (Or.inl ⟨by rfl, ?_⟩) hHeld ?_
      rotate_left
      · (intro wx hSw; obtain ⟨sa, sb⟩ := hSw; obtain ⟨a0, a1, a2, a3, a4, a5, a6, a7, a8, a9, a10, a11⟩ := box12 sa; obtain ⟨c0, c1, c2, c3, c4, c5, c6⟩ := box7 sb; go_simp; try (with_reducible rfl))
      try simp only [Act.put, List.setIfInBounds_toArray, List.set_cons_zero, List.set_cons_succ]
      refine doneT (by kernel_rfl) ?_ _
      refine NoPanic.normal ?_
      clear hHeld
      go_wp2_with fail
      go_meet
      exact ⟨rfl, rB, kq, ka, b⟩
    case rest =>
      obtain ⟨rfl, rB, kq, ka, b⟩ := hcut
      obtain ⟨p0, p1, p2, p3, p4, p5, p6, p7, p8, p9, p10, p11⟩ := box12 kq
      obtain ⟨q0, q1, q2, q3, q4, q5, q6⟩ := box7 ka
      go_wp2_with fail
      refine (HRB.out _ b).mono ?_
      rintro e w4 ⟨A4, N4, c4, rfl, o4, b4⟩
      have r4 := o4.rd
      replace rB := rB.step b4
      clear p0 p1 p2 p3 p4 p5 p6 p7 p8 p9 p10 p11 q0 q1 q2 q3 q4 q5 q6
      replace kq := kq.step b4
      replace ka := ka.step b4
      replace b := below_step b b4
      clear b4 o4
      have hN := rB.len
      rw [HLB.out] at hN
      have hN0 : N = 0 := hN.symm
      subst hN0
      clear hN
      rw [HER.out]
      obtain ⟨p0, p1, p2, p3, p4, p5, p6, p7, p8, p9, p10, p11⟩ := box12 kq
      obtain ⟨q0, q1, q2, q3, q4, q5, q6⟩ := box7 ka
      go_wp2_with fail
      refine (HRS.out w4).mono ?_
      rintro e w5 ⟨rfl, b5⟩
      replace rB := rB.step b5
      replace r4 := r4.step b5
      clear p0 p1 p2 p3 p4 p5 p6 p7 p8 p9 p10 p11 q0 q1 q2 q3 q4 q5 q6
      replace kq := kq.step b5
      replace ka := ka.step b5
      replace b := below_step b b5
      clear b5
      go_wp2_with fail
      go_ret
      exact ⟨rfl, b⟩
set_option maxRecDepth 100000 in
set_option maxHeartbeats 8000000 in
theorem says_n (op : Int) (qt fu : Bool) (bad : Int) (oq fl ex cs dl ini : Nat) (KA : Option Addr) (nk ck : Nat) (VB : Option Addr) (nb cb2 : Nat) (st : Int) (VA : Option Addr) (nv cv af ac an : Nat) (SA : Option Addr) (ns sc : Nat) (cl : Bool) (w : World) (lv : List UInt8) (SL : List (ByteArray × ByteArray)) (sil okv : Bool) (ER : Int) (LB RB : List UInt8) (hnk : nk ≤ 5000 ∧ ns ≤ 40) (hcop : ∀ W, Below w.heap.size w W → Calls Try.prog 23 #[.agg #[.int .i64 st, .slice VA nv cv, .int .u32 (af : Nat), .int .u64 (ac : Nat), .int .u64 (an : Nat), .slice SA ns sc, .bool cl]] W (fun e W' => ∃ A1 c1 A2 c2, e = .returned (.agg #[.int .i64 st, .slice A1 nv c1, .int .u32 (af : Nat), .int .u64 (ac : Nat), .int .u64 (an : Nat), .slice A2 ns c2, .bool cl]) ∧ (Rd W' W'.heap.size A1 nv c1 lv ∧ Rz W' W'.heap.size 2 A2 ns c2 (SL.map stCells).flatten) ∧ Below W.heap.size W W')) (hof : ∀ W A1 c1 A2 c2, Below w.heap.size w W → Rd W W.heap.size A1 nv c1 lv ∧ Rz W W.heap.size 2 A2 ns c2 (SL.map stCells).flatten → Calls Try.prog 22 #[.agg #[.int .i64 op, .bool qt, .bool fu, .int .i64 bad, .int .u32 (oq : Nat), .slice KA nk ck, .slice VB nb cb2, .int .u32 (fl : Nat), .int .u32 (ex : Nat), .int .u64 (cs : Nat), .int .u64 (dl : Nat), .int .u64 (ini : Nat)], .agg #[.int .i64 st, .slice A1 nv c1, .int .u32 (af : Nat), .int .u64 (ac : Nat), .int .u64 (an : Nat), .slice A2 ns c2, .bool cl]] W (fun e W' => ∃ (N : Nat) (A : Option Addr) (c : Nat), e = .returned (.tuple #[.slice A N c, .int .i64 ER]) ∧ Rd W' W'.heap.size A N c LB ∧ Below W.heap.size W W')) (hck : ∀ W A1 c1 A2 c2, Below w.heap.size w W → Rd W W.heap.size A1 nv c1 lv ∧ Rz W W.heap.size 2 A2 ns c2 (SL.map stCells).flatten → Calls Try.prog 25 #[.agg #[.int .i64 op, .bool qt, .bool fu, .int .i64 bad, .int .u32 (oq : Nat), .slice KA nk ck, .slice VB nb cb2, .int .u32 (fl : Nat), .int .u32 (ex : Nat), .int .u64 (cs : Nat), .int .u64 (dl : Nat), .int .u64 (ini : Nat)], .agg #[.int .i64 st, .slice A1 nv c1, .int .u32 (af : Nat), .int .u64 (ac : Nat), .int .u64 (an : Nat), .slice A2 ns c2, .bool cl]] W (BoxQ' (.int .i64 0) W)) (hsi : ∀ W A1 c1 A2 c2, Calls Try.prog 26 #[.agg #[.int .i64 op, .bool qt, .bool fu, .int .i64 bad, .int .u32 (oq : Nat), .slice KA nk ck, .slice VB nb cb2, .int .u32 (fl : Nat), .int .u32 (ex : Nat), .int .u64 (cs : Nat), .int .u64 (dl : Nat), .int .u64 (ini : Nat)], .agg #[.int .i64 st, .slice A1 nv c1, .int .u32 (af : Nat), .int .u64 (ac : Nat), .int .u64 (an : Nat), .slice A2 ns c2, .bool cl]] W (BoxQ' (.bool sil) W)) (hrs : ∀ W, Calls Try.prog 27 #[.agg #[.int .i64 op, .bool qt, .bool fu, .int .i64 bad, .int .u32 (oq : Nat), .slice KA nk ck, .slice VB nb cb2, .int .u32 (fl : Nat), .int .u32 (ex : Nat), .int .u64 (cs : Nat), .int .u64 (dl : Nat), .int .u64 (ini : Nat)], .agg #[.int .i64 st, .slice VA nv cv, .int .u32 (af : Nat), .int .u64 (ac : Nat), .int .u64 (an : Nat), .slice SA ns sc, .bool cl]] W (BoxQ' (.bool sil) W)) (hrt : ∀ W, Below w.heap.size w W → Calls Try.prog 24 #[.agg #[.int .i64 op, .bool qt, .bool fu, .int .i64 bad, .int .u32 (oq : Nat), .slice KA nk ck, .slice VB nb cb2, .int .u32 (fl : Nat), .int .u32 (ex : Nat), .int .u64 (cs : Nat), .int .u64 (dl : Nat), .int .u64 (ini : Nat)], .agg #[.int .i64 st, .slice VA nv cv, .int .u32 (af : Nat), .int .u64 (ac : Nat), .int .u64 (an : Nat), .slice SA ns sc, .bool cl]] W (BoxQ' (.bool true) W)) (hrb : ∀ W, Below w.heap.size w W → Calls Try.prog 28 #[.agg #[.int .i64 op, .bool qt, .bool fu, .int .i64 bad, .int .u32 (oq : Nat), .slice KA nk ck, .slice VB nb cb2, .int .u32 (fl : Nat), .int .u32 (ex : Nat), .int .u64 (cs : Nat), .int .u64 (dl : Nat), .int .u64 (ini : Nat)], .agg #[.int .i64 st, .slice VA nv cv, .int .u32 (af : Nat), .int .u64 (ac : Nat), .int .u64 (an : Nat), .slice SA ns sc, .bool cl]] W (RbQ RB okv W)) (hsil : sil = false) (hok : okv = false) : Calls Try.prog 3 #[.agg #[.int .i64 op, .bool qt, .bool fu, .int .i64 bad, .int .u32 (oq : Nat), .slice KA nk ck, .slice VB nb cb2, .int .u32 (fl : Nat), .int .u32 (ex : Nat), .int .u64 (cs : Nat), .int .u64 (dl : Nat), .int .u64 (ini : Nat)], .agg #[.int .i64 st, .slice VA nv cv, .int .u32 (af : Nat), .int .u64 (ac : Nat), .int .u64 (an : Nat), .slice SA ns sc, .bool cl]] w (fun e w' => e = .returned (.bool true) ∧ Below w.heap.size w w') := by
  have HCO := Lib.hid hcop
  have HOF := Lib.hid hof
  have HCK := Lib.hid hck
  have HSI := Lib.hid hsi
  have HRS := Lib.hid hrs
  have HRT := Lib.hid hrt
  have HRB := Lib.hid hrb
  have HK := Lib.hid hnk
  clear hcop hof hck hsi hrs hrt hrb hnk
  have HWK := Lib.hid (fun W => wakes21 W)
  subst hsil
  subst hok
  have kq := (Blk.new w #[.int .i64 op, .bool qt, .bool fu, .int .i64 bad, .int .u32 (oq : Nat), .slice KA nk ck, .slice VB nb cb2, .int .u32 (fl : Nat), .int .u32 (ex : Nat), .int .u64 (cs : Nat), .int .u64 (dl : Nat), .int .u64 (ini : Nat)] 26).alloc (.cells #[.int .i64 st, .slice VA nv cv, .int .u32 (af : Nat), .int .u64 (ac : Nat), .int .u64 (an : Nat), .slice SA ns sc, .bool cl] 29)
  have ka := Blk.new (w.alloc (.cells #[.int .i64 op, .bool qt, .bool fu, .int .i64 bad, .int .u32 (oq : Nat), .slice KA nk ck, .slice VB nb cb2, .int .u32 (fl : Nat), .int .u32 (ex : Nat), .int .u64 (cs : Nat), .int .u64 (dl : Nat), .int .u64 (ini : Nat)] 26)) #[.int .i64 st, .slice VA nv cv, .int .u32 (af : Nat), .int .u64 (ac : Nat), .int .u64 (an : Nat), .slice SA ns sc, .bool cl] 29
  have b := below_a1' (below_a1' (Below.refl w.heap.size w) (.cells #[.int .i64 op, .bool qt, .bool fu, .int .i64 bad, .int .u32 (oq : Nat), .slice KA nk ck, .slice VB nb cb2, .int .u32 (fl : Nat), .int .u32 (ex : Nat), .int .u64 (cs : Nat), .int .u64 (dl : Nat), .int .u64 (ini : Nat)] 26)) (.cells #[.int .i64 st, .slice VA nv cv, .int .u32 (af : Nat), .int .u64 (ac : Nat), .int .u64 (an : Nat), .slice SA ns sc, .bool cl] 29)
  rw [World.size_alloc] at ka
  go_enter Try.func3, Try.ntmps3
  go_upto_region 1 with fail
  generalize (w.alloc (.cells #[.int .i64 op, .bool qt, .bool fu, .int .i64 bad, .int .u32 (oq : Nat), .slice KA nk ck, .slice VB nb cb2, .int .u32 (fl : Nat), .int .u32 (ex : Nat), .int .u64 (cs : Nat), .int .u64 (dl : Nat), .int .u64 (ini : Nat)] 26)).alloc (.cells #[.int .i64 st, .slice VA nv cv, .int .u32 (af : Nat), .int .u64 (ac : Nat), .int .u64 (an : Nat), .slice SA ns sc, .bool cl] 29) = W0 at kq ka b ⊢
  go_wp2_with fail
  refine (HWK.out W0).mono ?_
  rintro e w1 ⟨rfl, b1⟩
  replace kq := kq.step b1
  replace ka := ka.step b1
  replace b := below_step b b1
  clear b1
  obtain ⟨p0, p1, p2, p3, p4, p5, p6, p7, p8, p9, p10, p11⟩ := box12 kq
  obtain ⟨q0, q1, q2, q3, q4, q5, q6⟩ := box7 ka
  have hk' : ((5000 : Int) < (nk : Int)) = False := eq_false (by have := HK.out; omega)
  have hs' : ((40 : Int) < (ns : Int)) = False := eq_false (by have := HK.out; omega)
  go_upto_region 5 with fail
  clear p0 p1 p2 p3 p4 p5 p6 p7 p8 p9 p10 p11 q0 q1 q2 q3 q4 q5 q6
  clear hk' hs'
  go_cut [5, 6] (fun s5 s6 wx => ∃ A N c, s5 = .slice A N c ∧ s6 = .int .i64 ER ∧ Rd wx wx.heap.size A N c LB ∧ Blk wx w.heap.size #[.int .i64 op, .bool qt, .bool fu, .int .i64 bad, .int .u32 (oq : Nat), .slice KA nk ck, .slice VB nb cb2, .int .u32 (fl : Nat), .int .u32 (ex : Nat), .int .u64 (cs : Nat), .int .u64 (dl : Nat), .int .u64 (ini : Nat)] 26 ∧ Blk wx (w.heap.size + 1) #[.int .i64 st, .slice VA nv cv, .int .u32 (af : Nat), .int .u64 (ac : Nat), .int .u64 (an : Nat), .slice SA ns sc, .bool cl] 29 ∧ Below w.heap.size w wx)
  case first =>
    refine wp_region_noPanic ?_
    refine region_T (fun wx => Blk wx w.heap.size #[.int .i64 op, .bool qt, .bool fu, .int .i64 bad, .int .u32 (oq : Nat), .slice KA nk ck, .slice VB nb cb2, .int .u32 (fl : Nat), .int .u32 (ex : Nat), .int .u64 (cs : Nat), .int .u64 (dl : Nat), .int .u64 (ini : Nat)] 26 ∧ Blk wx (w.heap.size + 1) #[.int .i64 st, .slice VA nv cv, .int .u32 (af : Nat), .int .u64 (ac : Nat), .int .u64 (an : Nat), .slice SA ns sc, .bool cl] 29) 9 (by kernel_rfl) ?_
    have bD : Below w1.heap.size w1 w1.drew := (Below.refl _ _).drew
    replace kq := kq.step bD
    replace ka := ka.step bD
    replace b := below_step b bD
    have hHeld := And.intro kq ka
    clear bD
    generalize w1.drew = Y0 at kq ka b hHeld ⊢
    refine takeT (i := 0) (v := ?_) rfl (by kernel_rfl) (by kernel_rfl) (by decide) (by kernel_rfl) (by kernel_rfl) (fun _ _ _ h => h) (Or.inl ⟨by rfl, ?_⟩) hHeld ?_
    rotate_left
    · (intro wx hSw; obtain ⟨sa, sb⟩ := hSw; obtain ⟨a0, a1, a2, a3, a4, a5, a6, a7, a8, a9, a10, a11⟩ := box12 sa; obtain ⟨c0, c1, c2, c3, c4, c5, c6⟩ := box7 sb; go_simp; try (with_reducible rfl))
    try simp only [Act.put, List.setIfInBounds_toArray, List.set_cons_zero, List.set_cons_succ]
    refine takeT (i := 1) (v := ?_) rfl (by kernel_rfl) (by kernel_rfl) (by decide) (by kernel_rfl) (by kernel_rfl) (fun _ _ _ h => h) (Or.inl ⟨by rfl, ?_⟩) hHeld ?_
    rotate_left
    · (intro wx hSw; obtain ⟨sa, sb⟩ := hSw; obtain ⟨a0, a1, a2, a3, a4, a5, a6, a7, a8, a9, a10, a11⟩ := box12 sa; obtain ⟨c0, c1, c2, c3, c4, c5, c6⟩ := box7 sb; go_simp; try (with_reducible rfl))
    try simp only [Act.put, List.setIfInBounds_toArray, List.set_cons_zero, List.set_cons_succ]
    refine oneT (i := 2) rfl (by kernel_rfl) (fun KK hK => ?_)
    go_simp
    refine (HCO.out Y0 b).mono ?_
    rintro e Y1 ⟨A1, c1, A2, c2, rfl, r12, b2⟩
    clear hHeld
    replace kq := kq.step b2
    replace ka := ka.step b2
    replace b := below_step b b2
    have hHeld := And.intro kq ka
    clear b2
    refine hK.out _ _ (fun _ => hHeld) ?_
    clear hK KK
    try simp only [Act.put, List.setIfInBounds_toArray, List.set_cons_zero, List.set_cons_succ]
    refine oneT (i := 3) rfl (by kernel_rfl) (fun KK hK => ?_)
    go_simp
    refine (HOF.out Y1 A1 c1 A2 c2 b r12).mono ?_
    rintro e Y2 ⟨N3, A3, c3, rfl, r3, b3⟩
    clear hHeld r12
    replace kq := kq.step b3
    replace ka := ka.step b3
    replace b := below_step b b3
    have hHeld := And.intro kq ka
    clear b3
    refine hK.out _ _ (fun _ => hHeld) ?_
    clear hK KK
    try simp only [Act.put, List.setIfInBounds_toArray, List.set_cons_zero, List.set_cons_succ]
    refine takeT (i := 4) (v := ?_) rfl (by kernel_rfl) (by kernel_rfl) (by decide) (by kernel_rfl) (by kernel_rfl) (fun _ _ _ h => h) (Or.inl ⟨by rfl, ?_⟩) hHeld ?_
    rotate_left
    · (intro wx hSw; obtain ⟨sa, sb⟩ := hSw; obtain ⟨a0, a1, a2, a3, a4, a5, a6, a7, a8, a9, a10, a11⟩ := box12 sa; obtain ⟨c0, c1, c2, c3, c4, c5, c6⟩ := box7 sb; go_simp; try (with_reducible rfl))
    try simp only [Act.put, List.setIfInBounds_toArray, List.set_cons_zero, List.set_cons_succ]
    refine takeT (i := 5) (v := ?_) rfl (by kernel_rfl) (by kernel_rfl) (by decide) (by kernel_rfl) (by kernel_rfl) (fun _ _ _ h => h) (Or.inl ⟨by rfl, ?_⟩) hHeld ?_
    rotate_left
    · (intro wx hSw; obtain ⟨sa, sb⟩ := hSw; obtain ⟨a0, a1, a2, a3, a4, a5, a6, a7, a8, a9, a10, a11⟩ := box12 sa; obtain ⟨c0, c1, c2, c3, c4, c5, c6⟩ := box7 sb; go_simp; try (with_reducible rfl))
    try simp only [Act.put, List.setIfInBounds_toArray, List.set_cons_zero, List.set_cons_succ]
    refine takeT (i := 6) (v := ?_) rfl (by kernel_rfl) (by kernel_rfl) (by decide) (by kernel_rfl) (by kernel_rfl) (fun _ _ _ h => h) (Or.inl ⟨by rfl, ?_⟩) hHeld ?_
    rotate_left
    · (intro wx hSw; obtain ⟨sa, sb⟩ := hSw; obtain ⟨a0, a1, a2, a3, a4, a5, a6, a7, a8, a9, a10, a11⟩ := box12 sa; obtain ⟨c0, c1, c2, c3, c4, c5, c6⟩ := box7 sb; go_simp; try (with_reducible rfl))
    try simp only [Act.put, List.setIfInBounds_toArray, List.set_cons_zero, List.set_cons_succ]
    refine takeT (i := 7) (v := ?_) rfl (by kernel_rfl) (by kernel_rfl) (by decide) (by kernel_rfl) (by kernel_rfl) (fun _ _ _ h => h) (Or.inl ⟨by rfl, ?_⟩) hHeld ?_
    rotate_left
    · (intro wx hSw; obtain ⟨sa, sb⟩ := hSw; obtain ⟨a0, a1, a2, a3, a4, a5, a6, a7, a8, a9, a10, a11⟩ := box12 sa; obtain ⟨c0, c1, c2, c3, c4, c5, c6⟩ := box7 sb; go_simp; try (with_reducible rfl))
    try simp only [Act.put, List.setIfInBounds_toArray, List.set_cons_zero, List.set_cons_succ]
    refine takeT (i := 8) (v := ?_) rfl (by kernel_rfl) (by kernel_rfl) (by decide) (by kernel_rfl) (by kernel_rfl) (fun _ _ _ h => h) (Or.inl ⟨by rfl, ?_⟩) hHeld ?_
    rotate_left
    · (intro wx hSw; obtain ⟨sa, sb⟩ := hSw; obtain ⟨a0, a1, a2, a3, a4, a5, a6, a7, a8, a9, a10, a11⟩ := box12 sa; obtain ⟨c0, c1, c2, c3, c4, c5, c6⟩ := box7 sb; go_simp; try (with_reducible rfl))
    try simp only [Act.put, List.setIfInBounds_toArray, List.set_cons_zero, List.set_cons_succ]
    refine doneT (by kernel_rfl) ?_ _
    refine NoPanic.normal ?_
    clear hHeld
    go_wp2_with fail
    go_meet
    exact ⟨A3, N3, c3, rfl, rfl, r3, kq, ka, b⟩
  case rest =>
    obtain ⟨A, N, c, rfl, rfl, rB, kq, ka, b⟩ := hcut
    obtain ⟨p0, p1, p2, p3, p4, p5, p6, p7, p8, p9, p10, p11⟩ := box12 kq
    obtain ⟨q0, q1, q2, q3, q4, q5, q6⟩ := box7 ka
    go_wp2_with fail
    refine (HRT.out wc b).mono ?_
    rintro e w2 ⟨rfl, b2⟩
    replace rB := rB.step b2
    clear p0 p1 p2 p3 p4 p5 p6 p7 p8 p9 p10 p11 q0 q1 q2 q3 q4 q5 q6
    replace kq := kq.step b2
    replace ka := ka.step b2
    replace b := below_step b b2
    clear b2
    go_upto_region 7 with fail
    go_cut [48] (fun s48 wx => s48 = .bool false ∧ Rd wx wx.heap.size A N c LB ∧ Blk wx w.heap.size #[.int .i64 op, .bool qt, .bool fu, .int .i64 bad, .int .u32 (oq : Nat), .slice KA nk ck, .slice VB nb cb2, .int .u32 (fl : Nat), .int .u32 (ex : Nat), .int .u64 (cs : Nat), .int .u64 (dl : Nat), .int .u64 (ini : Nat)] 26 ∧ Blk wx (w.heap.size + 1) #[.int .i64 st, .slice VA nv cv, .int .u32 (af : Nat), .int .u64 (ac : Nat), .int .u64 (an : Nat), .slice SA ns sc, .bool cl] 29 ∧ Below w.heap.size w wx)
    case first =>
      refine wp_region_noPanic ?_
      refine region_T (fun wx => Blk wx w.heap.size #[.int .i64 op, .bool qt, .bool fu, .int .i64 bad, .int .u32 (oq : Nat), .slice KA nk ck, .slice VB nb cb2, .int .u32 (fl : Nat), .int .u32 (ex : Nat), .int .u64 (cs : Nat), .int .u64 (dl : Nat), .int .u64 (ini : Nat)] 26 ∧ Blk wx (w.heap.size + 1) #[.int .i64 st, .slice VA nv cv, .int .u32 (af : Nat), .int .u64 (ac : Nat), .int .u64 (an : Nat), .slice SA ns sc, .bool cl] 29) 17 (by kernel_rfl) ?_
      have bD : Below w2.heap.size w2 w2.drew := (Below.refl _ _).drew
      replace rB := rB.step bD
      replace kq := kq.step bD
      replace ka := ka.step bD
      replace b := below_step b bD
      have hHeld := And.intro kq ka
      clear bD
      generalize w2.drew = Y0 at rB kq ka b hHeld ⊢
      refine takeT (i := 0) (v := ?_) rfl (by kernel_rfl) (by kernel_rfl) (by decide) (by kernel_rfl) (by kernel_rfl) (fun _ _ _ h => h) (Or.inl ⟨by rfl, ?_⟩) hHeld ?_
      rotate_left
      · (intro wx hSw; obtain ⟨sa, sb⟩ := hSw; obtain ⟨a0, a1, a2, a3, a4, a5, a6, a7, a8, a9, a10, a11⟩ := box12 sa; obtain ⟨c0, c1, c2, c3, c4, c5, c6⟩ := box7 sb; go_simp; try (with_reducible rfl))
      try simp only [Act.put, List.setIfInBounds_toArray, List.set_cons_zero, List.set_cons_succ]
      refine takeT (i := 1) (v := ?_) rfl (by kernel_rfl) (by kernel_rfl) (by decide) (by kernel_rfl) (by kernel_rfl) (fun _ _ _ h => h) (Or.inl ⟨by rfl, ?_⟩) hHeld ?_
      rotate_left
      · (intro wx hSw; obtain ⟨sa, sb⟩ := hSw; obtain ⟨a0, a1, a2, a3, a4, a5, a6, a7, a8, a9, a10, a11⟩ := box12 sa; obtain ⟨c0, c1, c2, c3, c4, c5, c6⟩ := box7 sb; go_simp; try (with_reducible rfl))
      try simp only [Act.put, List.setIfInBounds_toArray, List.set_cons_zero, List.set_cons_succ]
      refine takeT (i := 5) (v := ?_) rfl (by kernel_rfl) (by kernel_rfl) (by decide) (by kernel_rfl) (by kernel_rfl) (fun _ _ _ h => h) (Or.inl ⟨by rfl, ?_⟩) hHeld ?_
      rotate_left
      · (intro wx hSw; obtain ⟨sa, sb⟩ := hSw; obtain ⟨a0, a1, a2, a3, a4, a5, a6, a7, a8, a9, a10, a11⟩ := box12 sa; obtain ⟨c0, c1, c2, c3, c4, c5, c6⟩ := box7 sb; go_simp; try (with_reducible rfl))
      try simp only [Act.put, List.setIfInBounds_toArray, List.set_cons_zero, List.set_cons_succ]
      refine oneT (i := 2) rfl (by kernel_rfl) (fun KK hK => ?_)
      go_simp
      refine (HCO.out Y0 b).mono ?_
      rintro e Y1 ⟨A1, c1, A2, c2, rfl, r12, b2⟩
      clear hHeld
      replace rB := rB.step b2
      replace kq := kq.step b2
      replace ka := ka.step b2
      replace b := below_step b b2
      have hHeld := And.intro kq ka
      clear b2
      refine hK.out _ _ (fun _ => hHeld) ?_
      clear hK KK
      try simp only [Act.put, List.setIfInBounds_toArray, List.set_cons_zero, List.set_cons_succ]
      refine oneT (i := 3) rfl (by kernel_rfl) (fun KK hK => ?_)
      go_simp
      refine (HCK.out Y1 A1 c1 A2 c2 b r12).mono ?_
      rintro e Y2 ⟨rfl, b2⟩
      clear hHeld r12
      replace rB := rB.step b2
      replace kq := kq.step b2
      replace ka := ka.step b2
      replace b := below_step b b2
      have hHeld := And.intro kq ka
      clear b2
      refine hK.out _ _ (fun _ => hHeld) ?_
      clear hK KK
      try simp only [Act.put, List.setIfInBounds_toArray, List.set_cons_zero, List.set_cons_succ]
      refine takeT (i := 4) (v := ?_) rfl (by kernel_rfl) (by kernel_rfl) (by decide) (by kernel_rfl) (by kernel_rfl) (fun _ _ _ h => h) (Or.inl ⟨by rfl, ?_⟩) hHeld ?_
      rotate_left
      · (intro wx hSw; obtain ⟨sa, sb⟩ := hSw; obtain ⟨a0, a1, a2, a3, a4, a5, a6, a7, a8, a9, a10, a11⟩ := box12 sa; obtain ⟨c0, c1, c2, c3, c4, c5, c6⟩ := box7 sb; go_simp; try (with_reducible rfl))
      try simp only [Act.put, List.setIfInBounds_toArray, List.set_cons_zero, List.set_cons_succ]
      refine takeT (i := 6) (v := ?_) rfl (by kernel_rfl) (by kernel_rfl) (by decide) (by kernel_rfl) (by kernel_rfl) (fun _ _ _ h => h) (Or.inl ⟨by rfl, ?_⟩) hHeld ?_
      rotate_left
      · (intro wx hSw; obtain ⟨sa, sb⟩ := hSw; obtain ⟨a0, a1, a2, a3, a4, a5, a6, a7, a8, a9, a10, a11⟩ := box12 sa; obtain ⟨c0, c1, c2, c3, c4, c5, c6⟩ := box7 sb; go_simp; try (with_reducible rfl))
      try simp only [Act.put, List.setIfInBounds_toArray, List.set_cons_zero, List.set_cons_succ]
      refine takeT (i := 7) (v := ?_) rfl (by kernel_rfl) (by kernel_rfl) (by decide) (by kernel_rfl) (by kernel_rfl) (fun _ _ _ h => h) (Or.inl ⟨by rfl, ?_⟩) hHeld ?_
      rotate_left
      · (intro wx hSw; obtain ⟨sa, sb⟩ := hSw; obtain ⟨a0, a1, a2, a3, a4, a5, a6, a7, a8, a9, a10, a11⟩ := box12 sa; obtain ⟨c0, c1, c2, c3, c4, c5, c6⟩ := box7 sb; go_simp; try (with_reducible rfl))
      try simp only [Act.put, List.setIfInBounds_toArray, List.set_cons_zero, List.set_cons_succ]
      refine takeT (i := 8) (v := ?_) rfl (by kernel_rfl) (by kernel_rfl) (by decide) (by kernel_rfl) (by kernel_rfl) (fun _ _ _ h => h) (Or.inl ⟨by rfl, ?_⟩) hHeld ?_
      rotate_left
      · (intro wx hSw; obtain ⟨sa, sb⟩ := hSw; obtain ⟨a0, a1, a2, a3, a4, a5, a6, a7, a8, a9, a10, a11⟩ := box12 sa; obtain ⟨c0, c1, c2, c3, c4, c5, c6⟩ := box7 sb; go_simp; try (with_reducible rfl))
      try simp only [Act.put, List.setIfInBounds_toArray, List.set_cons_zero, List.set_cons_succ]
      refine takeT (i := 9) (v := ?_) rfl (by kernel_rfl) (by kernel_rfl) (by decide) (by kernel_rfl) (by kernel_rfl) (fun _ _ _ h => h) (Or.inl ⟨by rfl, ?_⟩) hHeld ?_
      rotate_left
      · (intro wx hSw; obtain ⟨sa, sb⟩ := hSw; obtain ⟨a0, a1, a2, a3, a4, a5, a6, a7, a8, a9, a10, a11⟩ := box12 sa; obtain ⟨c0, c1, c2, c3, c4, c5, c6⟩ := box7 sb; go_simp; try (with_reducible rfl))
      try simp only [Act.put, List.setIfInBounds_toArray, List.set_cons_zero, List.set_cons_succ]
      refine takeT (i := 12) (v := ?_) rfl (by kernel_rfl) (by kernel_rfl) (by decide) (by kernel_rfl) (by kernel_rfl) (fun _ _ _ h => h) (Or.inl ⟨by rfl, ?_⟩) hHeld ?_
      rotate_left
      · (intro wx hSw; obtain ⟨sa, sb⟩ := hSw; obtain ⟨a0, a1, a2, a3, a4, a5, a6, a7, a8, a9, a10, a11⟩ := box12 sa; obtain ⟨c0, c1, c2, c3, c4, c5, c6⟩ := box7 sb; go_simp; try (with_reducible rfl))
      try simp only [Act.put, List.setIfInBounds_toArray, List.set_cons_zero, List.set_cons_succ]
      refine takeT (i := 13) (v := ?_) rfl (by kernel_rfl) (by kernel_rfl) (by decide) (by kernel_rfl) (by kernel_rfl) (fun _ _ _ h => h) (Or.inl ⟨by rfl, ?_⟩) hHeld ?_
      rotate_left
      · (intro wx hSw; obtain ⟨sa, sb⟩ := hSw; obtain ⟨a0, a1, a2, a3, a4, a5, a6, a7, a8, a9, a10, a11⟩ := box12 sa; obtain ⟨c0, c1, c2, c3, c4, c5, c6⟩ := box7 sb; go_simp; try (with_reducible rfl))
      try simp only [Act.put, List.setIfInBounds_toArray, List.set_cons_zero, List.set_cons_succ]
      refine oneT (i := 10) rfl (by kernel_rfl) (fun KK hK => ?_)
      go_simp
      refine (HCO.out Y2 b).mono ?_
      rintro e Y3 ⟨A1, c1, A2, c2, rfl, r12, b2⟩
      clear hHeld
      replace rB := rB.step b2
      replace kq := kq.step b2
      replace ka := ka.step b2
      replace b := below_step b b2
      have hHeld := And.intro kq ka
      clear b2
      refine hK.out _ _ (fun _ => hHeld) ?_
      clear hK KK
      try simp only [Act.put, List.setIfInBounds_toArray, List.set_cons_zero, List.set_cons_succ]
      refine oneT (i := 11) rfl (by kernel_rfl) (fun KK hK => ?_)
      go_simp
      refine (HSI.out Y3 A1 c1 A2 c2).mono ?_
      rintro e Y4 ⟨rfl, b2⟩
      clear hHeld r12
      replace rB := rB.step b2
      replace kq := kq.step b2
      replace ka := ka.step b2
      replace b := below_step b b2
      have hHeld := And.intro kq ka
      clear b2
      refine hK.out _ _ (fun _ => hHeld) ?_
      clear hK KK
      try simp only [Act.put, List.setIfInBounds_toArray, List.set_cons_zero, List.set_cons_succ]
      refine oneT (i := 14) rfl (by kernel_rfl) (fun KK hK => ?_)
      go_simp
      refine (HRS.out Y4).mono ?_
      rintro e Y5 ⟨rfl, b2⟩
      clear hHeld
      replace rB := rB.step b2
      replace kq := kq.step b2
      replace ka := ka.step b2
      replace b := below_step b b2
      have hHeld := And.intro kq ka
      clear b2
      refine hK.out _ _ (fun _ => hHeld) ?_
      clear hK KK
      try simp only [Act.put, List.setIfInBounds_toArray, List.set_cons_zero, List.set_cons_succ]
      refine takeT (i := 15) (v := ?_) rfl (by kernel_rfl) (by kernel_rfl) (by decide) (by kernel_rfl) (by kernel_rfl) (fun _ _ _ h => h) (Or.inl ⟨by rfl, ?_⟩) hHeld ?_
      rotate_left
      · (intro wx hSw; obtain ⟨sa, sb⟩ := hSw; obtain ⟨a0, a1, a2, a3, a4, a5, a6, a7, a8, a9, a10, a11⟩ := box12 sa; obtain ⟨c0, c1, c2, c3, c4, c5, c6⟩ := box7 sb; go_simp; try (with_reducible rfl))
      try simp only [Act.put, List.setIfInBounds_toArray, List.set_cons_zero, List.set_cons_succ]
      refine takeT (i := 16) (v := ?_) rfl (by kernel_rfl) (by kernel_rfl) (by decide) (by kernel_rfl) (by kernel_rfl) (fun _ _ _ h => h) (Or.inl ⟨by rfl, ?_⟩) hHeld ?_
      rotate_left
      · (intro wx hSw; obtain ⟨sa, sb⟩ := hSw; obtain ⟨a0, a1, a2, a3, a4, a5, a6, a7, a8, a9, a10, a11⟩ := box12 sa; obtain ⟨c0, c1, c2, c3, c4, c5, c6⟩ := box7 sb; go_simp; try (with_reducible rfl))
      try simp only [Act.put, List.setIfInBounds_toArray, List.set_cons_zero, List.set_cons_succ]
      refine doneT (by kernel_rfl) ?_ _
      refine NoPanic.normal ?_
      clear hHeld
      go_wp2_with fail
      go_meet
      exact ⟨rfl, rB, kq, ka, b⟩
    case rest =>
      obtain ⟨rfl, rB, kq, ka, b⟩ := hcut
      obtain ⟨p0, p1, p2, p3, p4, p5, p6, p7, p8, p9, p10, p11⟩ := box12 kq
      obtain ⟨q0, q1, q2, q3, q4, q5, q6⟩ := box7 ka
      go_wp2_with fail
      refine (HRB.out _ b).mono ?_
      rintro e w4 ⟨A4, N4, c4, rfl, o4, b4⟩
      have r4 := o4.rd
      replace rB := rB.step b4
      clear p0 p1 p2 p3 p4 p5 p6 p7 p8 p9 p10 p11 q0 q1 q2 q3 q4 q5 q6
      replace kq := kq.step b4
      replace ka := ka.step b4
      replace b := below_step b b4
      clear b4 o4
      obtain ⟨p0, p1, p2, p3, p4, p5, p6, p7, p8, p9, p10, p11⟩ := box12 kq
      obtain ⟨q0, q1, q2, q3, q4, q5, q6⟩ := box7 ka
      go_wp2_with fail
      refine (HRS.out w4).mono ?_
      rintro e w5 ⟨rfl, b5⟩
      replace rB := rB.step b5
      replace r4 := r4.step b5
      clear p0 p1 p2 p3 p4 p5 p6 p7 p8 p9 p10 p11 q0 q1 q2 q3 q4 q5 q6
      replace kq := kq.step b5
      replace ka := ka.step b5
      replace b := below_step b b5
      clear b5
      go_wp2_with fail
      go_ret
      exact ⟨rfl, b⟩
set_option maxRecDepth 100000 in
set_option maxHeartbeats 8000000 in
theorem says_k (op : Int) (qt fu : Bool) (bad : Int) (oq fl ex cs dl ini : Nat) (KA : Option Addr) (nk ck : Nat) (VB : Option Addr) (nb cb2 : Nat) (st : Int) (VA : Option Addr) (nv cv af ac an : Nat) (SA : Option Addr) (ns sc : Nat) (cl : Bool) (w : World) (lv : List UInt8) (SL : List (ByteArray × ByteArray)) (sil okv : Bool) (ER : Int) (LB RB : List UInt8) (hnk : nk ≤ 5000 ∧ ns ≤ 40) (hcop : ∀ W, Below w.heap.size w W → Calls Try.prog 23 #[.agg #[.int .i64 st, .slice VA nv cv, .int .u32 (af : Nat), .int .u64 (ac : Nat), .int .u64 (an : Nat), .slice SA ns sc, .bool cl]] W (fun e W' => ∃ A1 c1 A2 c2, e = .returned (.agg #[.int .i64 st, .slice A1 nv c1, .int .u32 (af : Nat), .int .u64 (ac : Nat), .int .u64 (an : Nat), .slice A2 ns c2, .bool cl]) ∧ (Rd W' W'.heap.size A1 nv c1 lv ∧ Rz W' W'.heap.size 2 A2 ns c2 (SL.map stCells).flatten) ∧ Below W.heap.size W W')) (hof : ∀ W A1 c1 A2 c2, Below w.heap.size w W → Rd W W.heap.size A1 nv c1 lv ∧ Rz W W.heap.size 2 A2 ns c2 (SL.map stCells).flatten → Calls Try.prog 22 #[.agg #[.int .i64 op, .bool qt, .bool fu, .int .i64 bad, .int .u32 (oq : Nat), .slice KA nk ck, .slice VB nb cb2, .int .u32 (fl : Nat), .int .u32 (ex : Nat), .int .u64 (cs : Nat), .int .u64 (dl : Nat), .int .u64 (ini : Nat)], .agg #[.int .i64 st, .slice A1 nv c1, .int .u32 (af : Nat), .int .u64 (ac : Nat), .int .u64 (an : Nat), .slice A2 ns c2, .bool cl]] W (fun e W' => ∃ (N : Nat) (A : Option Addr) (c : Nat), e = .returned (.tuple #[.slice A N c, .int .i64 ER]) ∧ Rd W' W'.heap.size A N c LB ∧ Below W.heap.size W W')) (hck : ∀ W A1 c1 A2 c2, Below w.heap.size w W → Rd W W.heap.size A1 nv c1 lv ∧ Rz W W.heap.size 2 A2 ns c2 (SL.map stCells).flatten → Calls Try.prog 25 #[.agg #[.int .i64 op, .bool qt, .bool fu, .int .i64 bad, .int .u32 (oq : Nat), .slice KA nk ck, .slice VB nb cb2, .int .u32 (fl : Nat), .int .u32 (ex : Nat), .int .u64 (cs : Nat), .int .u64 (dl : Nat), .int .u64 (ini : Nat)], .agg #[.int .i64 st, .slice A1 nv c1, .int .u32 (af : Nat), .int .u64 (ac : Nat), .int .u64 (an : Nat), .slice A2 ns c2, .bool cl]] W (BoxQ' (.int .i64 0) W)) (hsi : ∀ W A1 c1 A2 c2, Calls Try.prog 26 #[.agg #[.int .i64 op, .bool qt, .bool fu, .int .i64 bad, .int .u32 (oq : Nat), .slice KA nk ck, .slice VB nb cb2, .int .u32 (fl : Nat), .int .u32 (ex : Nat), .int .u64 (cs : Nat), .int .u64 (dl : Nat), .int .u64 (ini : Nat)], .agg #[.int .i64 st, .slice A1 nv c1, .int .u32 (af : Nat), .int .u64 (ac : Nat), .int .u64 (an : Nat), .slice A2 ns c2, .bool cl]] W (BoxQ' (.bool sil) W)) (hrs : ∀ W, Calls Try.prog 27 #[.agg #[.int .i64 op, .bool qt, .bool fu, .int .i64 bad, .int .u32 (oq : Nat), .slice KA nk ck, .slice VB nb cb2, .int .u32 (fl : Nat), .int .u32 (ex : Nat), .int .u64 (cs : Nat), .int .u64 (dl : Nat), .int .u64 (ini : Nat)], .agg #[.int .i64 st, .slice VA nv cv, .int .u32 (af : Nat), .int .u64 (ac : Nat), .int .u64 (an : Nat), .slice SA ns sc, .bool cl]] W (BoxQ' (.bool sil) W)) (hrt : ∀ W, Below w.heap.size w W → Calls Try.prog 24 #[.agg #[.int .i64 op, .bool qt, .bool fu, .int .i64 bad, .int .u32 (oq : Nat), .slice KA nk ck, .slice VB nb cb2, .int .u32 (fl : Nat), .int .u32 (ex : Nat), .int .u64 (cs : Nat), .int .u64 (dl : Nat), .int .u64 (ini : Nat)], .agg #[.int .i64 st, .slice VA nv cv, .int .u32 (af : Nat), .int .u64 (ac : Nat), .int .u64 (an : Nat), .slice SA ns sc, .bool cl]] W (BoxQ' (.bool true) W)) (hrb : ∀ W, Below w.heap.size w W → Calls Try.prog 28 #[.agg #[.int .i64 op, .bool qt, .bool fu, .int .i64 bad, .int .u32 (oq : Nat), .slice KA nk ck, .slice VB nb cb2, .int .u32 (fl : Nat), .int .u32 (ex : Nat), .int .u64 (cs : Nat), .int .u64 (dl : Nat), .int .u64 (ini : Nat)], .agg #[.int .i64 st, .slice VA nv cv, .int .u32 (af : Nat), .int .u64 (ac : Nat), .int .u64 (an : Nat), .slice SA ns sc, .bool cl]] W (RbQ RB okv W)) (hsil : sil = false) (hok : okv = true) (hER : ER = 0) (hLB : LB = RB) : Calls Try.prog 3 #[.agg #[.int .i64 op, .bool qt, .bool fu, .int .i64 bad, .int .u32 (oq : Nat), .slice KA nk ck, .slice VB nb cb2, .int .u32 (fl : Nat), .int .u32 (ex : Nat), .int .u64 (cs : Nat), .int .u64 (dl : Nat), .int .u64 (ini : Nat)], .agg #[.int .i64 st, .slice VA nv cv, .int .u32 (af : Nat), .int .u64 (ac : Nat), .int .u64 (an : Nat), .slice SA ns sc, .bool cl]] w (fun e w' => e = .returned (.bool true) ∧ Below w.heap.size w w') := by
  have HCO := Lib.hid hcop
  have HOF := Lib.hid hof
  have HCK := Lib.hid hck
  have HSI := Lib.hid hsi
  have HRS := Lib.hid hrs
  have HRT := Lib.hid hrt
  have HRB := Lib.hid hrb
  have HK := Lib.hid hnk
  clear hcop hof hck hsi hrs hrt hrb hnk
  have HWK := Lib.hid (fun W => wakes21 W)
  have HLB := Lib.hid hLB
  have HER := Lib.hid hER
  clear hLB hER
  subst hsil
  subst hok
  have kq := (Blk.new w #[.int .i64 op, .bool qt, .bool fu, .int .i64 bad, .int .u32 (oq : Nat), .slice KA nk ck, .slice VB nb cb2, .int .u32 (fl : Nat), .int .u32 (ex : Nat), .int .u64 (cs : Nat), .int .u64 (dl : Nat), .int .u64 (ini : Nat)] 26).alloc (.cells #[.int .i64 st, .slice VA nv cv, .int .u32 (af : Nat), .int .u64 (ac : Nat), .int .u64 (an : Nat), .slice SA ns sc, .bool cl] 29)
  have ka := Blk.new (w.alloc (.cells #[.int .i64 op, .bool qt, .bool fu, .int .i64 bad, .int .u32 (oq : Nat), .slice KA nk ck, .slice VB nb cb2, .int .u32 (fl : Nat), .int .u32 (ex : Nat), .int .u64 (cs : Nat), .int .u64 (dl : Nat), .int .u64 (ini : Nat)] 26)) #[.int .i64 st, .slice VA nv cv, .int .u32 (af : Nat), .int .u64 (ac : Nat), .int .u64 (an : Nat), .slice SA ns sc, .bool cl] 29
  have b := below_a1' (below_a1' (Below.refl w.heap.size w) (.cells #[.int .i64 op, .bool qt, .bool fu, .int .i64 bad, .int .u32 (oq : Nat), .slice KA nk ck, .slice VB nb cb2, .int .u32 (fl : Nat), .int .u32 (ex : Nat), .int .u64 (cs : Nat), .int .u64 (dl : Nat), .int .u64 (ini : Nat)] 26)) (.cells #[.int .i64 st, .slice VA nv cv, .int .u32 (af : Nat), .int .u64 (ac : Nat), .int .u64 (an : Nat), .slice SA ns sc, .bool cl] 29)
  rw [World.size_alloc] at ka
  go_enter Try.func3, Try.ntmps3
  go_upto_region 1 with fail
  generalize (w.alloc (.cells #[.int .i64 op, .bool qt, .bool fu, .int .i64 bad, .int .u32 (oq : Nat), .slice KA nk ck, .slice VB nb cb2, .int .u32 (fl : Nat), .int .u32 (ex : Nat), .int .u64 (cs : Nat), .int .u64 (dl : Nat), .int .u64 (ini : Nat)] 26)).alloc (.cells #[.int .i64 st, .slice VA nv cv, .int .u32 (af : Nat), .int .u64 (ac : Nat), .int .u64 (an : Nat), .slice SA ns sc, .bool cl] 29) = W0 at kq ka b ⊢
  go_wp2_with fail
  refine (HWK.out W0).mono ?_
  rintro e w1 ⟨rfl, b1⟩
  replace kq := kq.step b1
  replace ka := ka.step b1
  replace b := below_step b b1
  clear b1
  obtain ⟨p0, p1, p2, p3, p4, p5, p6, p7, p8, p9, p10, p11⟩ := box12 kq
  obtain ⟨q0, q1, q2, q3, q4, q5, q6⟩ := box7 ka
  have hk' : ((5000 : Int) < (nk : Int)) = False := eq_false (by have := HK.out; omega)
  have hs' : ((40 : Int) < (ns : Int)) = False := eq_false (by have := HK.out; omega)
  go_upto_region 5 with fail
  clear p0 p1 p2 p3 p4 p5 p6 p7 p8 p9 p10 p11 q0 q1 q2 q3 q4 q5 q6
  clear hk' hs'
  go_cut [5, 6] (fun s5 s6 wx => ∃ A N c, s5 = .slice A N c ∧ s6 = .int .i64 ER ∧ Rd wx wx.heap.size A N c LB ∧ Blk wx w.heap.size #[.int .i64 op, .bool qt, .bool fu, .int .i64 bad, .int .u32 (oq : Nat), .slice KA nk ck, .slice VB nb cb2, .int .u32 (fl : Nat), .int .u32 (ex : Nat), .int .u64 (cs : Nat), .int .u64 (dl : Nat), .int .u64 (ini : Nat)] 26 ∧ Blk wx (w.heap.size + 1) #[.int .i64 st, .slice VA nv cv, .int .u32 (af : Nat), .int .u64 (ac : Nat), .int .u64 (an : Nat), .slice SA ns sc, .bool cl] 29 ∧ Below w.heap.size w wx)
  case first =>
    refine wp_region_noPanic ?_
    refine region_T (fun wx => Blk wx w.heap.size #[.int .i64 op, .bool qt, .bool fu, .int .i64 bad, .int .u32 (oq : Nat), .slice KA nk ck, .slice VB nb cb2, .int .u32 (fl : Nat), .int .u32 (ex : Nat), .int .u64 (cs : Nat), .int .u64 (dl : Nat), .int .u64 (ini : Nat)] 26 ∧ Blk wx (w.heap.size + 1) #[.int .i64 st, .slice VA nv cv, .int .u32 (af : Nat), .int .u64 (ac : Nat), .int .u64 (an : Nat), .slice SA ns sc, .bool cl] 29) 9 (by kernel_rfl) ?_
    have bD : Below w1.heap.size w1 w1.drew := (Below.refl _ _).drew
    replace kq := kq.step bD
    replace ka := ka.step bD
    replace b := below_step b bD
    have hHeld := And.intro kq ka
    clear bD
    generalize w1.drew = Y0 at kq ka b hHeld ⊢
    refine takeT (i := 0) (v := ?_) rfl (by kernel_rfl) (by kernel_rfl) (by decide) (by kernel_rfl) (by kernel_rfl) (fun _ _ _ h => h) (Or.inl ⟨by rfl, ?_⟩) hHeld ?_
    rotate_left
    · (intro wx hSw; obtain ⟨sa, sb⟩ := hSw; obtain ⟨a0, a1, a2, a3, a4, a5, a6, a7, a8, a9, a10, a11⟩ := box12 sa; obtain ⟨c0, c1, c2, c3, c4, c5, c6⟩ := box7 sb; go_simp; try (with_reducible rfl))
    try simp only [Act.put, List.setIfInBounds_toArray, List.set_cons_zero, List.set_cons_succ]
    refine takeT (i := 1) (v := ?_) rfl (by kernel_rfl) (by kernel_rfl) (by decide) (by kernel_rfl) (by kernel_rfl) (fun _ _ _ h => h) (Or.inl ⟨by rfl, ?_⟩) hHeld ?_
    rotate_left
    · (intro wx hSw; obtain ⟨sa, sb⟩ := hSw; obtain ⟨a0, a1, a2, a3, a4, a5, a6, a7, a8, a9, a10, a11⟩ := box12 sa; obtain ⟨c0, c1, c2, c3, c4, c5, c6⟩ := box7 sb; go_simp; try (with_reducible rfl))
    try simp only [Act.put, List.setIfInBounds_toArray, List.set_cons_zero, List.set_cons_succ]
    refine oneT (i := 2) rfl (by kernel_rfl) (fun KK hK => ?_)
    go_simp
    refine (HCO.out Y0 b).mono ?_
    rintro e Y1 ⟨A1, c1, A2, c2, rfl, r12, b2⟩
    clear hHeld
    replace kq := kq.step b2
    replace ka := ka.step b2
    replace b := below_step b b2
    have hHeld := And.intro kq ka
    clear b2
    refine hK.out _ _ (fun _ => hHeld) ?_
    clear hK KK
    try simp only [Act.put, List.setIfInBounds_toArray, List.set_cons_zero, List.set_cons_succ]
    refine oneT (i := 3) rfl (by kernel_rfl) (fun KK hK => ?_)
    go_simp
    refine (HOF.out Y1 A1 c1 A2 c2 b r12).mono ?_
    rintro e Y2 ⟨N3, A3, c3, rfl, r3, b3⟩
    clear hHeld r12
    replace kq := kq.step b3
    replace ka := ka.step b3
    replace b := below_step b b3
    have hHeld := And.intro kq ka
    clear b3
    refine hK.out _ _ (fun _ => hHeld) ?_
    clear hK KK
    try simp only [Act.put, List.setIfInBounds_toArray, List.set_cons_zero, List.set_cons_succ]
    refine takeT (i := 4) (v := ?_) rfl (by kernel_rfl) (by kernel_rfl) (by decide) (by kernel_rfl) (by kernel_rfl) (fun _ _ _ h => h) (Or.inl ⟨by rfl, ?_⟩) hHeld ?_
    rotate_left
    · (intro wx hSw; obtain ⟨sa, sb⟩ := hSw; obtain ⟨a0, a1, a2, a3, a4, a5, a6, a7, a8, a9, a10, a11⟩ := box12 sa; obtain ⟨c0, c1, c2, c3, c4, c5, c6⟩ := box7 sb; go_simp; try (with_reducible rfl))
    try simp only [Act.put, List.setIfInBounds_toArray, List.set_cons_zero, List.set_cons_succ]
    refine takeT (i := 5) (v := ?_) rfl (by kernel_rfl) (by kernel_rfl) (by decide) (by kernel_rfl) (by kernel_rfl) (fun _ _ _ h => h) (Or.inl ⟨by rfl, ?_⟩) hHeld ?_
    rotate_left
    · (intro wx hSw; obtain ⟨sa, sb⟩ := hSw; obtain ⟨a0, a1, a2, a3, a4, a5, a6, a7, a8, a9, a10, a11⟩ := box12 sa; obtain ⟨c0, c1, c2, c3, c4, c5, c6⟩ := box7 sb; go_simp; try (with_reducible rfl))
    try simp only [Act.put, List.setIfInBounds_toArray, List.set_cons_zero, List.set_cons_succ]
    refine takeT (i := 6) (v := ?_) rfl (by kernel_rfl) (by kernel_rfl) (by decide) (by kernel_rfl) (by kernel_rfl) (fun _ _ _ h => h) (Or.inl ⟨by rfl, ?_⟩) hHeld ?_
    rotate_left
    · (intro wx hSw; obtain ⟨sa, sb⟩ := hSw; obtain ⟨a0, a1, a2, a3, a4, a5, a6, a7, a8, a9, a10, a11⟩ := box12 sa; obtain ⟨c0, c1, c2, c3, c4, c5, c6⟩ := box7 sb; go_simp; try (with_reducible rfl))
    try simp only [Act.put, List.setIfInBounds_toArray, List.set_cons_zero, List.set_cons_succ]
    refine takeT (i := 7) (v := ?_) rfl (by kernel_rfl) (by kernel_rfl) (by decide) (by kernel_rfl) (by kernel_rfl) (fun _ _ _ h => h) (Or.inl ⟨by rfl, ?_⟩) hHeld ?_
    rotate_left
    · (intro wx hSw; obtain ⟨sa, sb⟩ := hSw; obtain ⟨a0, a1, a2, a3, a4, a5, a6, a7, a8, a9, a10, a11⟩ := box12 sa; obtain ⟨c0, c1, c2, c3, c4, c5, c6⟩ := box7 sb; go_simp; try (with_reducible rfl))
    try simp only [Act.put, List.setIfInBounds_toArray, List.set_cons_zero, List.set_cons_succ]
    refine takeT (i := 8) (v := ?_) rfl (by kernel_rfl) (by kernel_rfl) (by decide) (by kernel_rfl) (by kernel_rfl) (fun _ _ _ h => h) (Or.inl ⟨by rfl, ?_⟩) hHeld ?_
    rotate_left
    · (intro wx hSw; obtain ⟨sa, sb⟩ := hSw; obtain ⟨a0, a1, a2, a3, a4, a5, a6, a7, a8, a9, a10, a11⟩ := box12 sa; obtain ⟨c0, c1, c2, c3, c4, c5, c6⟩ := box7 sb; go_simp; try (with_reducible rfl))
    try simp only [Act.put, List.setIfInBounds_toArray, List.set_cons_zero, List.set_cons_succ]
    refine doneT (by kernel_rfl) ?_ _
    refine NoPanic.normal ?_
    clear hHeld
    go_wp2_with fail
    go_meet
    exact ⟨A3, N3, c3, rfl, rfl, r3, kq, ka, b⟩
  case rest =>
    obtain ⟨A, N, c, rfl, rfl, rB, kq, ka, b⟩ := hcut
    obtain ⟨p0, p1, p2, p3, p4, p5, p6, p7, p8, p9, p10, p11⟩ := box12 kq
    obtain ⟨q0, q1, q2, q3, q4, q5, q6⟩ := box7 ka
    go_wp2_with fail
    refine (HRT.out wc b).mono ?_
    rintro e w2 ⟨rfl, b2⟩
    replace rB := rB.step b2
    clear p0 p1 p2 p3 p4 p5 p6 p7 p8 p9 p10 p11 q0 q1 q2 q3 q4 q5 q6
    replace kq := kq.step b2
    replace ka := ka.step b2
    replace b := below_step b b2
    clear b2
    go_upto_region 7 with fail
    go_cut [48] (fun s48 wx => s48 = .bool false ∧ Rd wx wx.heap.size A N c LB ∧ Blk wx w.heap.size #[.int .i64 op, .bool qt, .bool fu, .int .i64 bad, .int .u32 (oq : Nat), .slice KA nk ck, .slice VB nb cb2, .int .u32 (fl : Nat), .int .u32 (ex : Nat), .int .u64 (cs : Nat), .int .u64 (dl : Nat), .int .u64 (ini : Nat)] 26 ∧ Blk wx (w.heap.size + 1) #[.int .i64 st, .slice VA nv cv, .int .u32 (af : Nat), .int .u64 (ac : Nat), .int .u64 (an : Nat), .slice SA ns sc, .bool cl] 29 ∧ Below w.heap.size w wx)
    case first =>
      refine wp_region_noPanic ?_
      refine region_T (fun wx => Blk wx w.heap.size #[.int .i64 op, .bool qt, .bool fu, .int .i64 bad, .int .u32 (oq : Nat), .slice KA nk ck, .slice VB nb cb2, .int .u32 (fl : Nat), .int .u32 (ex : Nat), .int .u64 (cs : Nat), .int .u64 (dl : Nat), .int .u64 (ini : Nat)] 26 ∧ Blk wx (w.heap.size + 1) #[.int .i64 st, .slice VA nv cv, .int .u32 (af : Nat), .int .u64 (ac : Nat), .int .u64 (an : Nat), .slice SA ns sc, .bool cl] 29) 17 (by kernel_rfl) ?_
      have bD : Below w2.heap.size w2 w2.drew := (Below.refl _ _).drew
      replace rB := rB.step bD
      replace kq := kq.step bD
      replace ka := ka.step bD
      replace b := below_step b bD
      have hHeld := And.intro kq ka
      clear bD
      generalize w2.drew = Y0 at rB kq ka b hHeld ⊢
      refine takeT (i := 0) (v := ?_) rfl (by kernel_rfl) (by kernel_rfl) (by decide) (by kernel_rfl) (by kernel_rfl) (fun _ _ _ h => h) (Or.inl ⟨by rfl, ?_⟩) hHeld ?_
      rotate_left
      · (intro wx hSw; obtain ⟨sa, sb⟩ := hSw; obtain ⟨a0, a1, a2, a3, a4, a5, a6, a7, a8, a9, a10, a11⟩ := box12 sa; obtain ⟨c0, c1, c2, c3, c4, c5, c6⟩ := box7 sb; go_simp; try (with_reducible rfl))
      try simp only [Act.put, List.setIfInBounds_toArray, List.set_cons_zero, List.set_cons_succ]
      refine takeT (i := 1) (v := ?_) rfl (by kernel_rfl) (by kernel_rfl) (by decide) (by kernel_rfl) (by kernel_rfl) (fun _ _ _ h => h) (Or.inl ⟨by rfl, ?_⟩) hHeld ?_
      rotate_left
      · (intro wx hSw; obtain ⟨sa, sb⟩ := hSw; obtain ⟨a0, a1, a2, a3, a4, a5, a6, a7, a8, a9, a10, a11⟩ := box12 sa; obtain ⟨c0, c1, c2, c3, c4, c5, c6⟩ := box7 sb; go_simp; try (with_reducible rfl))
      try simp only [Act.put, List.setIfInBounds_toArray, List.set_cons_zero, List.set_cons_succ]
      refine takeT (i := 5) (v := ?_) rfl (by kernel_rfl) (by kernel_rfl) (by decide) (by kernel_rfl) (by kernel_rfl) (fun _ _ _ h => h) (Or.inl ⟨by rfl, ?_⟩) hHeld ?_
      rotate_left
      · (intro wx hSw; obtain ⟨sa, sb⟩ := hSw; obtain ⟨a0, a1, a2, a3, a4, a5, a6, a7, a8, a9, a10, a11⟩ := box12 sa; obtain ⟨c0, c1, c2, c3, c4, c5, c6⟩ := box7 sb; go_simp; try (with_reducible rfl))
      try simp only [Act.put, List.setIfInBounds_toArray, List.set_cons_zero, List.set_cons_succ]
      refine oneT (i := 2) rfl (by kernel_rfl) (fun KK hK => ?_)
      go_simp
      refine (HCO.out Y0 b).mono ?_
      rintro e Y1 ⟨A1, c1, A2, c2, rfl, r12, b2⟩
      clear hHeld
      replace rB := rB.step b2
      replace kq := kq.step b2
      replace ka := ka.step b2
      replace b := below_step b b2
      have hHeld := And.intro kq ka
      clear b2
      refine hK.out _ _ (fun _ => hHeld) ?_
      clear hK KK
      try simp only [Act.put, List.setIfInBounds_toArray, List.set_cons_zero, List.set_cons_succ]
      refine oneT (i := 3) rfl (by kernel_rfl) (fun KK hK => ?_)
      go_simp
      refine (HCK.out Y1 A1 c1 A2 c2 b r12).mono ?_
      rintro e Y2 ⟨rfl, b2⟩
      clear hHeld r12
      replace rB := rB.step b2
      replace kq := kq.step b2
      replace ka := ka.step b2
      replace b := below_step b b2
      have hHeld := And.intro kq ka
      clear b2
      refine hK.out _ _ (fun _ => hHeld) ?_
      clear hK KK
      try simp only [Act.put, List.setIfInBounds_toArray, List.set_cons_zero, List.set_cons_succ]
      refine takeT (i := 4) (v := ?_) rfl (by kernel_rfl) (by kernel_rfl) (by decide) (by kernel_rfl) (by kernel_rfl) (fun _ _ _ h => h) (Or.inl ⟨by rfl, ?_⟩) hHeld ?_
      rotate_left
      · (intro wx hSw; obtain ⟨sa, sb⟩ := hSw; obtain ⟨a0, a1, a2, a3, a4, a5, a6, a7, a8, a9, a10, a11⟩ := box12 sa; obtain ⟨c0, c1, c2, c3, c4, c5, c6⟩ := box7 sb; go_simp; try (with_reducible rfl))
      try simp only [Act.put, List.setIfInBounds_toArray, List.set_cons_zero, List.set_cons_succ]
      refine takeT (i := 6) (v := ?_) rfl (by kernel_rfl) (by kernel_rfl) (by decide) (by kernel_rfl) (by kernel_rfl) (fun _ _ _ h => h) (Or.inl ⟨by rfl, ?_⟩) hHeld ?_
      rotate_left
      · (intro wx hSw; obtain ⟨sa, sb⟩ := hSw; obtain ⟨a0, a1, a2, a3, a4, a5, a6, a7, a8, a9, a10, a11⟩ := box12 sa; obtain ⟨c0, c1, c2, c3, c4, c5, c6⟩ := box7 sb; go_simp; try (with_reducible rfl))
      try simp only [Act.put, List.setIfInBounds_toArray, List.set_cons_zero, List.set_cons_succ]
      refine takeT (i := 7) (v := ?_) rfl (by kernel_rfl) (by kernel_rfl) (by decide) (by kernel_rfl) (by kernel_rfl) (fun _ _ _ h => h) (Or.inl ⟨by rfl, ?_⟩) hHeld ?_
      rotate_left
      · (intro wx hSw; obtain ⟨sa, sb⟩ := hSw; obtain ⟨a0, a1, a2, a3, a4, a5, a6, a7, a8, a9, a10, a11⟩ := box12 sa; obtain ⟨c0, c1, c2, c3, c4, c5, c6⟩ := box7 sb; go_simp; try (with_reducible rfl))
      try simp only [Act.put, List.setIfInBounds_toArray, List.set_cons_zero, List.set_cons_succ]
      refine takeT (i := 8) (v := ?_) rfl (by kernel_rfl) (by kernel_rfl) (by decide) (by kernel_rfl) (by kernel_rfl) (fun _ _ _ h => h) (Or.inl ⟨by rfl, ?_⟩) hHeld ?_
      rotate_left
      · (intro wx hSw; obtain ⟨sa, sb⟩ := hSw; obtain ⟨a0, a1, a2, a3, a4, a5, a6, a7, a8, a9, a10, a11⟩ := box12 sa; obtain ⟨c0, c1, c2, c3, c4, c5, c6⟩ := box7 sb; go_simp; try (with_reducible rfl))
      try simp only [Act.put, List.setIfInBounds_toArray, List.set_cons_zero, List.set_cons_succ]
      refine takeT (i := 9) (v := ?_) rfl (by kernel_rfl) (by kernel_rfl) (by decide) (by kernel_rfl) (by kernel_rfl) (fun _ _ _ h => h) (Or.inl ⟨by rfl, ?_⟩) hHeld ?_
      rotate_left
      · (intro wx hSw; obtain ⟨sa, sb⟩ := hSw; obtain ⟨a0, a1, a2, a3, a4, a5, a6, a7, a8, a9, a10, a11⟩ := box12 sa; obtain ⟨c0, c1, c2, c3, c4, c5, c6⟩ := box7 sb; go_simp; try (with_reducible rfl))
      try simp only [Act.put, List.setIfInBounds_toArray, List.set_cons_zero, List.set_cons_succ]
      refine takeT (i := 12) (v := ?_) rfl (by kernel_rfl) (by kernel_rfl) (by decide) (by kernel_rfl) (by kernel_rfl) (fun _ _ _ h => h) (Or.inl ⟨by rfl, ?_⟩) hHeld ?_
      rotate_left
      · (intro wx hSw; obtain ⟨sa, sb⟩ := hSw; obtain ⟨a0, a1, a2, a3, a4, a5, a6, a7, a8, a9, a10, a11⟩ := box12 sa; obtain ⟨c0, c1, c2, c3, c4, c5, c6⟩ := box7 sb; go_simp; try (with_reducible rfl))
      try simp only [Act.put, List.setIfInBounds_toArray, List.set_cons_zero, List.set_cons_succ]
      refine takeT (i := 13) (v := ?_) rfl (by kernel_rfl) (by kernel_rfl) (by decide) (by kernel_rfl) (by kernel_rfl) (fun _ _ _ h => h) (Or.inl ⟨by rfl, ?_⟩) hHeld ?_
      rotate_left
      · (intro wx hSw; obtain ⟨sa, sb⟩ := hSw; obtain ⟨a0, a1, a2, a3, a4, a5, a6, a7, a8, a9, a10, a11⟩ := box12 sa; obtain ⟨c0, c1, c2, c3, c4, c5, c6⟩ := box7 sb; go_simp; try (with_reducible rfl))
      try simp only [Act.put, List.setIfInBounds_toArray, List.set_cons_zero, List.set_cons_succ]
      refine oneT (i := 10) rfl (by kernel_rfl) (fun KK hK => ?_)
      go_simp
      refine (HCO.out Y2 b).mono ?_
      rintro e Y3 ⟨A1, c1, A2, c2, rfl, r12, b2⟩
      clear hHeld
      replace rB := rB.step b2
      replace kq := kq.step b2
      replace ka := ka.step b2
      replace b := below_step b b2
      have hHeld := And.intro kq ka
      clear b2
      refine hK.out _ _ (fun _ => hHeld) ?_
      clear hK KK
      try simp only [Act.put, List.setIfInBounds_toArray, List.set_cons_zero, List.set_cons_succ]
      refine oneT (i := 11) rfl (by kernel_rfl) (fun KK hK => ?_)
      go_simp
      refine (HSI.out Y3 A1 c1 A2 c2).mono ?_
      rintro e Y4 ⟨rfl, b2⟩
      clear hHeld r12
      replace rB := rB.step b2
      replace kq := kq.step b2
      replace ka := ka.step b2
      replace b := below_step b b2
      have hHeld := And.intro kq ka
      clear b2
      refine hK.out _ _ (fun _ => hHeld) ?_
      clear hK KK
      try simp only [Act.put, List.setIfInBounds_toArray, List.set_cons_zero, List.set_cons_succ]
      refine oneT (i := 14) rfl (by kernel_rfl) (fun KK hK => ?_)
      go_simp
      refine (HRS.out Y4).mono ?_
      rintro e Y5 ⟨rfl, b2⟩
      clear hHeld
      replace rB := rB.step b2
      replace kq := kq.step b2
      replace ka := ka.step b2
      replace b := below_step b b2
      have hHeld := And.intro kq ka
      clear b2
      refine hK.out _ _ (fun _ => hHeld) ?_
      clear hK KK
      try simp only [Act.put, List.setIfInBounds_toArray, List.set_cons_zero, List.set_cons_succ]
      refine takeT (i := 15) (v := ?_) rfl (by kernel_rfl) (by kernel_rfl) (by decide) (by kernel_rfl) (by kernel_rfl) (fun _ _ _ h => h) (Or.inl ⟨by rfl, ?_⟩) hHeld ?_
      rotate_left
      · (intro wx hSw; obtain ⟨sa, sb⟩ := hSw; obtain ⟨a0, a1, a2, a3, a4, a5, a6, a7, a8, a9, a10, a11⟩ := box12 sa; obtain ⟨c0, c1, c2, c3, c4, c5, c6⟩ := box7 sb; go_simp; try (with_reducible rfl))
      try simp only [Act.put, List.setIfInBounds_toArray, List.set_cons_zero, List.set_cons_succ]
      refine takeT (i := 16) (v := ?_) rfl (by kernel_rfl) (by kernel_rfl) (by decide) (by kernel_rfl) (by kernel_rfl) (fun _ _ _ h => h) (Or.inl ⟨by rfl, ?_⟩) hHeld ?_
      rotate_left
      · (intro wx hSw; obtain ⟨sa, sb⟩ := hSw; obtain ⟨a0, a1, a2, a3, a4, a5, a6, a7, a8, a9, a10, a11⟩ := box12 sa; obtain ⟨c0, c1, c2, c3, c4, c5, c6⟩ := box7 sb; go_simp; try (with_reducible rfl))
      try simp only [Act.put, List.setIfInBounds_toArray, List.set_cons_zero, List.set_cons_succ]
      refine doneT (by kernel_rfl) ?_ _
      refine NoPanic.normal ?_
      clear hHeld
      go_wp2_with fail
      go_meet
      exact ⟨rfl, rB, kq, ka, b⟩
    case rest =>
      obtain ⟨rfl, rB, kq, ka, b⟩ := hcut
      obtain ⟨p0, p1, p2, p3, p4, p5, p6, p7, p8, p9, p10, p11⟩ := box12 kq
      obtain ⟨q0, q1, q2, q3, q4, q5, q6⟩ := box7 ka
      go_wp2_with fail
      refine (HRB.out _ b).mono ?_
      rintro e w4 ⟨A4, N4, c4, rfl, o4, b4⟩
      have r4 := o4.rd
      replace rB := rB.step b4
      clear p0 p1 p2 p3 p4 p5 p6 p7 p8 p9 p10 p11 q0 q1 q2 q3 q4 q5 q6
      replace kq := kq.step b4
      replace ka := ka.step b4
      replace b := below_step b b4
      clear b4 o4
      rw [HER.out]
      obtain ⟨p0, p1, p2, p3, p4, p5, p6, p7, p8, p9, p10, p11⟩ := box12 kq
      obtain ⟨q0, q1, q2, q3, q4, q5, q6⟩ := box7 ka
      go_wp2_with fail
      refine (HRS.out w4).mono ?_
      rintro e w5 ⟨rfl, b5⟩
      replace rB := rB.step b5
      replace r4 := r4.step b5
      clear p0 p1 p2 p3 p4 p5 p6 p7 p8 p9 p10 p11 q0 q1 q2 q3 q4 q5 q6
      replace kq := kq.step b5
      replace ka := ka.step b5
      replace b := below_step b b5
      clear b5
      have HS := Lib.hid (same_any A A4 N c N4 c4 w5.heap.size LB RB w5 rB r4)
      have he : eqB LB RB = true := decide_eq_true HLB.out
      rw [he] at HS
      clear he rB r4
      go_wp2_with fail
      refine HS.out.mono ?_
      rintro e w6 ⟨rfl, hq⟩
      have b6 := quiet_self hq
      replace b := below_step b b6
      go_wp2_with fail
      go_ret
      exact ⟨rfl, b⟩
end Go.Proofs.Ytnghmgbmflcngaa

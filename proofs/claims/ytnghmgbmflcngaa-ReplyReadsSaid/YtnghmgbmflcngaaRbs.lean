/- icehouseref21.Bytes of a stat. Conditions: typed in each theorem. -/
import Derived.Test.YtnghmgbmflcngaaRb21
namespace Go.Proofs.Ytnghmgbmflcngaa
set_option linter.unusedVariables false
open Go.RowKit

theorem rspB_snoc (cb oq : Nat) (Ps : List SP) (p : SP) : rspB cb oq (Ps ++ [p]) = rspB cb oq Ps ++ p.rbytes cb oq := by
  unfold rspB
  simp
def RbI (F : Nat → List UInt8) (g : Nat) (rq an : Array Value) (j : Nat) (A : Option Addr) (N c : Nat) (w wr : World) : Prop := Own wr (g + 2) A N c (F j) ∧ N ≤ 5000000 * j ∧ Blk wr g rq 26 ∧ Blk wr (g + 1) an 29 ∧ Below g w wr
set_option maxRecDepth 100000 in
set_option maxHeartbeats 8000000 in
theorem rb_stat (op : Int) (qt fu : Bool) (bad : Int) (oq : Nat) (hoq : oq < 4294967296) (KA : Option Addr) (nk ck : Nat) (VQ : Value) (fl ex cs dl ini : Nat) (st : Int) (VA : Option Addr) (nv cv af ac an : Nat) (SA : Option Addr) (ns sc : Nat) (SL : List (ByteArray × ByteArray)) (cl : Bool) (w : World) (rS : Rz w w.heap.size 2 SA ns sc (SL.map stCells).flatten) (hsl : SL.length = ns) (hns : ns ≤ 1000) (hsz : ∀ p ∈ SL, p.1.size ≤ 2000000 ∧ p.2.size ≤ 2000000) (hst : st = 0) (h16 : op = 16) : Calls Try.prog 28 #[reqV op qt fu bad oq (.slice KA nk ck) VQ fl ex cs dl ini, ansV st (.slice VA nv cv) af ac an (.slice SA ns sc) cl] w (RbQ (rspB (codeB op qt fu) oq (SL.map statSP ++ [⟨0, 0, [], [], []⟩])) true w) := by
  have HRS := Lib.hid rS
  have HNS := Lib.hid hns
  have HSZ := Lib.hid hsz
  have e0 : (st != 0) = false := bne_eq_false_iff_eq.2 hst
  have f0 : (op == 0) = false := beq_eq_false_iff_ne.2 (by omega)
  have f29 : (op == 29) = false := beq_eq_false_iff_ne.2 (by omega)
  have f5 : (op == 5) = false := beq_eq_false_iff_ne.2 (by omega)
  have f6 : (op == 6) = false := beq_eq_false_iff_ne.2 (by omega)
  have f11 : (op == 11) = false := beq_eq_false_iff_ne.2 (by omega)
  have f16 : (op != 16) = false := bne_eq_false_iff_eq.2 h16
  have HFR : Hid (∀ (p : SP) (X K V : Option Addr) (nx cx nk2 ck2 nv2 cv2 : Nat) (W : World), p.cas < 18446744073709551616 → nx + nk2 + nv2 ≤ 140737488355000 → Rd W W.heap.size X nx cx p.lx → Rd W W.heap.size K nk2 ck2 p.lk → Rd W W.heap.size V nv2 cv2 p.lv → Calls Try.prog 80 #[.agg #[.int .i64 op, .bool qt, .bool fu, .int .i64 bad, .int .u32 (oq : Nat), .slice KA nk ck, VQ, .int .u32 (fl : Nat), .int .u32 (ex : Nat), .int .u64 (cs : Nat), .int .u64 (dl : Nat), .int .u64 (ini : Nat)], .int .i64 p.st, .int .u64 (p.cas : Nat), .agg #[.slice X nx cx, .slice K nk2 ck2, .slice V nv2 cv2]] W (FrBQ (24 + nx + (nk2 + nv2)) (p.rbytes (codeB op qt fu) oq) W)) := Lib.hid (fun p X K V nx cx nk2 ck2 nv2 cv2 W h0 h1 h2 h3 h4 => rframe21p op qt fu bad oq hoq (.slice KA nk ck) VQ fl ex cs dl ini p h0 X K V nx cx nk2 ck2 nv2 cv2 h1 W h2 h3 h4)
  generalize codeB op qt fu = cb at HFR ⊢
  obtain ⟨F, hF⟩ : ∃ F : Nat → List UInt8, F = fun j => rspB cb oq ((SL.take j).map statSP) := ⟨_, rfl⟩
  have HF0 : Hid (F 0 = []) := Lib.hid (by subst hF; simp [rspB])
  have HFS : Hid (∀ j p, SL[j]? = some p → F j ++ (statSP p).rbytes cb oq = F (j + 1)) := Lib.hid (fun j p h => by subst hF; show rspB cb oq _ ++ _ = rspB cb oq _; rw [List.take_add_one, h, List.map_append, ← rspB_snoc]; rfl)
  have HFE : Hid (F ns ++ (⟨0, 0, [], [], []⟩ : SP).rbytes cb oq = rspB cb oq (SL.map statSP ++ [⟨0, 0, [], [], []⟩])) := Lib.hid (by subst hF; show rspB cb oq _ ++ _ = _; rw [← rspB_snoc, List.take_of_length_le (by omega)])
  generalize rspB cb oq (SL.map statSP ++ [⟨0, 0, [], [], []⟩]) = R at HFE ⊢
  clear hF rS hsl hns hsz hst h16 hoq
  have kq := (Blk.new w #[.int .i64 op, .bool qt, .bool fu, .int .i64 bad, .int .u32 (oq : Nat), .slice KA nk ck, VQ, .int .u32 (fl : Nat), .int .u32 (ex : Nat), .int .u64 (cs : Nat), .int .u64 (dl : Nat), .int .u64 (ini : Nat)] 26).alloc (.cells #[.int .i64 st, .slice VA nv cv, .int .u32 (af : Nat), .int .u64 (ac : Nat), .int .u64 (an : Nat), .slice SA ns sc, .bool cl] 29)
  have ka := Blk.new (w.alloc (.cells #[.int .i64 op, .bool qt, .bool fu, .int .i64 bad, .int .u32 (oq : Nat), .slice KA nk ck, VQ, .int .u32 (fl : Nat), .int .u32 (ex : Nat), .int .u64 (cs : Nat), .int .u64 (dl : Nat), .int .u64 (ini : Nat)] 26)) #[.int .i64 st, .slice VA nv cv, .int .u32 (af : Nat), .int .u64 (ac : Nat), .int .u64 (an : Nat), .slice SA ns sc, .bool cl] 29
  have b := below_a1' (below_a1' (Below.refl w.heap.size w) (.cells #[.int .i64 op, .bool qt, .bool fu, .int .i64 bad, .int .u32 (oq : Nat), .slice KA nk ck, VQ, .int .u32 (fl : Nat), .int .u32 (ex : Nat), .int .u64 (cs : Nat), .int .u64 (dl : Nat), .int .u64 (ini : Nat)] 26)) (.cells #[.int .i64 st, .slice VA nv cv, .int .u32 (af : Nat), .int .u64 (ac : Nat), .int .u64 (an : Nat), .slice SA ns sc, .bool cl] 29)
  rw [World.size_alloc] at ka
  unfold reqV ansV
  go_enter Try.func28, Try.ntmps28
  go_upto_region 1 with fail
  generalize (w.alloc (.cells #[.int .i64 op, .bool qt, .bool fu, .int .i64 bad, .int .u32 (oq : Nat), .slice KA nk ck, VQ, .int .u32 (fl : Nat), .int .u32 (ex : Nat), .int .u64 (cs : Nat), .int .u64 (dl : Nat), .int .u64 (ini : Nat)] 26)).alloc (.cells #[.int .i64 st, .slice VA nv cv, .int .u32 (af : Nat), .int .u64 (ac : Nat), .int .u64 (an : Nat), .slice SA ns sc, .bool cl] 29) = W0 at kq ka b ⊢
  obtain ⟨p0, p1, p2, p3, p4, p5, p6, p7, p8, p9, p10, p11⟩ := box12 kq
  obtain ⟨q0, q1, q2, q3, q4, q5, q6⟩ := box7 ka
  go_upto_region 14 with fail
  clear p0 p1 p2 p3 p4 p5 p6 p7 p8 p9 p10 p11 q0 q1 q2 q3 q4 q5 q6
  have hI0 : RbI F w.heap.size #[.int .i64 op, .bool qt, .bool fu, .int .i64 bad, .int .u32 (oq : Nat), .slice KA nk ck, VQ, .int .u32 (fl : Nat), .int .u32 (ex : Nat), .int .u64 (cs : Nat), .int .u64 (dl : Nat), .int .u64 (ini : Nat)] #[.int .i64 st, .slice VA nv cv, .int .u32 (af : Nat), .int .u64 (ac : Nat), .int .u64 (an : Nat), .slice SA ns sc, .bool cl] 0 none 0 0 w W0 := ⟨by rw [HF0.out]; exact Own.nil _ _, Nat.le_refl _, kq, ka, b⟩
  clear kq ka b
  go_wp2_with fail
  go_loopw [7, 8] (fun s7 s8 wr => ∃ (j : Nat) (A : Option Addr) (N c : Nat), j ≤ ns ∧ s8 = .int .i64 (j : Nat) ∧ s7 = .slice A N c ∧ RbI F w.heap.size #[.int .i64 op, .bool qt, .bool fu, .int .i64 bad, .int .u32 (oq : Nat), .slice KA nk ck, VQ, .int .u32 (fl : Nat), .int .u32 (ex : Nat), .int .u64 (cs : Nat), .int .u64 (dl : Nat), .int .u64 (ini : Nat)] #[.int .i64 st, .slice VA nv cv, .int .u32 (af : Nat), .int .u64 (ac : Nat), .int .u64 (an : Nat), .slice SA ns sc, .bool cl] j A N c w wr) (fun _ s8 _ => ns - (intOf s8).toNat)
  case atStart => exact ⟨0, none, 0, 0, Nat.zero_le _, rfl, rfl, hI0⟩
  case round =>
    clear hI0
    obtain ⟨j, A, N, c, hj, rfl, rfl, o1, hN, kq, ka, b⟩ := hrel
    obtain ⟨q0, q1, q2, q3, q4, q5, q6⟩ := box7 ka
    by_cases hlt : j < ns
    · obtain ⟨ad, p, hA, hp, h0, h1⟩ := stat_at (HRS.out.below b) (j := j) hlt
      have had : ad.block < w.heap.size := by
        obtain ⟨ad', hA', hb', -⟩ := Rz.elem HRS.out (i := j) hlt
        obtain rfl : ad' = ad := by rw [hA] at hA'; injection hA' with e; exact e.symm
        exact hb'
      subst hA
      have HLT : Hid (j + 1 ≤ ns) := Lib.hid (by omega)
      have HNN : Hid (N ≤ 5000000 * j ∧ j < 1000) := Lib.hid ⟨hN, by have := HNS.out; omega⟩
      have hJP : IntKind.i64.wrap ((j : Int) + 1) = (j : Int) + 1 := IntWalk.i64_in _ (by have := HNS.out; omega)
      have HJP := Lib.hid hJP
      have hlt' : ((j : Int) < (ns : Int)) = True := eq_true (by omega)
      have hpz := HSZ.out p (List.mem_of_getElem? hp)
      have HFN := Lib.hid (HFS.out j p hp)
      obtain ⟨s1, s2⟩ := p
      simp only at h0 h1 hpz
      have HZ := Lib.hid hpz
      clear hp hpz hN hj
      have HCE : Hid (∀ W, Below wr.heap.size wr W → W.cell? (ad.add (j * 2)) = some (.string s1) ∧ W.cell? {block := (ad.add (j * 2)).block, off := (ad.add (j * 2)).off + 1} = some (.string s2)) := Lib.hid (fun W bW => ⟨(bW.cell (p := ad.add (j * 2)) (by rw [block_add]; have := b.size; omega)).trans h0, (bW.cell (p := {block := (ad.add (j * 2)).block, off := (ad.add (j * 2)).off + 1}) (by show (ad.add (j * 2)).block < _; rw [block_add]; have := b.size; omega)).trans h1⟩)
      have hlt0 := hlt
      clear h0 h1
      go_upto_region 18 with fail
      clear q0 q1 q2 q3 q4 q5 q6
      have hI : Hid (Own wr (w.heap.size + 2) A N c (F j)) := Lib.hid o1
      clear o1
      refine wp_region_noPanic ?_
      refine region_T (fun wx => Blk wx w.heap.size #[.int .i64 op, .bool qt, .bool fu, .int .i64 bad, .int .u32 (oq : Nat), .slice KA nk ck, VQ, .int .u32 (fl : Nat), .int .u32 (ex : Nat), .int .u64 (cs : Nat), .int .u64 (dl : Nat), .int .u64 (ini : Nat)] 26 ∧ Blk wx (w.heap.size + 1) #[.int .i64 st, .slice VA nv cv, .int .u32 (af : Nat), .int .u64 (ac : Nat), .int .u64 (an : Nat), .slice (some ad) ns sc, .bool cl] 29 ∧ wx.cell? (ad.add (j * 2)) = some (.string s1) ∧ wx.cell? {block := (ad.add (j * 2)).block, off := (ad.add (j * 2)).off + 1} = some (.string s2)) 20 (by kernel_rfl) ?_
      have bD : Below wr.heap.size wr wr.drew := (Below.refl _ _).drew
      have bw := bD
      replace kq := kq.step bD
      replace ka := ka.step bD
      replace b := below_step b bD
      have hHeld := And.intro kq (And.intro ka (HCE.out _ bw))
      clear bD
      generalize wr.drew = Y0 at kq ka b bw hHeld ⊢
      refine takeT (i := 0) (v := ?_) rfl (by kernel_rfl) (by kernel_rfl) (by decide) (by kernel_rfl) (by kernel_rfl) (fun _ _ _ h => h) (Or.inl ⟨by rfl, ?_⟩) hHeld ?_
      rotate_left
      · (intro wx hSw; obtain ⟨sa, sb, d0, d1⟩ := hSw; obtain ⟨a0, a1, a2, a3, a4, a5, a6, a7, a8, a9, a10, a11⟩ := box12 sa; obtain ⟨c0, c1, c2, c3, c4, c5, c6⟩ := box7 sb; go_simp; try (with_reducible rfl))
      try simp only [Act.put, List.setIfInBounds_toArray, List.set_cons_zero, List.set_cons_succ]
      refine takeT (i := 1) (v := ?_) rfl (by kernel_rfl) (by kernel_rfl) (by decide) (by kernel_rfl) (by kernel_rfl) (fun _ _ _ h => h) (Or.inl ⟨by rfl, ?_⟩) hHeld ?_
      rotate_left
      · (intro wx hSw; obtain ⟨sa, sb, d0, d1⟩ := hSw; obtain ⟨a0, a1, a2, a3, a4, a5, a6, a7, a8, a9, a10, a11⟩ := box12 sa; obtain ⟨c0, c1, c2, c3, c4, c5, c6⟩ := box7 sb; go_simp; try (with_reducible rfl))
      try simp only [Act.put, List.setIfInBounds_toArray, List.set_cons_zero, List.set_cons_succ]
      refine takeT (i := 2) (v := ?_) rfl (by kernel_rfl) (by kernel_rfl) (by decide) (by kernel_rfl) (by kernel_rfl) (fun _ _ _ h => h) (Or.inl ⟨by rfl, ?_⟩) hHeld ?_
      rotate_left
      · (intro wx hSw; obtain ⟨sa, sb, d0, d1⟩ := hSw; obtain ⟨a0, a1, a2, a3, a4, a5, a6, a7, a8, a9, a10, a11⟩ := box12 sa; obtain ⟨c0, c1, c2, c3, c4, c5, c6⟩ := box7 sb; go_simp; try (with_reducible rfl))
      try simp only [Act.put, List.setIfInBounds_toArray, List.set_cons_zero, List.set_cons_succ]
      refine takeT (i := 3) (v := ?_) rfl (by kernel_rfl) (by kernel_rfl) (by decide) (by kernel_rfl) (by kernel_rfl) (fun _ _ _ h => h) (Or.inl ⟨by rfl, ?_⟩) hHeld ?_
      rotate_left
      · (intro wx hSw; obtain ⟨sa, sb, d0, d1⟩ := hSw; obtain ⟨a0, a1, a2, a3, a4, a5, a6, a7, a8, a9, a10, a11⟩ := box12 sa; obtain ⟨c0, c1, c2, c3, c4, c5, c6⟩ := box7 sb; go_simp; try (with_reducible rfl))
      try simp only [Act.put, List.setIfInBounds_toArray, List.set_cons_zero, List.set_cons_succ]
      refine takeT (i := 4) (v := ?_) rfl (by kernel_rfl) (by kernel_rfl) (by decide) (by kernel_rfl) (by kernel_rfl) (fun _ _ _ h => h) (Or.inl ⟨by rfl, ?_⟩) hHeld ?_
      rotate_left
      · (intro wx hSw; obtain ⟨sa, sb, d0, d1⟩ := hSw; obtain ⟨a0, a1, a2, a3, a4, a5, a6, a7, a8, a9, a10, a11⟩ := box12 sa; obtain ⟨c0, c1, c2, c3, c4, c5, c6⟩ := box7 sb; go_simp; try (with_reducible rfl))
      try simp only [Act.put, List.setIfInBounds_toArray, List.set_cons_zero, List.set_cons_succ]
      refine takeT (i := 5) (v := ?_) rfl (by kernel_rfl) (by kernel_rfl) (by decide) (by kernel_rfl) (by kernel_rfl) (fun _ _ _ h => h) (Or.inl ⟨by rfl, ?_⟩) hHeld ?_
      rotate_left
      · (intro wx hSw; obtain ⟨sa, sb, d0, d1⟩ := hSw; obtain ⟨a0, a1, a2, a3, a4, a5, a6, a7, a8, a9, a10, a11⟩ := box12 sa; obtain ⟨c0, c1, c2, c3, c4, c5, c6⟩ := box7 sb; go_simp; try (with_reducible rfl))
      try simp only [Act.put, List.setIfInBounds_toArray, List.set_cons_zero, List.set_cons_succ]
      refine takeT (i := 6) (v := ?_) rfl (by kernel_rfl) (by kernel_rfl) (by decide) (by kernel_rfl) (by kernel_rfl) (fun _ _ _ h => h) (Or.inl ⟨by rfl, ?_⟩) hHeld ?_
      rotate_left
      · (intro wx hSw; obtain ⟨sa, sb, d0, d1⟩ := hSw; obtain ⟨a0, a1, a2, a3, a4, a5, a6, a7, a8, a9, a10, a11⟩ := box12 sa; obtain ⟨c0, c1, c2, c3, c4, c5, c6⟩ := box7 sb; go_simp; try (with_reducible rfl))
      try simp only [Act.put, List.setIfInBounds_toArray, List.set_cons_zero, List.set_cons_succ]
      refine takeT (i := 7) (v := ?_) rfl (by kernel_rfl) (by kernel_rfl) (by decide) (by kernel_rfl) (by kernel_rfl) (fun _ _ _ h => h) (Or.inl ⟨by rfl, ?_⟩) hHeld ?_
      rotate_left
      · (intro wx hSw; obtain ⟨sa, sb, d0, d1⟩ := hSw; obtain ⟨a0, a1, a2, a3, a4, a5, a6, a7, a8, a9, a10, a11⟩ := box12 sa; obtain ⟨c0, c1, c2, c3, c4, c5, c6⟩ := box7 sb; go_simp; try (with_reducible rfl))
      try simp only [Act.put, List.setIfInBounds_toArray, List.set_cons_zero, List.set_cons_succ]
      refine takeT (i := 9) (v := ?_) rfl (by kernel_rfl) (by kernel_rfl) (by decide) (by kernel_rfl) (by kernel_rfl) (fun _ _ _ h => h) (Or.inl ⟨by rfl, ?_⟩) hHeld ?_
      rotate_left
      · (intro wx hSw; obtain ⟨sa, sb, d0, d1⟩ := hSw; obtain ⟨a0, a1, a2, a3, a4, a5, a6, a7, a8, a9, a10, a11⟩ := box12 sa; obtain ⟨c0, c1, c2, c3, c4, c5, c6⟩ := box7 sb; go_simp; try (with_reducible rfl))
      try simp only [Act.put, List.setIfInBounds_toArray, List.set_cons_zero, List.set_cons_succ]
      refine takeT (i := 10) (v := ?_) rfl (by kernel_rfl) (by kernel_rfl) (by decide) (by kernel_rfl) (by kernel_rfl) (fun _ _ _ h => h) (Or.inl ⟨by rfl, ?_⟩) hHeld ?_
      rotate_left
      · (intro wx hSw; obtain ⟨sa, sb, d0, d1⟩ := hSw; obtain ⟨a0, a1, a2, a3, a4, a5, a6, a7, a8, a9, a10, a11⟩ := box12 sa; obtain ⟨c0, c1, c2, c3, c4, c5, c6⟩ := box7 sb; go_simp; try (with_reducible rfl))
      try simp only [Act.put, List.setIfInBounds_toArray, List.set_cons_zero, List.set_cons_succ]
      refine takeT (i := 11) (v := ?_) rfl (by kernel_rfl) (by kernel_rfl) (by decide) (by kernel_rfl) (by kernel_rfl) (fun _ _ _ h => h) (Or.inl ⟨by rfl, ?_⟩) hHeld ?_
      rotate_left
      · (intro wx hSw; obtain ⟨sa, sb, d0, d1⟩ := hSw; obtain ⟨a0, a1, a2, a3, a4, a5, a6, a7, a8, a9, a10, a11⟩ := box12 sa; obtain ⟨c0, c1, c2, c3, c4, c5, c6⟩ := box7 sb; go_simp; try (with_reducible rfl))
      try simp only [Act.put, List.setIfInBounds_toArray, List.set_cons_zero, List.set_cons_succ]
      refine takeT (i := 12) (v := ?_) rfl (by kernel_rfl) (by kernel_rfl) (by decide) (by kernel_rfl) (by kernel_rfl) (fun _ _ _ h => h) (Or.inl ⟨by rfl, ?_⟩) hHeld ?_
      rotate_left
      · (intro wx hSw; obtain ⟨sa, sb, d0, d1⟩ := hSw; obtain ⟨a0, a1, a2, a3, a4, a5, a6, a7, a8, a9, a10, a11⟩ := box12 sa; obtain ⟨c0, c1, c2, c3, c4, c5, c6⟩ := box7 sb; go_simp; try (with_reducible rfl))
      try simp only [Act.put, List.setIfInBounds_toArray, List.set_cons_zero, List.set_cons_succ]
      refine takeT (i := 13) (v := ?_) rfl (by kernel_rfl) (by kernel_rfl) (by decide) (by kernel_rfl) (by kernel_rfl) (fun _ _ _ h => h) (Or.inl ⟨by rfl, ?_⟩) hHeld ?_
      rotate_left
      · (intro wx hSw; obtain ⟨sa, sb, d0, d1⟩ := hSw; obtain ⟨a0, a1, a2, a3, a4, a5, a6, a7, a8, a9, a10, a11⟩ := box12 sa; obtain ⟨c0, c1, c2, c3, c4, c5, c6⟩ := box7 sb; go_simp; try (with_reducible rfl))
      try simp only [Act.put, List.setIfInBounds_toArray, List.set_cons_zero, List.set_cons_succ]
      refine takeT (i := 14) (v := ?_) rfl (by kernel_rfl) (by kernel_rfl) (by decide) (by kernel_rfl) (by kernel_rfl) (fun _ _ _ h => h) (Or.inl ⟨by rfl, ?_⟩) hHeld ?_
      rotate_left
      · (intro wx hSw; obtain ⟨sa, sb, d0, d1⟩ := hSw; obtain ⟨a0, a1, a2, a3, a4, a5, a6, a7, a8, a9, a10, a11⟩ := box12 sa; obtain ⟨c0, c1, c2, c3, c4, c5, c6⟩ := box7 sb; go_simp; try (with_reducible rfl))
      try simp only [Act.put, List.setIfInBounds_toArray, List.set_cons_zero, List.set_cons_succ]
      refine twoT (i := 8) (j := 15) rfl rfl (by kernel_rfl) (fun KK hK => ?_) (fun KK hK => ?_)
      · refine step_conv _ rfl _ rfl s1 (by have := HZ.out; omega) rfl ?_
        intro A8 cA8 Y1 rA8 b5
        clear hHeld
        replace kq := kq.step b5
        replace ka := ka.step b5
        replace b := below_step b b5
        replace bw := below_step bw b5
        have hHeld := And.intro kq (And.intro ka (HCE.out _ bw))
        clear b5
        refine hK.out _ _ (fun _ => hHeld) ?_
        clear hK KK
        try simp only [Act.put, List.setIfInBounds_toArray, List.set_cons_zero, List.set_cons_succ]
        refine oneT (i := 15) rfl (by kernel_rfl) (fun KK hK => ?_)
        refine step_conv _ rfl _ rfl s2 (by have := HZ.out; omega) rfl ?_
        intro A9 cA9 Y2 rA9 b5
        clear hHeld
        replace kq := kq.step b5
        replace ka := ka.step b5
        replace b := below_step b b5
        replace bw := below_step bw b5
        have hHeld := And.intro kq (And.intro ka (HCE.out _ bw))
        replace rA8 := rA8.step b5
        clear b5
        refine hK.out _ _ (fun _ => hHeld) ?_
        clear hK KK
        try simp only [Act.put, List.setIfInBounds_toArray, List.set_cons_zero, List.set_cons_succ]
        refine takeT (i := 16) (v := ?_) rfl (by kernel_rfl) (by kernel_rfl) (by decide) (by kernel_rfl) (by kernel_rfl) (fun _ _ _ h => h) (Or.inl ⟨by rfl, ?_⟩) hHeld ?_
        rotate_left
        · (intro wx hSw; obtain ⟨sa, sb, d0, d1⟩ := hSw; obtain ⟨a0, a1, a2, a3, a4, a5, a6, a7, a8, a9, a10, a11⟩ := box12 sa; obtain ⟨c0, c1, c2, c3, c4, c5, c6⟩ := box7 sb; go_simp; try (with_reducible rfl))
        try simp only [Act.put, List.setIfInBounds_toArray, List.set_cons_zero, List.set_cons_succ]
        refine oneT (i := 17) rfl (by kernel_rfl) (fun KK hK => ?_)
        go_simp
        refine (HFR.out (statSP (s1, s2)) none A8 A9 0 0 s1.size cA8 s2.size cA9 Y2 (by show 0 < 18446744073709551616; omega) (by have := HZ.out; omega) (Rd.nil _ _) rA8 rA9).mono ?_
        rintro e Y3 ⟨A3, N3, c3, hN3, rfl, o3, b5⟩
        clear hHeld rA8 rA9
        have r3 := o3.rd
        have HN3 := Lib.hid hN3
        clear hN3
        replace kq := kq.step b5
        replace ka := ka.step b5
        replace b := below_step b b5
        replace bw := below_step bw b5
        have hHeld := And.intro kq (And.intro ka (HCE.out _ bw))
        clear b5 o3
        refine hK.out _ _ (fun _ => hHeld) ?_
        clear hK KK
        try simp only [Act.put, List.setIfInBounds_toArray, List.set_cons_zero, List.set_cons_succ]
        refine oneT (i := 18) rfl (by kernel_rfl) (fun KK hK => ?_)
        go_simp
        refine (both_any A A3 N c N3 c3 Y3.heap.size (F j) _ Y3 ((hI.out.rd.step bw).more (Nat.le_refl _)) r3 (Nat.le_refl _) (by have := HNN.out; have := HZ.out; have := HN3.out; omega)).mono ?_
        rintro e Y4 ⟨A4, c4, rfl, o4, b5⟩
        rw [HFN.out] at o4
        have hs2 := ka.lt
        clear hHeld r3
        replace kq := kq.step b5
        replace ka := ka.step b5
        replace b := below_step b b5
        replace bw := below_step bw b5
        have hHeld := And.intro kq (And.intro ka (HCE.out _ bw))
        refine hK.out _ _ (fun _ => hHeld) ?_
        clear hK KK b5
        try simp only [Act.put, List.setIfInBounds_toArray, List.set_cons_zero, List.set_cons_succ]
        refine takeT (i := 19) (v := ?_) rfl (by kernel_rfl) (by kernel_rfl) (by decide) (by kernel_rfl) (by kernel_rfl) (fun _ _ _ h => h) (Or.inl ⟨by rfl, ?_⟩) hHeld ?_
        rotate_left
        · (intro wx hSw; obtain ⟨sa, sb, d0, d1⟩ := hSw; obtain ⟨a0, a1, a2, a3, a4, a5, a6, a7, a8, a9, a10, a11⟩ := box12 sa; obtain ⟨c0, c1, c2, c3, c4, c5, c6⟩ := box7 sb; go_simp; try (with_reducible rfl))
        try simp only [Act.put, List.setIfInBounds_toArray, List.set_cons_zero, List.set_cons_succ]
        refine doneT (by kernel_rfl) ?_ _
        refine NoPanic.normal ?_
        clear hHeld
        have hI1 : RbI F w.heap.size #[.int .i64 op, .bool qt, .bool fu, .int .i64 bad, .int .u32 (oq : Nat), .slice KA nk ck, VQ, .int .u32 (fl : Nat), .int .u32 (ex : Nat), .int .u64 (cs : Nat), .int .u64 (dl : Nat), .int .u64 (ini : Nat)] #[.int .i64 st, .slice VA nv cv, .int .u32 (af : Nat), .int .u64 (ac : Nat), .int .u64 (an : Nat), .slice (some ad) ns sc, .bool cl] (j + 1) A4 (N + N3) c4 w Y4 := ⟨o4.more (by omega), by have := HNN.out; have := HZ.out; have := HN3.out; omega, kq, ka, b⟩
        have hJP := HJP.out
        clear kq ka b bw o4 hs2
        go_wp2_with fail
        go_roundw
        case rel => exact ⟨j + 1, A4, N + N3, c4, HLT.out, by first | rfl | go_num, rfl, hI1⟩
        case measure => have := HLT.out; simp [intOf]; omega
      · refine step_conv _ rfl _ rfl s2 (by have := HZ.out; omega) rfl ?_
        intro A9 cA9 Y1 rA9 b5
        clear hHeld
        replace kq := kq.step b5
        replace ka := ka.step b5
        replace b := below_step b b5
        replace bw := below_step bw b5
        have hHeld := And.intro kq (And.intro ka (HCE.out _ bw))
        clear b5
        refine hK.out _ _ (fun _ => hHeld) ?_
        clear hK KK
        try simp only [Act.put, List.setIfInBounds_toArray, List.set_cons_zero, List.set_cons_succ]
        refine oneT (i := 8) rfl (by kernel_rfl) (fun KK hK => ?_)
        refine step_conv _ rfl _ rfl s1 (by have := HZ.out; omega) rfl ?_
        intro A8 cA8 Y2 rA8 b5
        clear hHeld
        replace kq := kq.step b5
        replace ka := ka.step b5
        replace b := below_step b b5
        replace bw := below_step bw b5
        have hHeld := And.intro kq (And.intro ka (HCE.out _ bw))
        replace rA9 := rA9.step b5
        clear b5
        refine hK.out _ _ (fun _ => hHeld) ?_
        clear hK KK
        try simp only [Act.put, List.setIfInBounds_toArray, List.set_cons_zero, List.set_cons_succ]
        refine takeT (i := 16) (v := ?_) rfl (by kernel_rfl) (by kernel_rfl) (by decide) (by kernel_rfl) (by kernel_rfl) (fun _ _ _ h => h) (Or.inl ⟨by rfl, ?_⟩) hHeld ?_
        rotate_left
        · (intro wx hSw; obtain ⟨sa, sb, d0, d1⟩ := hSw; obtain ⟨a0, a1, a2, a3, a4, a5, a6, a7, a8, a9, a10, a11⟩ := box12 sa; obtain ⟨c0, c1, c2, c3, c4, c5, c6⟩ := box7 sb; go_simp; try (with_reducible rfl))
        try simp only [Act.put, List.setIfInBounds_toArray, List.set_cons_zero, List.set_cons_succ]
        refine oneT (i := 17) rfl (by kernel_rfl) (fun KK hK => ?_)
        go_simp
        refine (HFR.out (statSP (s1, s2)) none A8 A9 0 0 s1.size cA8 s2.size cA9 Y2 (by show 0 < 18446744073709551616; omega) (by have := HZ.out; omega) (Rd.nil _ _) rA8 rA9).mono ?_
        rintro e Y3 ⟨A3, N3, c3, hN3, rfl, o3, b5⟩
        clear hHeld rA8 rA9
        have r3 := o3.rd
        have HN3 := Lib.hid hN3
        clear hN3
        replace kq := kq.step b5
        replace ka := ka.step b5
        replace b := below_step b b5
        replace bw := below_step bw b5
        have hHeld := And.intro kq (And.intro ka (HCE.out _ bw))
        clear b5 o3
        refine hK.out _ _ (fun _ => hHeld) ?_
        clear hK KK
        try simp only [Act.put, List.setIfInBounds_toArray, List.set_cons_zero, List.set_cons_succ]
        refine oneT (i := 18) rfl (by kernel_rfl) (fun KK hK => ?_)
        go_simp
        refine (both_any A A3 N c N3 c3 Y3.heap.size (F j) _ Y3 ((hI.out.rd.step bw).more (Nat.le_refl _)) r3 (Nat.le_refl _) (by have := HNN.out; have := HZ.out; have := HN3.out; omega)).mono ?_
        rintro e Y4 ⟨A4, c4, rfl, o4, b5⟩
        rw [HFN.out] at o4
        have hs2 := ka.lt
        clear hHeld r3
        replace kq := kq.step b5
        replace ka := ka.step b5
        replace b := below_step b b5
        replace bw := below_step bw b5
        have hHeld := And.intro kq (And.intro ka (HCE.out _ bw))
        refine hK.out _ _ (fun _ => hHeld) ?_
        clear hK KK b5
        try simp only [Act.put, List.setIfInBounds_toArray, List.set_cons_zero, List.set_cons_succ]
        refine takeT (i := 19) (v := ?_) rfl (by kernel_rfl) (by kernel_rfl) (by decide) (by kernel_rfl) (by kernel_rfl) (fun _ _ _ h => h) (Or.inl ⟨by rfl, ?_⟩) hHeld ?_
        rotate_left
        · (intro wx hSw; obtain ⟨sa, sb, d0, d1⟩ := hSw; obtain ⟨a0, a1, a2, a3, a4, a5, a6, a7, a8, a9, a10, a11⟩ := box12 sa; obtain ⟨c0, c1, c2, c3, c4, c5, c6⟩ := box7 sb; go_simp; try (with_reducible rfl))
        try simp only [Act.put, List.setIfInBounds_toArray, List.set_cons_zero, List.set_cons_succ]
        refine doneT (by kernel_rfl) ?_ _
        refine NoPanic.normal ?_
        clear hHeld
        have hI1 : RbI F w.heap.size #[.int .i64 op, .bool qt, .bool fu, .int .i64 bad, .int .u32 (oq : Nat), .slice KA nk ck, VQ, .int .u32 (fl : Nat), .int .u32 (ex : Nat), .int .u64 (cs : Nat), .int .u64 (dl : Nat), .int .u64 (ini : Nat)] #[.int .i64 st, .slice VA nv cv, .int .u32 (af : Nat), .int .u64 (ac : Nat), .int .u64 (an : Nat), .slice (some ad) ns sc, .bool cl] (j + 1) A4 (N + N3) c4 w Y4 := ⟨o4.more (by omega), by have := HNN.out; have := HZ.out; have := HN3.out; omega, kq, ka, b⟩
        have hJP := HJP.out
        clear kq ka b bw o4 hs2
        go_wp2_with fail
        go_roundw
        case rel => exact ⟨j + 1, A4, N + N3, c4, HLT.out, by first | rfl | go_num, rfl, hI1⟩
        case measure => have := HLT.out; simp [intOf]; omega
    · obtain rfl : j = ns := by omega
      have hlt' : ((j : Int) < (j : Int)) = False := eq_false (by omega)
      clear hlt hj
      obtain ⟨p0, p1, p2, p3, p4, p5, p6, p7, p8, p9, p10, p11⟩ := box12 kq
      have HNN : Hid (N ≤ 5000000 * j ∧ j ≤ 1000) := Lib.hid ⟨hN, HNS.out⟩
      clear hN
      go_wp2_with fail
      refine (HFR.out (⟨0, 0, [], [], []⟩ : SP) none none none 0 0 0 0 0 0 wr (by show 0 < 18446744073709551616; omega) (by omega) (Rd.nil _ _) (Rd.nil _ _) (Rd.nil _ _)).mono ?_
      rintro e Y3 ⟨A3, N3, c3, hN3, rfl, o3, b3⟩
      have HN3 := Lib.hid hN3
      clear hN3
      have r1 := o1.rd.step b3
      have hs2 := ka.lt
      replace b := below_step b b3
      have hs3 := b3.size
      clear kq ka p0 p1 p2 p3 p4 p5 p6 p7 p8 p9 p10 p11 q0 q1 q2 q3 q4 q5 q6 b3
      go_wp2_with fail
      refine (both_any A A3 N c N3 c3 Y3.heap.size (F j) _ Y3 r1 o3.rd (Nat.le_refl _) (by have := HNN.out; have := HN3.out; omega)).mono ?_
      rintro e Y4 ⟨A4, c4, rfl, o4, b4⟩
      rw [HFE.out] at o4
      have HQ : Hid (RbQ R true w (.returned (.tuple #[.slice A4 (N + N3) c4, .bool true])) Y4) := Lib.hid ⟨A4, _, c4, rfl, o4.more b.size, below_step b b4⟩
      clear o4 o3 r1 b b4 o1
      go_wp2_with fail
      go_ret2
      exact HQ.out
theorem rspB_one (cb oq : Nat) (p : SP) : rspB cb oq [p] = p.rbytes cb oq := by
  unfold rspB
  simp
/-- icehouseref21.Bytes in one. -/
theorem rbytes21_any (op : Int) (qt fu : Bool) (bad : Int) (oq : Nat) (hoq : oq < 4294967296) (KA : Option Addr) (nk ck : Nat) (lk : List UInt8) (VQ : Value) (fl ex cs dl ini : Nat) (st : Int) (VA : Option Addr) (nv cv : Nat) (lv : List UInt8) (af ac an : Nat) (SA : Option Addr) (ns sc : Nat) (SL : List (ByteArray × ByteArray)) (cl : Bool) (w : World) (rK : Rd w w.heap.size KA nk ck lk) (rV : Rd w w.heap.size VA nv cv lv) (rS : Rz w w.heap.size 2 SA ns sc (SL.map stCells).flatten) (hsl : SL.length = ns) (hnk : nk ≤ 10000000) (hnv : nv ≤ 10000000) (haf : af < 4294967296) (hac : ac < 18446744073709551616) (han : an < 18446744073709551616) (hns : ns ≤ 1000) (hsz : ∀ p ∈ SL, p.1.size ≤ 2000000 ∧ p.2.size ≤ 2000000) : Calls Try.prog 28 #[reqV op qt fu bad oq (.slice KA nk ck) VQ fl ex cs dl ini, ansV st (.slice VA nv cv) af ac an (.slice SA ns sc) cl] w (RbQ (rspB (codeB op qt fu) oq (allP op fu st af ac an lk lv SL)) (okB op fu st nk nv) w) := by
  unfold allP okB
  by_cases hst : st = 0
  · have c0 : ¬ (st ≠ 0) := fun h => h hst
    rw [if_neg c0, if_neg c0]
    cases hr : isRead op with
    | true =>
      rw [if_pos (rfl : true = true), if_pos (rfl : true = true), rspB_one]
      exact rb_get op qt fu bad oq hoq KA nk ck lk VQ fl ex cs dl ini st VA nv cv lv af ac an SA ns sc cl w rK rV hnk hnv haf hac han hst hr
    | false =>
      rw [if_neg (show ¬ (false = true) by decide), if_neg (show ¬ (false = true) by decide)]
      cases hc : isCount op with
      | true =>
        rw [if_pos (rfl : true = true), rspB_one]
        exact rb_cnt op qt fu bad oq hoq KA nk ck lk VQ fl ex cs dl ini st VA nv cv lv af ac an SA ns sc cl w rK rV hnk hnv haf hac han hst hr hc
      | false =>
        rw [if_neg (show ¬ (false = true) by decide)]
        by_cases h11 : op = 11
        · rw [if_pos h11, rspB_one]
          exact rb_ver op qt fu bad oq hoq KA nk ck lk VQ fl ex cs dl ini st VA nv cv lv af ac an SA ns sc cl w rK rV hnk hnv haf hac han hst hr hc h11
        · rw [if_neg h11]
          by_cases h16 : op = 16
          · rw [if_pos h16]
            exact rb_stat op qt fu bad oq hoq KA nk ck VQ fl ex cs dl ini st VA nv cv af ac an SA ns sc SL cl w rS hsl hns hsz hst h16
          · rw [if_neg h16, rspB_one]
            exact rb_oth op qt fu bad oq hoq KA nk ck lk VQ fl ex cs dl ini st VA nv cv lv af ac an SA ns sc cl w rK rV hnk hnv haf hac han hst hr hc h11 h16
  · rw [if_pos hst, if_pos hst, rspB_one]
    exact rb_st op qt fu bad oq hoq KA nk ck lk VQ fl ex cs dl ini st VA nv cv lv af ac an SA ns sc cl w rK rV hnk hnv haf hac han hst
end Go.Proofs.Ytnghmgbmflcngaa

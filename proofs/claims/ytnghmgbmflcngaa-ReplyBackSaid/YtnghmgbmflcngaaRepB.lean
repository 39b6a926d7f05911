/- ReplyBack: what was told is read as it was, whatever stands behind it; without its last byte it is too short. Conditions: none. -/
import Derived.Test.YtnghmgbmflcngaaPrd21
import Derived.Test.YtnghmgbmflcngaaRbl
import Derived.Test.YtnghmgbmflcngaaAsm
import Derived.Test.YtnghmgbmflcngaaOpa
import Derived.Test.YtnghmgbmflcngaaOpq
import Derived.Test.YtnghmgbmflcngaaOpen
import Derived.Test.YtnghmgbmflcngaaClo
namespace Go.Proofs.Ytnghmgbmflcngaa
set_option linter.unusedVariables false
set_option linter.unusedSimpArgs false
open Go.ChangeShapes Go.WideShapes Go.ChangeAt Go.RowKit

theorem fits_wide {n m c : Nat} (h : n + m ≤ 200000000000000) : Fits n m c 1 := by
  by_cases hs : n + m ≤ 140737488355328
  · exact fits_small (by omega)
  · intro hc
    have := nextcap_quarter hc (by omega)
    omega
/-- append of bytes, up to a great number, at a step of a region that draws its order. -/
theorem step_app8w (w : World) {ops : Array Oper} {o : Oper} {a : Act} {K : Act → World → Prop} {Q : Exit → Act → World → Prop} {E : Prop}
    (hg : Region.wanted o (yielded ops a.tmps) = true) (s x : Operand) (hop : o.op = Op.call { callee := Callee.builtin Builtin.append, args := #[s, x], argTypes := #[23, 23] })
    (B : Nat) (g n c : Nat) (l : List UInt8) (hs : a.eval s = .slice (some ⟨g, 0, none⟩) n c) (hown : Own w B (some ⟨g, 0, none⟩) n c l)
    (B2 : Nat) (A2 : Option Addr) (m c2 : Nat) (l2 : List UInt8) (hx : a.eval x = .slice A2 m c2) (hr : Rd w B2 A2 m c2 l2)
    (hbytes : n + m ≤ 200000000000000) (hbase : B ≤ w.heap.size)
    (hK : ∀ g' c' w', Own w' B (some ⟨g', 0, none⟩) (n + m) c' (l ++ l2) → w.grownBy w' (some g) → (g' = g ∨ g' = w.heap.size) → K (a.put o.dst (.slice (some ⟨g', 0, none⟩) (n + m) c')) w') :
    if Region.wanted o (yielded ops a.tmps) = true then Oper.wp Try.prog o a w K Q else E := by
  rw [if_pos hg]
  obtain ⟨i0, hi0, hz0, hz1, hz2⟩ := info_parts u8info
  obtain ⟨A', c', w', hrun, h1, h2, r3⟩ := run_app (P := Try.prog) w B 23 o.type 5 i0 _ 1 Try.underlying23 hi0 hz0 hz1 hz2 rfl (some ⟨g, 0, none⟩) n c (cbs l) hown B2 A2 m c2 (cbs l2) hr (cbs_one _) (fits_wide hbytes) (by unfold maxLen; omega) hbase
  unfold Oper.wp
  simp [execOp, hop, resolve, invoke, builtin, hs, hx, hrun, Result.andThen]
  have h1' : Own w' B A' (n + m) c' (l ++ l2) := by unfold Own; rw [cbs_append]; exact h1
  rcases h1.2 with ⟨hv, -⟩ | ⟨g', cap, cur, hv, -⟩
  · injection hv with e1 e2 e3
    subst e1
    rcases r3 with r3 | r3 <;> cases r3
  · injection hv with e1 e2 e3
    subst e1
    refine hK g' c' w' h1' h2 ?_
    rcases r3 with r3 | r3 <;> injection r3 with r3
    · exact Or.inl r3
    · exact Or.inr r3
theorem spB_le (cb oq : Nat) : ∀ Ps : List SP, (∀ p ∈ Ps, p.fits) → (spB cb oq Ps).length ≤ 2072 * Ps.length
  | [], _ => by unfold spB; simp
  | p :: Ps, h => by
    have h1 := spB_le cb oq Ps (fun q hq => h q (List.mem_cons_of_mem _ hq))
    have h2 := h p List.mem_cons_self
    unfold SP.fits tooLong at h2
    rw [spB_cons, List.length_append, sp_len, List.length_cons, Nat.mul_succ]
    omega
def BkQ (st : Int) (lv : List UInt8) (af ac an : Nat) (SL : List (ByteArray × ByteArray)) (N : Nat) (w : World) (e : Ending) (w' : World) : Prop := ∃ (VA : Option Addr) (nv cv : Nat) (SA : Option Addr) (ns sc : Nat), e = .returned (.tuple #[.agg #[.int .i64 st, .slice VA nv cv, .int .u32 (af : Nat), .int .u64 (ac : Nat), .int .u64 (an : Nat), .slice SA ns sc, .bool false], .int .i64 (N : Nat), .int .i64 0]) ∧ Rd w' w'.heap.size VA nv cv lv ∧ Rz w' w'.heap.size 2 SA ns sc (SL.map stCells).flatten ∧ SL.length = ns ∧ Below w.heap.size w w'
set_option maxRecDepth 100000 in
set_option maxHeartbeats 20000000 in
theorem walk_replyBack (op : Int) (qt fu : Bool) (bd : Int) (oq fl ex cs dl ni : Nat) (KA : Option Addr) (nk ck : Nat) (lk : List UInt8) (VB : Option Addr) (nb cb2 : Nat) (lb : List UInt8) (st : Int) (VA : Option Addr) (nv cv : Nat) (lv : List UInt8) (af ac an : Nat) (SA : Option Addr) (ns sc : Nat) (SL : List (ByteArray × ByteArray)) (cl : Bool) (AT : Option Addr) (nt ct : Nat) (lt : List UInt8) (w : World) (hq : Rqs w w.heap.size op qt fu bd oq fl ex cs dl ni KA nk ck lk VB nb cb2 lb) (sk : ck ≤ 140737488351232 ∧ cb2 ≤ 140737488351232) (ha : Ans w w.heap.size st VA nv cv lv af ac an SA ns sc SL) (sv : cv ≤ 140737488351232) (rt : Rd w w.heap.size AT nt ct lt) (stl : ct ≤ 140737488351232) :
    Calls Try.prog 16 #[reqV op qt fu bd oq (.slice KA nk ck) (.slice VB nb cb2) fl ex cs dl ni, ansV st (.slice VA nv cv) af ac an (.slice SA ns sc) cl, .slice AT nt ct] w fun e w' => e = .returned (.bool true) ∧ Below w.heap.size w w' := by
  obtain ⟨rK, -, hoq, -⟩ := hq
  obtain ⟨rV, ⟨rS, hsl, -⟩, haf, hac, han, -⟩ := ha
  have HWK := Lib.hid (fun W => wakes21 W)
  obtain ⟨Ps, e1, hPl, hP, hEr, hNo, hYes⟩ := ofR_is op qt fu oq st nv af ac an ns lk lv SL hac hsl
  unfold reqV ansV
  have HRK := Lib.hid rK
  have HRV := Lib.hid rV
  have HRS := Lib.hid rS
  have HTL := Lib.hid rt
  have HNT : Hid (nt ≤ 140737488351232) := Lib.hid (Nat.le_trans rt.cap stl)
  have kq := (Blk.new w #[.int .i64 op, .bool qt, .bool fu, .int .i64 bd, .int .u32 (oq : Nat), .slice KA nk ck, .slice VB nb cb2, .int .u32 (fl : Nat), .int .u32 (ex : Nat), .int .u64 (cs : Nat), .int .u64 (dl : Nat), .int .u64 (ni : Nat)] 26).alloc (.cells #[.int .i64 st, .slice VA nv cv, .int .u32 (af : Nat), .int .u64 (ac : Nat), .int .u64 (an : Nat), .slice SA ns sc, .bool cl] 29)
  have ka := Blk.new (w.alloc (.cells #[.int .i64 op, .bool qt, .bool fu, .int .i64 bd, .int .u32 (oq : Nat), .slice KA nk ck, .slice VB nb cb2, .int .u32 (fl : Nat), .int .u32 (ex : Nat), .int .u64 (cs : Nat), .int .u64 (dl : Nat), .int .u64 (ni : Nat)] 26)) #[.int .i64 st, .slice VA nv cv, .int .u32 (af : Nat), .int .u64 (ac : Nat), .int .u64 (an : Nat), .slice SA ns sc, .bool cl] 29
  have b := below_a1' (below_a1' (Below.refl w.heap.size w) (.cells #[.int .i64 op, .bool qt, .bool fu, .int .i64 bd, .int .u32 (oq : Nat), .slice KA nk ck, .slice VB nb cb2, .int .u32 (fl : Nat), .int .u32 (ex : Nat), .int .u64 (cs : Nat), .int .u64 (dl : Nat), .int .u64 (ni : Nat)] 26)) (.cells #[.int .i64 st, .slice VA nv cv, .int .u32 (af : Nat), .int .u64 (ac : Nat), .int .u64 (an : Nat), .slice SA ns sc, .bool cl] 29)
  rw [World.size_alloc] at ka
  have HCO := Lib.hid (fun (W : World) (b : Below w.heap.size w W) (h40 : ns ≤ 40) => copied21_any st VA nv cv lv af ac an SA ns sc SL cl W ((HRV.out.below b).more b.size) ((HRS.out.below b).more b.size) (by have h1 := HRV.out.cap; omega) (by omega))
  have HOF := Lib.hid (fun (W : World) (A1 : Option Addr) (c1 : Nat) (A2 : Option Addr) (c2 : Nat) (b : Below w.heap.size w W) (hk : nk ≤ 250) (h40 : ns ≤ 40) (r1 : Rd W W.heap.size A1 nv c1 lv) (r2 : Rz W W.heap.size 2 A2 ns c2 (SL.map stCells).flatten) => of_any op qt fu bd oq KA nk ck lk (.slice VB nb cb2) fl ex cs dl ni st A1 nv c1 lv af ac an A2 ns c2 SL cl W ((HRK.out.below b).more b.size) r1 r2 hsl (by omega) haf hac han (by omega) hoq)
  unfold reqV ansV at HOF
  unfold ansV at HCO
  have hcb := codeB_lt op qt fu
  have HBK : Hid ((ofR op qt fu oq st nv af ac an ns lk lv SL).2 = 0 → spB (codeB op qt fu) oq Ps ≠ [] → (∀ tl, readP op qt fu oq lk (spB (codeB op qt fu) oq Ps ++ tl) = ⟨st, lv, af, ac, an, SL, (spB (codeB op qt fu) oq Ps).length, 0⟩) ∧ (readP op qt fu oq lk ((spB (codeB op qt fu) oq Ps).take ((spB (codeB op qt fu) oq Ps).length - 1))).er = 9) := Lib.hid (fun h0 hne => by
    have hs : silB op qt st = false := by
      cases h : silB op qt st with
      | false => rfl
      | true => exact absurd (by rw [hNo (Or.inr h)]; rfl) hne
    obtain ⟨y1, y2, -⟩ := hYes h0 hs
    have hw : wrongA st op lv.length af ac an SL.length SL = false := by rw [rV.len, hsl]; exact y2
    have hf : ∀ p ∈ allP op fu st af ac an lk lv SL, p.fits := fun p hp => (hP p (by rw [y1]; exact hp)).1
    rw [y1]
    exact ⟨fun tl => (read_back op qt fu oq st af ac an lk lv SL tl hoq hcb haf hac han hw hf).1, (read_back op qt fu oq st af ac an lk lv SL [] hoq hcb haf hac han hw hf).2⟩)
  have HLEN : Hid ((spB (codeB op qt fu) oq Ps).length ≤ 40000) := Lib.hid (by have h1 := spB_le (codeB op qt fu) oq Ps (fun p hp => (hP p hp).1); omega)
  have HOQ := Lib.hid hoq
  have HSL := Lib.hid hsl
  have HE1 := Lib.hid e1
  clear rK rV rS hsl haf hac han hPl hP e1 hEr hNo hYes sv sk rt stl hoq hcb
  generalize ofR op qt fu oq st nv af ac an ns lk lv SL = R at HOF HE1 HBK
  go_enter Try.func16, Try.ntmps16
  go_upto_region 1 with fail
  generalize (w.alloc (.cells #[.int .i64 op, .bool qt, .bool fu, .int .i64 bd, .int .u32 (oq : Nat), .slice KA nk ck, .slice VB nb cb2, .int .u32 (fl : Nat), .int .u32 (ex : Nat), .int .u64 (cs : Nat), .int .u64 (dl : Nat), .int .u64 (ni : Nat)] 26)).alloc (.cells #[.int .i64 st, .slice VA nv cv, .int .u32 (af : Nat), .int .u64 (ac : Nat), .int .u64 (an : Nat), .slice SA ns sc, .bool cl] 29) = W0 at kq ka b ⊢
  go_wp2_with fail
  refine (HWK.out W0).mono ?_
  rintro e w1 ⟨rfl, b1⟩
  replace kq := kq.step b1
  replace ka := ka.step b1
  replace b := below_step b b1
  clear b1 HWK
  obtain ⟨p0, p1, p2, p3, p4, p5, p6, p7, p8, p9, p10, p11⟩ := box12 kq
  obtain ⟨q0, q1, q2, q3, q4, q5, q6⟩ := box7 ka
  by_cases hbk : 250 < nk
  · have hk' : ((250 : Int) < (nk : Int)) = True := eq_true (by omega)
    go_wp2_with fail
    go_ret
    exact ⟨rfl, b⟩
  by_cases hbs : 40 < ns
  · have hk' : ((250 : Int) < (nk : Int)) = False := eq_false (by omega)
    have hs' : ((40 : Int) < (ns : Int)) = True := eq_true (by omega)
    go_wp2_with fail
    go_ret
    exact ⟨rfl, b⟩
  have hk' : ((250 : Int) < (nk : Int)) = False := eq_false (by omega)
  have hs' : ((40 : Int) < (ns : Int)) = False := eq_false (by omega)
  have HK : Hid (nk ≤ 250 ∧ ns ≤ 40) := Lib.hid ⟨by omega, by omega⟩
  clear hbk hbs
  go_upto_region 5 with fail
  clear p0 p1 p2 p3 p4 p5 p6 p7 p8 p9 p10 p11 q0 q1 q2 q3 q4 q5 q6 hk' hs'
  go_cut [7, 8] (fun s7 s8 wx => ∃ A N c, s7 = .slice A N c ∧ s8 = .int .i64 R.2 ∧ Rd wx wx.heap.size A N c R.1 ∧ Blk wx w.heap.size #[.int .i64 op, .bool qt, .bool fu, .int .i64 bd, .int .u32 (oq : Nat), .slice KA nk ck, .slice VB nb cb2, .int .u32 (fl : Nat), .int .u32 (ex : Nat), .int .u64 (cs : Nat), .int .u64 (dl : Nat), .int .u64 (ni : Nat)] 26 ∧ Blk wx (w.heap.size + 1) #[.int .i64 st, .slice VA nv cv, .int .u32 (af : Nat), .int .u64 (ac : Nat), .int .u64 (an : Nat), .slice SA ns sc, .bool cl] 29 ∧ Below w.heap.size w wx)
  case first =>
    refine wp_region_noPanic ?_
    refine region_T (fun wx => Blk wx w.heap.size #[.int .i64 op, .bool qt, .bool fu, .int .i64 bd, .int .u32 (oq : Nat), .slice KA nk ck, .slice VB nb cb2, .int .u32 (fl : Nat), .int .u32 (ex : Nat), .int .u64 (cs : Nat), .int .u64 (dl : Nat), .int .u64 (ni : Nat)] 26 ∧ Blk wx (w.heap.size + 1) #[.int .i64 st, .slice VA nv cv, .int .u32 (af : Nat), .int .u64 (ac : Nat), .int .u64 (an : Nat), .slice SA ns sc, .bool cl] 29) 9 (by kernel_rfl) ?_
    have bD : Below w1.heap.size w1 w1.drew := (Below.refl _ _).drew
    replace kq := kq.step bD
    replace ka := ka.step bD
    replace b := below_step b bD
    have hHeld := And.intro kq ka
    clear bD
    generalize w1.drew = Y0 at kq ka b hHeld ⊢
    refine takeT (i := 0) (v := ?_) rfl (by kernel_rfl) (by kernel_rfl) (by decide) (by kernel_rfl) (by kernel_rfl) (fun _ _ _ h => h) (Or.inl ⟨by rfl, ?_⟩) hHeld ?_
    rotate_left
    · (intro wx hSw; obtain ⟨sa, sb⟩ := hSw; obtain ⟨a0, a1, a2, a3, a4, a5, a6, a7, a8, a9, a10, a11⟩ := box12 sa; obtain ⟨c0, c1, c2, c3, c4, c5, c6⟩ := box7 sb; go_simp; try (with_reducible rfl))
    try simp only [Act.put, List.setIfInBounds_toArray, List.set_cons_zero, List.set_cons_succ]
    refine takeT (i := 1) (v := ?_) rfl (by kernel_rfl) (by kernel_rfl) (by decide) (by kernel_rfl) (by kernel_rfl) (fun _ _ _ h => h) (Or.inl ⟨by rfl, ?_⟩) hHeld ?_
    rotate_left
    · (intro wx hSw; obtain ⟨sa, sb⟩ := hSw; obtain ⟨a0, a1, a2, a3, a4, a5, a6, a7, a8, a9, a10, a11⟩ := box12 sa; obtain ⟨c0, c1, c2, c3, c4, c5, c6⟩ := box7 sb; go_simp; try (with_reducible rfl))
    try simp only [Act.put, List.setIfInBounds_toArray, List.set_cons_zero, List.set_cons_succ]
    refine oneT (i := 2) rfl (by kernel_rfl) (fun KK hK => ?_)
    go_simp
    refine (HCO.out Y0 b HK.out.2).mono ?_
    rintro e Y1 ⟨A1, c1, A2, c2, rfl, o1, o2, b2⟩
    clear hHeld
    replace kq := kq.step b2
    replace ka := ka.step b2
    replace b := below_step b b2
    have hHeld := And.intro kq ka
    have r1 := o1.rd
    have r2 := o2.rz
    clear o1 o2 b2
    unfold ansV
    refine hK.out _ _ (fun _ => hHeld) ?_
    clear hK KK
    try simp only [Act.put, List.setIfInBounds_toArray, List.set_cons_zero, List.set_cons_succ]
    refine oneT (i := 3) rfl (by kernel_rfl) (fun KK hK => ?_)
    go_simp
    refine (HOF.out Y1 A1 c1 A2 c2 b HK.out.1 HK.out.2 r1 r2).mono ?_
    rintro e Y2 ⟨N3, A3, c3, rfl, o3, b3⟩
    clear hHeld r1 r2
    replace kq := kq.step b3
    replace ka := ka.step b3
    replace b := below_step b b3
    have hHeld := And.intro kq ka
    have r3 := o3.rd
    clear o3 b3
    refine hK.out _ _ (fun _ => hHeld) ?_
    clear hK KK
    try simp only [Act.put, List.setIfInBounds_toArray, List.set_cons_zero, List.set_cons_succ]
    refine takeT (i := 4) (v := ?_) rfl (by kernel_rfl) (by kernel_rfl) (by decide) (by kernel_rfl) (by kernel_rfl) (fun _ _ _ h => h) (Or.inl ⟨by rfl, ?_⟩) hHeld ?_
    rotate_left
    · (intro wx hSw; obtain ⟨sa, sb⟩ := hSw; obtain ⟨a0, a1, a2, a3, a4, a5, a6, a7, a8, a9, a10, a11⟩ := box12 sa; obtain ⟨c0, c1, c2, c3, c4, c5, c6⟩ := box7 sb; go_simp; try (with_reducible rfl))
    try simp only [Act.put, List.setIfInBounds_toArray, List.set_cons_zero, List.set_cons_succ]
    refine takeT (i := 5) (v := ?_) rfl (by kernel_rfl) (by kernel_rfl) (by decide) (by kernel_rfl) (by kernel_rfl) (fun _ _ _ h => h) (Or.inl ⟨by rfl, ?_⟩) hHeld ?_
    rotate_left
    · (intro wx hSw; obtain ⟨sa, sb⟩ := hSw; obtain ⟨a0, a1, a2, a3, a4, a5, a6, a7, a8, a9, a10, a11⟩ := box12 sa; obtain ⟨c0, c1, c2, c3, c4, c5, c6⟩ := box7 sb; go_simp; try (with_reducible rfl))
    try simp only [Act.put, List.setIfInBounds_toArray, List.set_cons_zero, List.set_cons_succ]
    refine takeT (i := 6) (v := ?_) rfl (by kernel_rfl) (by kernel_rfl) (by decide) (by kernel_rfl) (by kernel_rfl) (fun _ _ _ h => h) (Or.inl ⟨by rfl, ?_⟩) hHeld ?_
    rotate_left
    · (intro wx hSw; obtain ⟨sa, sb⟩ := hSw; obtain ⟨a0, a1, a2, a3, a4, a5, a6, a7, a8, a9, a10, a11⟩ := box12 sa; obtain ⟨c0, c1, c2, c3, c4, c5, c6⟩ := box7 sb; go_simp; try (with_reducible rfl))
    try simp only [Act.put, List.setIfInBounds_toArray, List.set_cons_zero, List.set_cons_succ]
    refine takeT (i := 7) (v := ?_) rfl (by kernel_rfl) (by kernel_rfl) (by decide) (by kernel_rfl) (by kernel_rfl) (fun _ _ _ h => h) (Or.inl ⟨by rfl, ?_⟩) hHeld ?_
    rotate_left
    · (intro wx hSw; obtain ⟨sa, sb⟩ := hSw; obtain ⟨a0, a1, a2, a3, a4, a5, a6, a7, a8, a9, a10, a11⟩ := box12 sa; obtain ⟨c0, c1, c2, c3, c4, c5, c6⟩ := box7 sb; go_simp; try (with_reducible rfl))
    try simp only [Act.put, List.setIfInBounds_toArray, List.set_cons_zero, List.set_cons_succ]
    refine takeT (i := 8) (v := ?_) rfl (by kernel_rfl) (by kernel_rfl) (by decide) (by kernel_rfl) (by kernel_rfl) (fun _ _ _ h => h) (Or.inl ⟨by rfl, ?_⟩) hHeld ?_
    rotate_left
    · (intro wx hSw; obtain ⟨sa, sb⟩ := hSw; obtain ⟨a0, a1, a2, a3, a4, a5, a6, a7, a8, a9, a10, a11⟩ := box12 sa; obtain ⟨c0, c1, c2, c3, c4, c5, c6⟩ := box7 sb; go_simp; try (with_reducible rfl))
    try simp only [Act.put, List.setIfInBounds_toArray, List.set_cons_zero, List.set_cons_succ]
    refine doneT (by kernel_rfl) ?_ _
    refine NoPanic.normal ?_
    clear hHeld
    go_wp2_with fail
    go_meet
    exact ⟨A3, N3, c3, rfl, rfl, r3, kq, ka, b⟩
  case rest =>
    clear kq ka b
    obtain ⟨AB, NB, cB, rfl, rfl, rB, kq, ka, b⟩ := hcut
    rw [HE1.out] at rB
    have hlen := rB.len
    by_cases h0 : R.2 = 0
    · obtain ⟨R1, R2⟩ := R
      have h0' : R2 = 0 := h0
      subst h0'
      clear h0
      by_cases hz : NB = 0
      · subst hz
        clear hlen rB
        go_wp2_with fail
        go_ret
        exact ⟨rfl, b⟩
      have hne : spB (codeB op qt fu) oq Ps ≠ [] := fun h => hz (by rw [← hlen, h]; rfl)
      obtain ⟨hR, hE⟩ := HBK.out rfl hne
      have eZ : ((NB : Int) == 0) = false := beq_eq_false_iff_ne.2 (by omega)
      have HNB : Hid (NB ≤ 40000) := Lib.hid (by rw [← hlen]; exact HLEN.out)
      have HN1 : Hid (1 ≤ NB) := Lib.hid (by omega)
      have HP1 : Hid (∀ (W : World) (A : Option Addr) (c : Nat), Below w.heap.size w W → Rd W W.heap.size A (NB + nt) c (spB (codeB op qt fu) oq Ps ++ lt) → Calls Try.prog 59 #[.agg #[.int .i64 op, .bool qt, .bool fu, .int .i64 bd, .int .u32 (oq : Nat), .slice KA nk ck, .slice VB nb cb2, .int .u32 (fl : Nat), .int .u32 (ex : Nat), .int .u64 (cs : Nat), .int .u64 (dl : Nat), .int .u64 (ni : Nat)], .slice A (NB + nt) c] W (BkQ st lv af ac an SL NB W)) := Lib.hid (fun W A c b r => by have h := pread_any op qt fu bd oq fl ex cs dl ni KA nk ck lk (.slice VB nb cb2) A (NB + nt) c _ W ((HRK.out.below b).more b.size) r (by have := HNB.out; have := HNT.out; omega) (by have := HK.out.1; omega) HOQ.out; unfold RdP at h; rw [hR lt, hlen] at h; exact h)
      obtain ⟨R9, hR9⟩ : ∃ R9, R9 = readP op qt fu oq lk ((spB (codeB op qt fu) oq Ps).take (NB - 1)) := ⟨_, rfl⟩
      have HER2 : Hid (R9.er = 9) := Lib.hid (by rw [hR9, ← hlen]; exact hE)
      have HP2 : Hid (∀ (W : World) (A : Option Addr) (c : Nat), Below w.heap.size w W → Rd W W.heap.size A (NB - 1) c ((spB (codeB op qt fu) oq Ps).take (NB - 1)) → Calls Try.prog 59 #[.agg #[.int .i64 op, .bool qt, .bool fu, .int .i64 bd, .int .u32 (oq : Nat), .slice KA nk ck, .slice VB nb cb2, .int .u32 (fl : Nat), .int .u32 (ex : Nat), .int .u64 (cs : Nat), .int .u64 (dl : Nat), .int .u64 (ni : Nat)], .slice A (NB - 1) c] W (AR.Q R9 W)) := Lib.hid (fun W A c b r => by have h := pread_any op qt fu bd oq fl ex cs dl ni KA nk ck lk (.slice VB nb cb2) A (NB - 1) c _ W ((HRK.out.below b).more b.size) r (by have := HNB.out; omega) (by have := HK.out.1; omega) HOQ.out; unfold RdP at h; rw [← hR9] at h; exact h)
      clear hne hR hE hR9 hlen hz
      generalize wc = WB at kq ka b rB ⊢
      have HR1 := Lib.hid rB
      go_upto_region 8 with fail
      clear eZ
      have kqc := kq
      go_cut [8, 9, 10] (fun s8 s9 s10 wx => ∃ (gA : Nat) (V1 : Option Addr) (n1 c1 : Nat) (S1 : Option Addr) (m1 d1 : Nat), s8 = .int .i64 0 ∧ s9 = .pointer (some ⟨gA, 0, none⟩) ∧ s10 = .int .i64 (NB : Nat) ∧ Blk wx gA #[.int .i64 st, .slice V1 n1 c1, .int .u32 (af : Nat), .int .u64 (ac : Nat), .int .u64 (an : Nat), .slice S1 m1 d1, .bool false] 29 ∧ Rd wx wx.heap.size V1 n1 c1 lv ∧ Rz wx wx.heap.size 2 S1 m1 d1 (SL.map stCells).flatten ∧ SL.length = m1 ∧ Below WB.heap.size WB wx)
      case first =>
        refine wp_region_noPanic ?_
        refine region_T (fun wx => Blk wx w.heap.size #[.int .i64 op, .bool qt, .bool fu, .int .i64 bd, .int .u32 (oq : Nat), .slice KA nk ck, .slice VB nb cb2, .int .u32 (fl : Nat), .int .u32 (ex : Nat), .int .u64 (cs : Nat), .int .u64 (dl : Nat), .int .u64 (ni : Nat)] 26) 15 (by kernel_rfl) ?_
        have bC : Below WB.heap.size WB WB.drew := (Below.refl _ _).drew
        have hHeld := kqc.step bC
        generalize WB.drew = Y0 at bC hHeld ⊢
        refine takeT (i := 0) (v := ?_) rfl (by kernel_rfl) (by kernel_rfl) (by decide) (by kernel_rfl) (by kernel_rfl) (fun _ _ _ h => h) (Or.inl ⟨by rfl, ?_⟩) hHeld ?_
        rotate_left
        · (intro wx hSw; obtain ⟨a0, a1, a2, a3, a4, a5, a6, a7, a8, a9, a10, a11⟩ := box12 hSw; go_simp; try (with_reducible rfl))
        try simp only [Act.put, List.setIfInBounds_toArray, List.set_cons_zero, List.set_cons_succ]
        refine takeT (i := 2) (v := ?_) rfl (by kernel_rfl) (by kernel_rfl) (by decide) (by kernel_rfl) (by kernel_rfl) (fun _ _ _ h => h) (Or.inl ⟨by rfl, ?_⟩) hHeld ?_
        rotate_left
        · (intro wx hSw; obtain ⟨a0, a1, a2, a3, a4, a5, a6, a7, a8, a9, a10, a11⟩ := box12 hSw; go_simp; try (with_reducible rfl))
        try simp only [Act.put, List.setIfInBounds_toArray, List.set_cons_zero, List.set_cons_succ]
        refine takeT (i := 4) (v := ?_) rfl (by kernel_rfl) (by kernel_rfl) (by decide) (by kernel_rfl) (by kernel_rfl) (fun _ _ _ h => h) (Or.inl ⟨by rfl, ?_⟩) hHeld ?_
        rotate_left
        · (intro wx hSw; obtain ⟨a0, a1, a2, a3, a4, a5, a6, a7, a8, a9, a10, a11⟩ := box12 hSw; go_simp; try (with_reducible rfl))
        try simp only [Act.put, List.setIfInBounds_toArray, List.set_cons_zero, List.set_cons_succ]
        refine twoT (i := 1) (j := 11) rfl rfl (by kernel_rfl) (fun KK hK => ?_) (fun KK hK => ?_)
        · clear hHeld
          go_simp
          have o1 : Own (Y0.alloc (.cells #[] 5)) WB.heap.size (some ⟨Y0.heap.size, 0, none⟩) 0 0 [] := Own.emptyK Y0 _ _ rfl bC.size
          have ba := below_a1' (Below.refl Y0.heap.size Y0) (.cells #[] 5)
          have bC := below_step bC ba
          clear ba
          generalize hW : Y0.alloc (.cells #[] 5) = Y1 at o1 bC ⊢
          clear hW
          generalize Y0.heap.size = g1 at o1 ⊢
          have hHeld := kqc.step bC
          refine hK.out _ _ (fun _ => hHeld) ?_
          clear hK KK
          try simp only [Act.put, List.setIfInBounds_toArray, List.set_cons_zero, List.set_cons_succ]
          refine twoT (i := 3) (j := 11) rfl rfl (by kernel_rfl) (fun KK hK => ?_) (fun KK hK => ?_)
          · clear hHeld
            refine step_app8g _ rfl _ _ rfl WB.heap.size g1 0 0 [] rfl o1 WB.heap.size AB NB cB (spB (codeB op qt fu) oq Ps) rfl (rB.below bC) (by have := HNB.out; omega) bC.size ?_
            intro g3 c3 Y2 o3 gb hg
            have h1 := o1.base
            simp only [Nat.zero_add, List.nil_append] at o3 ⊢
            have bC := bC.trans (below_grown gb h1.1 h1.2)
            clear gb hg h1 o1
            have hHeld := kqc.step bC
            refine hK.out _ _ (fun _ => hHeld) ?_
            clear hK KK
            try simp only [Act.put, List.setIfInBounds_toArray, List.set_cons_zero, List.set_cons_succ]
            refine twoT (i := 5) (j := 11) rfl rfl (by kernel_rfl) (fun KK hK => ?_) (fun KK hK => ?_)
            · clear hHeld
              refine step_app8w _ rfl _ _ rfl WB.heap.size g3 NB c3 (spB (codeB op qt fu) oq Ps) rfl o3 w.heap.size AT nt ct lt rfl (HTL.out.below (below_step b bC)) (by have := HNB.out; have := HNT.out; omega) bC.size ?_
              intro g5 c5 Y3 o5 gb hg
              have h1 := o3.base
              simp only [Nat.zero_add, List.nil_append] at o5 ⊢
              have bC := bC.trans (below_grown gb h1.1 h1.2)
              clear gb hg h1 o3
              have hHeld := kqc.step bC
              refine hK.out _ _ (fun _ => hHeld) ?_
              clear hK KK
              try simp only [Act.put, List.setIfInBounds_toArray, List.set_cons_zero, List.set_cons_succ]
              refine twoT (i := 6) (j := 11) rfl rfl (by kernel_rfl) (fun KK hK => ?_) (fun KK hK => ?_)
              · clear hHeld
                go_simp
                refine (HP1.out Y3 (some ⟨g5, 0, none⟩) c5 (below_step b bC) o5.rd).mono ?_
                rintro e Y4 ⟨VA1, nv1, cv1, SA1, ns1, sc1, rfl, rV1, rS1, hns1, ba⟩
                have bC := below_step bC ba
                clear ba
                clear o5
                have hHeld := kqc.step bC
                refine hK.out _ _ (fun _ => hHeld) ?_
                clear hK KK
                try simp only [Act.put, List.setIfInBounds_toArray, List.set_cons_zero, List.set_cons_succ]
                refine takeT (i := 7) (v := ?_) rfl (by kernel_rfl) (by kernel_rfl) (by decide) (by kernel_rfl) (by kernel_rfl) (fun _ _ _ h => h) (Or.inl ⟨by rfl, ?_⟩) hHeld ?_
                rotate_left
                · (intro wx hSw; obtain ⟨a0, a1, a2, a3, a4, a5, a6, a7, a8, a9, a10, a11⟩ := box12 hSw; go_simp; try (with_reducible rfl))
                try simp only [Act.put, List.setIfInBounds_toArray, List.set_cons_zero, List.set_cons_succ]
                refine takeT (i := 8) (v := ?_) rfl (by kernel_rfl) (by kernel_rfl) (by decide) (by kernel_rfl) (by kernel_rfl) (fun _ _ _ h => h) (Or.inl ⟨by rfl, ?_⟩) hHeld ?_
                rotate_left
                · (intro wx hSw; obtain ⟨a0, a1, a2, a3, a4, a5, a6, a7, a8, a9, a10, a11⟩ := box12 hSw; go_simp; try (with_reducible rfl))
                try simp only [Act.put, List.setIfInBounds_toArray, List.set_cons_zero, List.set_cons_succ]
                refine takeT (i := 9) (v := ?_) rfl (by kernel_rfl) (by kernel_rfl) (by decide) (by kernel_rfl) (by kernel_rfl) (fun _ _ _ h => h) (Or.inl ⟨by rfl, ?_⟩) hHeld ?_
                rotate_left
                · (intro wx hSw; obtain ⟨a0, a1, a2, a3, a4, a5, a6, a7, a8, a9, a10, a11⟩ := box12 hSw; go_simp; try (with_reducible rfl))
                try simp only [Act.put, List.setIfInBounds_toArray, List.set_cons_zero, List.set_cons_succ]
                refine takeT (i := 10) (v := ?_) rfl (by kernel_rfl) (by kernel_rfl) (by decide) (by kernel_rfl) (by kernel_rfl) (fun _ _ _ h => h) (Or.inl ⟨by rfl, ?_⟩) hHeld ?_
                rotate_left
                · (intro wx hSw; obtain ⟨a0, a1, a2, a3, a4, a5, a6, a7, a8, a9, a10, a11⟩ := box12 hSw; go_simp; try (with_reducible rfl))
                try simp only [Act.put, List.setIfInBounds_toArray, List.set_cons_zero, List.set_cons_succ]
                refine oneT (i := 11) rfl (by kernel_rfl) (fun KK hK => ?_)
                clear hHeld
                go_simp
                have kA := Blk.new Y4 #[.int .i64 0, .slice none 0 0, .int .u32 0, .int .u64 0, .int .u64 0, .slice none 0 0, .bool false] 29
                have ba := below_a1' (Below.refl Y4.heap.size Y4) (.cells #[.int .i64 0, .slice none 0 0, .int .u32 0, .int .u64 0, .int .u64 0, .slice none 0 0, .bool false] 29)
                have hA0 := bC.size
                have rV1 := rV1.step ba
                have rS1 := rS1.step ba
                have bC := below_step bC ba
                clear ba
                generalize hW : Y4.alloc (.cells #[.int .i64 0, .slice none 0 0, .int .u32 0, .int .u64 0, .int .u64 0, .slice none 0 0, .bool false] 29) = Y5 at kA bC rV1 rS1 ⊢
                clear hW
                generalize Y4.heap.size = gA at kA hA0 ⊢
                have hHeld := kqc.step bC
                refine hK.out _ _ (fun _ => hHeld) ?_
                clear hK KK
                try simp only [Act.put, List.setIfInBounds_toArray, List.set_cons_zero, List.set_cons_succ]
                have hgA := kA.lt
                have gs := grown_put7 Y5 gA (.int .i64 st) (.slice VA1 nv1 cv1) (.int .u32 (af : Nat)) (.int .u64 (ac : Nat)) (.int .u64 (an : Nat)) (.slice SA1 ns1 sc1) (.bool false)
                have kS := blk_put7 kA (.int .i64 st) (.slice VA1 nv1 cv1) (.int .u32 (af : Nat)) (.int .u64 (ac : Nat)) (.int .u64 (an : Nat)) (.slice SA1 ns1 sc1) (.bool false)
                have hqA : w.heap.size ≠ gA := Nat.ne_of_lt (Nat.lt_of_lt_of_le kqc.lt hA0)
                obtain ⟨p0, p1, p2, p3, p4, p5, p6⟩ := box7 kA
                have y0 := kA.frozen 0
                have y1 := kA.frozen 1
                have y2 := kA.frozen 2
                have y3 := kA.frozen 3
                have y4 := kA.frozen 4
                have y5 := kA.frozen 5
                have y6 := kA.frozen 6
                have kq9 := hHeld.left gs hqA
                have rV9 := rd_zero rV1 kA gs
                have rS9 := rz_zero rS1 kA gs
                have b9 := bC.trans (below_grown gs hA0 hgA)
                clear hHeld
                have hHeld := kq9
                refine oneT (i := 12) rfl (by kernel_rfl) (fun KK hK => ?_)
                go_simp
                refine hK.out _ _ (fun _ => hHeld) ?_
                clear hK KK
                try simp only [Act.put, List.setIfInBounds_toArray, List.set_cons_zero, List.set_cons_succ]
                refine oneT (i := 13) rfl (by kernel_rfl) (fun KK hK => ?_)
                go_simp
                refine hK.out _ _ (fun _ => hHeld) ?_
                clear hK KK
                try simp only [Act.put, List.setIfInBounds_toArray, List.set_cons_zero, List.set_cons_succ]
                refine oneT (i := 14) rfl (by kernel_rfl) (fun KK hK => ?_)
                go_simp
                refine hK.out _ _ (fun _ => hHeld) ?_
                clear hK KK
                try simp only [Act.put, List.setIfInBounds_toArray, List.set_cons_zero, List.set_cons_succ]
                refine doneT (by kernel_rfl) ?_ _
                refine NoPanic.normal ?_
                have HR := Lib.hid (And.intro kS (And.intro rV9 (And.intro rS9 (And.intro hns1 b9))))
                clear hHeld kA bC gs kS hqA hgA kq9 rV9 rS9 b9 rV1 rS1 hns1 p0 p1 p2 p3 p4 p5 p6 y0 y1 y2 y3 y4 y5 y6
                go_wp2_with fail
                go_meet
                exact ⟨gA, VA1, nv1, cv1, SA1, ns1, sc1, rfl, rfl, rfl, HR.out⟩
              · clear hHeld
                go_simp
                have kA := Blk.new Y3 #[.int .i64 0, .slice none 0 0, .int .u32 0, .int .u64 0, .int .u64 0, .slice none 0 0, .bool false] 29
                have ba := below_a1' (Below.refl Y3.heap.size Y3) (.cells #[.int .i64 0, .slice none 0 0, .int .u32 0, .int .u64 0, .int .u64 0, .slice none 0 0, .bool false] 29)
                have hA0 := bC.size
                have hAg : Y3.heap.size ≠ g5 := Nat.ne_of_gt o5.base.2
                have o5 := o5.below ba
                have bC := below_step bC ba
                clear ba
                generalize hW : Y3.alloc (.cells #[.int .i64 0, .slice none 0 0, .int .u32 0, .int .u64 0, .int .u64 0, .slice none 0 0, .bool false] 29) = Y4 at kA bC o5 ⊢
                clear hW
                generalize Y3.heap.size = gA at kA hA0 hAg ⊢
                have hHeld := kqc.step bC
                refine hK.out _ _ (fun _ => hHeld) ?_
                clear hK KK
                try simp only [Act.put, List.setIfInBounds_toArray, List.set_cons_zero, List.set_cons_succ]
                refine oneT (i := 6) rfl (by kernel_rfl) (fun KK hK => ?_)
                clear hHeld
                go_simp
                refine (HP1.out Y4 (some ⟨g5, 0, none⟩) c5 (below_step b bC) o5.rd).mono ?_
                rintro e Y5 ⟨VA1, nv1, cv1, SA1, ns1, sc1, rfl, rV1, rS1, hns1, ba⟩
                have kA := kA.step ba
                have bC := below_step bC ba
                clear ba
                clear o5
                have hHeld := kqc.step bC
                refine hK.out _ _ (fun _ => hHeld) ?_
                clear hK KK
                try simp only [Act.put, List.setIfInBounds_toArray, List.set_cons_zero, List.set_cons_succ]
                refine takeT (i := 7) (v := ?_) rfl (by kernel_rfl) (by kernel_rfl) (by decide) (by kernel_rfl) (by kernel_rfl) (fun _ _ _ h => h) (Or.inl ⟨by rfl, ?_⟩) hHeld ?_
                rotate_left
                · (intro wx hSw; obtain ⟨a0, a1, a2, a3, a4, a5, a6, a7, a8, a9, a10, a11⟩ := box12 hSw; go_simp; try (with_reducible rfl))
                try simp only [Act.put, List.setIfInBounds_toArray, List.set_cons_zero, List.set_cons_succ]
                refine takeT (i := 8) (v := ?_) rfl (by kernel_rfl) (by kernel_rfl) (by decide) (by kernel_rfl) (by kernel_rfl) (fun _ _ _ h => h) (Or.inl ⟨by rfl, ?_⟩) hHeld ?_
                rotate_left
                · (intro wx hSw; obtain ⟨a0, a1, a2, a3, a4, a5, a6, a7, a8, a9, a10, a11⟩ := box12 hSw; go_simp; try (with_reducible rfl))
                try simp only [Act.put, List.setIfInBounds_toArray, List.set_cons_zero, List.set_cons_succ]
                refine takeT (i := 9) (v := ?_) rfl (by kernel_rfl) (by kernel_rfl) (by decide) (by kernel_rfl) (by kernel_rfl) (fun _ _ _ h => h) (Or.inl ⟨by rfl, ?_⟩) hHeld ?_
                rotate_left
                · (intro wx hSw; obtain ⟨a0, a1, a2, a3, a4, a5, a6, a7, a8, a9, a10, a11⟩ := box12 hSw; go_simp; try (with_reducible rfl))
                try simp only [Act.put, List.setIfInBounds_toArray, List.set_cons_zero, List.set_cons_succ]
                refine takeT (i := 10) (v := ?_) rfl (by kernel_rfl) (by kernel_rfl) (by decide) (by kernel_rfl) (by kernel_rfl) (fun _ _ _ h => h) (Or.inl ⟨by rfl, ?_⟩) hHeld ?_
                rotate_left
                · (intro wx hSw; obtain ⟨a0, a1, a2, a3, a4, a5, a6, a7, a8, a9, a10, a11⟩ := box12 hSw; go_simp; try (with_reducible rfl))
                try simp only [Act.put, List.setIfInBounds_toArray, List.set_cons_zero, List.set_cons_succ]
                have hgA := kA.lt
                have gs := grown_put7 Y5 gA (.int .i64 st) (.slice VA1 nv1 cv1) (.int .u32 (af : Nat)) (.int .u64 (ac : Nat)) (.int .u64 (an : Nat)) (.slice SA1 ns1 sc1) (.bool false)
                have kS := blk_put7 kA (.int .i64 st) (.slice VA1 nv1 cv1) (.int .u32 (af : Nat)) (.int .u64 (ac : Nat)) (.int .u64 (an : Nat)) (.slice SA1 ns1 sc1) (.bool false)
                have hqA : w.heap.size ≠ gA := Nat.ne_of_lt (Nat.lt_of_lt_of_le kqc.lt hA0)
                obtain ⟨p0, p1, p2, p3, p4, p5, p6⟩ := box7 kA
                have y0 := kA.frozen 0
                have y1 := kA.frozen 1
                have y2 := kA.frozen 2
                have y3 := kA.frozen 3
                have y4 := kA.frozen 4
                have y5 := kA.frozen 5
                have y6 := kA.frozen 6
                have kq9 := hHeld.left gs hqA
                have rV9 := rd_zero rV1 kA gs
                have rS9 := rz_zero rS1 kA gs
                have b9 := bC.trans (below_grown gs hA0 hgA)
                clear hHeld
                have hHeld := kq9
                refine oneT (i := 12) rfl (by kernel_rfl) (fun KK hK => ?_)
                go_simp
                refine hK.out _ _ (fun _ => hHeld) ?_
                clear hK KK
                try simp only [Act.put, List.setIfInBounds_toArray, List.set_cons_zero, List.set_cons_succ]
                refine oneT (i := 13) rfl (by kernel_rfl) (fun KK hK => ?_)
                go_simp
                refine hK.out _ _ (fun _ => hHeld) ?_
                clear hK KK
                try simp only [Act.put, List.setIfInBounds_toArray, List.set_cons_zero, List.set_cons_succ]
                refine oneT (i := 14) rfl (by kernel_rfl) (fun KK hK => ?_)
                go_simp
                refine hK.out _ _ (fun _ => hHeld) ?_
                clear hK KK
                try simp only [Act.put, List.setIfInBounds_toArray, List.set_cons_zero, List.set_cons_succ]
                refine doneT (by kernel_rfl) ?_ _
                refine NoPanic.normal ?_
                have HR := Lib.hid (And.intro kS (And.intro rV9 (And.intro rS9 (And.intro hns1 b9))))
                clear hHeld kA bC gs kS hqA hgA kq9 rV9 rS9 b9 rV1 rS1 hns1 p0 p1 p2 p3 p4 p5 p6 y0 y1 y2 y3 y4 y5 y6
                go_wp2_with fail
                go_meet
                exact ⟨gA, VA1, nv1, cv1, SA1, ns1, sc1, rfl, rfl, rfl, HR.out⟩
            · clear hHeld
              go_simp
              have kA := Blk.new Y2 #[.int .i64 0, .slice none 0 0, .int .u32 0, .int .u64 0, .int .u64 0, .slice none 0 0, .bool false] 29
              have ba := below_a1' (Below.refl Y2.heap.size Y2) (.cells #[.int .i64 0, .slice none 0 0, .int .u32 0, .int .u64 0, .int .u64 0, .slice none 0 0, .bool false] 29)
              have hA0 := bC.size
              have hAg : Y2.heap.size ≠ g3 := Nat.ne_of_gt o3.base.2
              have o3 := o3.below ba
              have bC := below_step bC ba
              clear ba
              generalize hW : Y2.alloc (.cells #[.int .i64 0, .slice none 0 0, .int .u32 0, .int .u64 0, .int .u64 0, .slice none 0 0, .bool false] 29) = Y3 at kA bC o3 ⊢
              clear hW
              generalize Y2.heap.size = gA at kA hA0 hAg ⊢
              have hHeld := kqc.step bC
              refine hK.out _ _ (fun _ => hHeld) ?_
              clear hK KK
              try simp only [Act.put, List.setIfInBounds_toArray, List.set_cons_zero, List.set_cons_succ]
              refine oneT (i := 5) rfl (by kernel_rfl) (fun KK hK => ?_)
              clear hHeld
              have kA0 := kA.lt
              refine step_app8w _ rfl _ _ rfl WB.heap.size g3 NB c3 (spB (codeB op qt fu) oq Ps) rfl o3 w.heap.size AT nt ct lt rfl (HTL.out.below (below_step b bC)) (by have := HNB.out; have := HNT.out; omega) bC.size ?_
              intro g5 c5 Y4 o5 gb hg
              have h1 := o3.base
              simp only [Nat.zero_add, List.nil_append] at o5 ⊢
              have bC := bC.trans (below_grown gb h1.1 h1.2)
              have kA := kA.left gb hAg
              have hAg : gA ≠ g5 := by rcases hg with hg | hg; exact (fun e => hAg (e.trans hg)); exact (fun e => by have := kA0; omega)
              clear gb hg h1 o3
              have hHeld := kqc.step bC
              refine hK.out _ _ (fun _ => hHeld) ?_
              clear hK KK
              try simp only [Act.put, List.setIfInBounds_toArray, List.set_cons_zero, List.set_cons_succ]
              refine oneT (i := 6) rfl (by kernel_rfl) (fun KK hK => ?_)
              clear hHeld
              go_simp
              refine (HP1.out Y4 (some ⟨g5, 0, none⟩) c5 (below_step b bC) o5.rd).mono ?_
              rintro e Y5 ⟨VA1, nv1, cv1, SA1, ns1, sc1, rfl, rV1, rS1, hns1, ba⟩
              have kA := kA.step ba
              have bC := below_step bC ba
              clear ba
              clear o5
              have hHeld := kqc.step bC
              refine hK.out _ _ (fun _ => hHeld) ?_
              clear hK KK
              try simp only [Act.put, List.setIfInBounds_toArray, List.set_cons_zero, List.set_cons_succ]
              refine takeT (i := 7) (v := ?_) rfl (by kernel_rfl) (by kernel_rfl) (by decide) (by kernel_rfl) (by kernel_rfl) (fun _ _ _ h => h) (Or.inl ⟨by rfl, ?_⟩) hHeld ?_
              rotate_left
              · (intro wx hSw; obtain ⟨a0, a1, a2, a3, a4, a5, a6, a7, a8, a9, a10, a11⟩ := box12 hSw; go_simp; try (with_reducible rfl))
              try simp only [Act.put, List.setIfInBounds_toArray, List.set_cons_zero, List.set_cons_succ]
              refine takeT (i := 8) (v := ?_) rfl (by kernel_rfl) (by kernel_rfl) (by decide) (by kernel_rfl) (by kernel_rfl) (fun _ _ _ h => h) (Or.inl ⟨by rfl, ?_⟩) hHeld ?_
              rotate_left
              · (intro wx hSw; obtain ⟨a0, a1, a2, a3, a4, a5, a6, a7, a8, a9, a10, a11⟩ := box12 hSw; go_simp; try (with_reducible rfl))
              try simp only [Act.put, List.setIfInBounds_toArray, List.set_cons_zero, List.set_cons_succ]
              refine takeT (i := 9) (v := ?_) rfl (by kernel_rfl) (by kernel_rfl) (by decide) (by kernel_rfl) (by kernel_rfl) (fun _ _ _ h => h) (Or.inl ⟨by rfl, ?_⟩) hHeld ?_
              rotate_left
              · (intro wx hSw; obtain ⟨a0, a1, a2, a3, a4, a5, a6, a7, a8, a9, a10, a11⟩ := box12 hSw; go_simp; try (with_reducible rfl))
              try simp only [Act.put, List.setIfInBounds_toArray, List.set_cons_zero, List.set_cons_succ]
              refine takeT (i := 10) (v := ?_) rfl (by kernel_rfl) (by kernel_rfl) (by decide) (by kernel_rfl) (by kernel_rfl) (fun _ _ _ h => h) (Or.inl ⟨by rfl, ?_⟩) hHeld ?_
              rotate_left
              · (intro wx hSw; obtain ⟨a0, a1, a2, a3, a4, a5, a6, a7, a8, a9, a10, a11⟩ := box12 hSw; go_simp; try (with_reducible rfl))
              try simp only [Act.put, List.setIfInBounds_toArray, List.set_cons_zero, List.set_cons_succ]
              have hgA := kA.lt
              have gs := grown_put7 Y5 gA (.int .i64 st) (.slice VA1 nv1 cv1) (.int .u32 (af : Nat)) (.int .u64 (ac : Nat)) (.int .u64 (an : Nat)) (.slice SA1 ns1 sc1) (.bool false)
              have kS := blk_put7 kA (.int .i64 st) (.slice VA1 nv1 cv1) (.int .u32 (af : Nat)) (.int .u64 (ac : Nat)) (.int .u64 (an : Nat)) (.slice SA1 ns1 sc1) (.bool false)
              have hqA : w.heap.size ≠ gA := Nat.ne_of_lt (Nat.lt_of_lt_of_le kqc.lt hA0)
              obtain ⟨p0, p1, p2, p3, p4, p5, p6⟩ := box7 kA
              have y0 := kA.frozen 0
              have y1 := kA.frozen 1
              have y2 := kA.frozen 2
              have y3 := kA.frozen 3
              have y4 := kA.frozen 4
              have y5 := kA.frozen 5
              have y6 := kA.frozen 6
              have kq9 := hHeld.left gs hqA
              have rV9 := rd_zero rV1 kA gs
              have rS9 := rz_zero rS1 kA gs
              have b9 := bC.trans (below_grown gs hA0 hgA)
              clear hHeld
              have hHeld := kq9
              refine oneT (i := 12) rfl (by kernel_rfl) (fun KK hK => ?_)
              go_simp
              refine hK.out _ _ (fun _ => hHeld) ?_
              clear hK KK
              try simp only [Act.put, List.setIfInBounds_toArray, List.set_cons_zero, List.set_cons_succ]
              refine oneT (i := 13) rfl (by kernel_rfl) (fun KK hK => ?_)
              go_simp
              refine hK.out _ _ (fun _ => hHeld) ?_
              clear hK KK
              try simp only [Act.put, List.setIfInBounds_toArray, List.set_cons_zero, List.set_cons_succ]
              refine oneT (i := 14) rfl (by kernel_rfl) (fun KK hK => ?_)
              go_simp
              refine hK.out _ _ (fun _ => hHeld) ?_
              clear hK KK
              try simp only [Act.put, List.setIfInBounds_toArray, List.set_cons_zero, List.set_cons_succ]
              refine doneT (by kernel_rfl) ?_ _
              refine NoPanic.normal ?_
              have HR := Lib.hid (And.intro kS (And.intro rV9 (And.intro rS9 (And.intro hns1 b9))))
              clear hHeld kA bC gs kS hqA hgA kq9 rV9 rS9 b9 rV1 rS1 hns1 p0 p1 p2 p3 p4 p5 p6 y0 y1 y2 y3 y4 y5 y6
              go_wp2_with fail
              go_meet
              exact ⟨gA, VA1, nv1, cv1, SA1, ns1, sc1, rfl, rfl, rfl, HR.out⟩
          · clear hHeld
            go_simp
            have kA := Blk.new Y1 #[.int .i64 0, .slice none 0 0, .int .u32 0, .int .u64 0, .int .u64 0, .slice none 0 0, .bool false] 29
            have ba := below_a1' (Below.refl Y1.heap.size Y1) (.cells #[.int .i64 0, .slice none 0 0, .int .u32 0, .int .u64 0, .int .u64 0, .slice none 0 0, .bool false] 29)
            have hA0 := bC.size
            have hAg : Y1.heap.size ≠ g1 := Nat.ne_of_gt o1.base.2
            have o1 := o1.below ba
            have bC := below_step bC ba
            clear ba
            generalize hW : Y1.alloc (.cells #[.int .i64 0, .slice none 0 0, .int .u32 0, .int .u64 0, .int .u64 0, .slice none 0 0, .bool false] 29) = Y2 at kA bC o1 ⊢
            clear hW
            generalize Y1.heap.size = gA at kA hA0 hAg ⊢
            have hHeld := kqc.step bC
            refine hK.out _ _ (fun _ => hHeld) ?_
            clear hK KK
            try simp only [Act.put, List.setIfInBounds_toArray, List.set_cons_zero, List.set_cons_succ]
            refine oneT (i := 3) rfl (by kernel_rfl) (fun KK hK => ?_)
            clear hHeld
            have kA0 := kA.lt
            refine step_app8g _ rfl _ _ rfl WB.heap.size g1 0 0 [] rfl o1 WB.heap.size AB NB cB (spB (codeB op qt fu) oq Ps) rfl (rB.below bC) (by have := HNB.out; omega) bC.size ?_
            intro g3 c3 Y3 o3 gb hg
            have h1 := o1.base
            simp only [Nat.zero_add, List.nil_append] at o3 ⊢
            have bC := bC.trans (below_grown gb h1.1 h1.2)
            have kA := kA.left gb hAg
            have hAg : gA ≠ g3 := by rcases hg with hg | hg; exact (fun e => hAg (e.trans hg)); exact (fun e => by have := kA0; omega)
            clear gb hg h1 o1
            have hHeld := kqc.step bC
            refine hK.out _ _ (fun _ => hHeld) ?_
            clear hK KK
            try simp only [Act.put, List.setIfInBounds_toArray, List.set_cons_zero, List.set_cons_succ]
            refine oneT (i := 5) rfl (by kernel_rfl) (fun KK hK => ?_)
            clear hHeld
            have kA0 := kA.lt
            refine step_app8w _ rfl _ _ rfl WB.heap.size g3 NB c3 (spB (codeB op qt fu) oq Ps) rfl o3 w.heap.size AT nt ct lt rfl (HTL.out.below (below_step b bC)) (by have := HNB.out; have := HNT.out; omega) bC.size ?_
            intro g5 c5 Y4 o5 gb hg
            have h1 := o3.base
            simp only [Nat.zero_add, List.nil_append] at o5 ⊢
            have bC := bC.trans (below_grown gb h1.1 h1.2)
            have kA := kA.left gb hAg
            have hAg : gA ≠ g5 := by rcases hg with hg | hg; exact (fun e => hAg (e.trans hg)); exact (fun e => by have := kA0; omega)
            clear gb hg h1 o3
            have hHeld := kqc.step bC
            refine hK.out _ _ (fun _ => hHeld) ?_
            clear hK KK
            try simp only [Act.put, List.setIfInBounds_toArray, List.set_cons_zero, List.set_cons_succ]
            refine oneT (i := 6) rfl (by kernel_rfl) (fun KK hK => ?_)
            clear hHeld
            go_simp
            refine (HP1.out Y4 (some ⟨g5, 0, none⟩) c5 (below_step b bC) o5.rd).mono ?_
            rintro e Y5 ⟨VA1, nv1, cv1, SA1, ns1, sc1, rfl, rV1, rS1, hns1, ba⟩
            have kA := kA.step ba
            have bC := below_step bC ba
            clear ba
            clear o5
            have hHeld := kqc.step bC
            refine hK.out _ _ (fun _ => hHeld) ?_
            clear hK KK
            try simp only [Act.put, List.setIfInBounds_toArray, List.set_cons_zero, List.set_cons_succ]
            refine takeT (i := 7) (v := ?_) rfl (by kernel_rfl) (by kernel_rfl) (by decide) (by kernel_rfl) (by kernel_rfl) (fun _ _ _ h => h) (Or.inl ⟨by rfl, ?_⟩) hHeld ?_
            rotate_left
            · (intro wx hSw; obtain ⟨a0, a1, a2, a3, a4, a5, a6, a7, a8, a9, a10, a11⟩ := box12 hSw; go_simp; try (with_reducible rfl))
            try simp only [Act.put, List.setIfInBounds_toArray, List.set_cons_zero, List.set_cons_succ]
            refine takeT (i := 8) (v := ?_) rfl (by kernel_rfl) (by kernel_rfl) (by decide) (by kernel_rfl) (by kernel_rfl) (fun _ _ _ h => h) (Or.inl ⟨by rfl, ?_⟩) hHeld ?_
            rotate_left
            · (intro wx hSw; obtain ⟨a0, a1, a2, a3, a4, a5, a6, a7, a8, a9, a10, a11⟩ := box12 hSw; go_simp; try (with_reducible rfl))
            try simp only [Act.put, List.setIfInBounds_toArray, List.set_cons_zero, List.set_cons_succ]
            refine takeT (i := 9) (v := ?_) rfl (by kernel_rfl) (by kernel_rfl) (by decide) (by kernel_rfl) (by kernel_rfl) (fun _ _ _ h => h) (Or.inl ⟨by rfl, ?_⟩) hHeld ?_
            rotate_left
            · (intro wx hSw; obtain ⟨a0, a1, a2, a3, a4, a5, a6, a7, a8, a9, a10, a11⟩ := box12 hSw; go_simp; try (with_reducible rfl))
            try simp only [Act.put, List.setIfInBounds_toArray, List.set_cons_zero, List.set_cons_succ]
            refine takeT (i := 10) (v := ?_) rfl (by kernel_rfl) (by kernel_rfl) (by decide) (by kernel_rfl) (by kernel_rfl) (fun _ _ _ h => h) (Or.inl ⟨by rfl, ?_⟩) hHeld ?_
            rotate_left
            · (intro wx hSw; obtain ⟨a0, a1, a2, a3, a4, a5, a6, a7, a8, a9, a10, a11⟩ := box12 hSw; go_simp; try (with_reducible rfl))
            try simp only [Act.put, List.setIfInBounds_toArray, List.set_cons_zero, List.set_cons_succ]
            have hgA := kA.lt
            have gs := grown_put7 Y5 gA (.int .i64 st) (.slice VA1 nv1 cv1) (.int .u32 (af : Nat)) (.int .u64 (ac : Nat)) (.int .u64 (an : Nat)) (.slice SA1 ns1 sc1) (.bool false)
            have kS := blk_put7 kA (.int .i64 st) (.slice VA1 nv1 cv1) (.int .u32 (af : Nat)) (.int .u64 (ac : Nat)) (.int .u64 (an : Nat)) (.slice SA1 ns1 sc1) (.bool false)
            have hqA : w.heap.size ≠ gA := Nat.ne_of_lt (Nat.lt_of_lt_of_le kqc.lt hA0)
            obtain ⟨p0, p1, p2, p3, p4, p5, p6⟩ := box7 kA
            have y0 := kA.frozen 0
            have y1 := kA.frozen 1
            have y2 := kA.frozen 2
            have y3 := kA.frozen 3
            have y4 := kA.frozen 4
            have y5 := kA.frozen 5
            have y6 := kA.frozen 6
            have kq9 := hHeld.left gs hqA
            have rV9 := rd_zero rV1 kA gs
            have rS9 := rz_zero rS1 kA gs
            have b9 := bC.trans (below_grown gs hA0 hgA)
            clear hHeld
            have hHeld := kq9
            refine oneT (i := 12) rfl (by kernel_rfl) (fun KK hK => ?_)
            go_simp
            refine hK.out _ _ (fun _ => hHeld) ?_
            clear hK KK
            try simp only [Act.put, List.setIfInBounds_toArray, List.set_cons_zero, List.set_cons_succ]
            refine oneT (i := 13) rfl (by kernel_rfl) (fun KK hK => ?_)
            go_simp
            refine hK.out _ _ (fun _ => hHeld) ?_
            clear hK KK
            try simp only [Act.put, List.setIfInBounds_toArray, List.set_cons_zero, List.set_cons_succ]
            refine oneT (i := 14) rfl (by kernel_rfl) (fun KK hK => ?_)
            go_simp
            refine hK.out _ _ (fun _ => hHeld) ?_
            clear hK KK
            try simp only [Act.put, List.setIfInBounds_toArray, List.set_cons_zero, List.set_cons_succ]
            refine doneT (by kernel_rfl) ?_ _
            refine NoPanic.normal ?_
            have HR := Lib.hid (And.intro kS (And.intro rV9 (And.intro rS9 (And.intro hns1 b9))))
            clear hHeld kA bC gs kS hqA hgA kq9 rV9 rS9 b9 rV1 rS1 hns1 p0 p1 p2 p3 p4 p5 p6 y0 y1 y2 y3 y4 y5 y6
            go_wp2_with fail
            go_meet
            exact ⟨gA, VA1, nv1, cv1, SA1, ns1, sc1, rfl, rfl, rfl, HR.out⟩
        · clear hHeld
          go_simp
          have kA := Blk.new Y0 #[.int .i64 0, .slice none 0 0, .int .u32 0, .int .u64 0, .int .u64 0, .slice none 0 0, .bool false] 29
          have ba := below_a1' (Below.refl Y0.heap.size Y0) (.cells #[.int .i64 0, .slice none 0 0, .int .u32 0, .int .u64 0, .int .u64 0, .slice none 0 0, .bool false] 29)
          have hA0 := bC.size
          have bC := below_step bC ba
          clear ba
          generalize hW : Y0.alloc (.cells #[.int .i64 0, .slice none 0 0, .int .u32 0, .int .u64 0, .int .u64 0, .slice none 0 0, .bool false] 29) = Y1 at kA bC ⊢
          clear hW
          generalize Y0.heap.size = gA at kA hA0 ⊢
          have hHeld := kqc.step bC
          refine hK.out _ _ (fun _ => hHeld) ?_
          clear hK KK
          try simp only [Act.put, List.setIfInBounds_toArray, List.set_cons_zero, List.set_cons_succ]
          refine oneT (i := 1) rfl (by kernel_rfl) (fun KK hK => ?_)
          clear hHeld
          go_simp
          have o1 : Own (Y1.alloc (.cells #[] 5)) WB.heap.size (some ⟨Y1.heap.size, 0, none⟩) 0 0 [] := Own.emptyK Y1 _ _ rfl bC.size
          have ba := below_a1' (Below.refl Y1.heap.size Y1) (.cells #[] 5)
          have hAg : gA ≠ Y1.heap.size := Nat.ne_of_lt kA.lt
          have kA := kA.step ba
          have bC := below_step bC ba
          clear ba
          generalize hW : Y1.alloc (.cells #[] 5) = Y2 at o1 bC kA ⊢
          clear hW
          generalize Y1.heap.size = g1 at o1 hAg ⊢
          have hHeld := kqc.step bC
          refine hK.out _ _ (fun _ => hHeld) ?_
          clear hK KK
          try simp only [Act.put, List.setIfInBounds_toArray, List.set_cons_zero, List.set_cons_succ]
          refine oneT (i := 3) rfl (by kernel_rfl) (fun KK hK => ?_)
          clear hHeld
          have kA0 := kA.lt
          refine step_app8g _ rfl _ _ rfl WB.heap.size g1 0 0 [] rfl o1 WB.heap.size AB NB cB (spB (codeB op qt fu) oq Ps) rfl (rB.below bC) (by have := HNB.out; omega) bC.size ?_
          intro g3 c3 Y3 o3 gb hg
          have h1 := o1.base
          simp only [Nat.zero_add, List.nil_append] at o3 ⊢
          have bC := bC.trans (below_grown gb h1.1 h1.2)
          have kA := kA.left gb hAg
          have hAg : gA ≠ g3 := by rcases hg with hg | hg; exact (fun e => hAg (e.trans hg)); exact (fun e => by have := kA0; omega)
          clear gb hg h1 o1
          have hHeld := kqc.step bC
          refine hK.out _ _ (fun _ => hHeld) ?_
          clear hK KK
          try simp only [Act.put, List.setIfInBounds_toArray, List.set_cons_zero, List.set_cons_succ]
          refine oneT (i := 5) rfl (by kernel_rfl) (fun KK hK => ?_)
          clear hHeld
          have kA0 := kA.lt
          refine step_app8w _ rfl _ _ rfl WB.heap.size g3 NB c3 (spB (codeB op qt fu) oq Ps) rfl o3 w.heap.size AT nt ct lt rfl (HTL.out.below (below_step b bC)) (by have := HNB.out; have := HNT.out; omega) bC.size ?_
          intro g5 c5 Y4 o5 gb hg
          have h1 := o3.base
          simp only [Nat.zero_add, List.nil_append] at o5 ⊢
          have bC := bC.trans (below_grown gb h1.1 h1.2)
          have kA := kA.left gb hAg
          have hAg : gA ≠ g5 := by rcases hg with hg | hg; exact (fun e => hAg (e.trans hg)); exact (fun e => by have := kA0; omega)
          clear gb hg h1 o3
          have hHeld := kqc.step bC
          refine hK.out _ _ (fun _ => hHeld) ?_
          clear hK KK
          try simp only [Act.put, List.setIfInBounds_toArray, List.set_cons_zero, List.set_cons_succ]
          refine oneT (i := 6) rfl (by kernel_rfl) (fun KK hK => ?_)
          clear hHeld
          go_simp
          refine (HP1.out Y4 (some ⟨g5, 0, none⟩) c5 (below_step b bC) o5.rd).mono ?_
          rintro e Y5 ⟨VA1, nv1, cv1, SA1, ns1, sc1, rfl, rV1, rS1, hns1, ba⟩
          have kA := kA.step ba
          have bC := below_step bC ba
          clear ba
          clear o5
          have hHeld := kqc.step bC
          refine hK.out _ _ (fun _ => hHeld) ?_
          clear hK KK
          try simp only [Act.put, List.setIfInBounds_toArray, List.set_cons_zero, List.set_cons_succ]
          refine takeT (i := 7) (v := ?_) rfl (by kernel_rfl) (by kernel_rfl) (by decide) (by kernel_rfl) (by kernel_rfl) (fun _ _ _ h => h) (Or.inl ⟨by rfl, ?_⟩) hHeld ?_
          rotate_left
          · (intro wx hSw; obtain ⟨a0, a1, a2, a3, a4, a5, a6, a7, a8, a9, a10, a11⟩ := box12 hSw; go_simp; try (with_reducible rfl))
          try simp only [Act.put, List.setIfInBounds_toArray, List.set_cons_zero, List.set_cons_succ]
          refine takeT (i := 8) (v := ?_) rfl (by kernel_rfl) (by kernel_rfl) (by decide) (by kernel_rfl) (by kernel_rfl) (fun _ _ _ h => h) (Or.inl ⟨by rfl, ?_⟩) hHeld ?_
          rotate_left
          · (intro wx hSw; obtain ⟨a0, a1, a2, a3, a4, a5, a6, a7, a8, a9, a10, a11⟩ := box12 hSw; go_simp; try (with_reducible rfl))
          try simp only [Act.put, List.setIfInBounds_toArray, List.set_cons_zero, List.set_cons_succ]
          refine takeT (i := 9) (v := ?_) rfl (by kernel_rfl) (by kernel_rfl) (by decide) (by kernel_rfl) (by kernel_rfl) (fun _ _ _ h => h) (Or.inl ⟨by rfl, ?_⟩) hHeld ?_
          rotate_left
          · (intro wx hSw; obtain ⟨a0, a1, a2, a3, a4, a5, a6, a7, a8, a9, a10, a11⟩ := box12 hSw; go_simp; try (with_reducible rfl))
          try simp only [Act.put, List.setIfInBounds_toArray, List.set_cons_zero, List.set_cons_succ]
          refine takeT (i := 10) (v := ?_) rfl (by kernel_rfl) (by kernel_rfl) (by decide) (by kernel_rfl) (by kernel_rfl) (fun _ _ _ h => h) (Or.inl ⟨by rfl, ?_⟩) hHeld ?_
          rotate_left
          · (intro wx hSw; obtain ⟨a0, a1, a2, a3, a4, a5, a6, a7, a8, a9, a10, a11⟩ := box12 hSw; go_simp; try (with_reducible rfl))
          try simp only [Act.put, List.setIfInBounds_toArray, List.set_cons_zero, List.set_cons_succ]
          have hgA := kA.lt
          have gs := grown_put7 Y5 gA (.int .i64 st) (.slice VA1 nv1 cv1) (.int .u32 (af : Nat)) (.int .u64 (ac : Nat)) (.int .u64 (an : Nat)) (.slice SA1 ns1 sc1) (.bool false)
          have kS := blk_put7 kA (.int .i64 st) (.slice VA1 nv1 cv1) (.int .u32 (af : Nat)) (.int .u64 (ac : Nat)) (.int .u64 (an : Nat)) (.slice SA1 ns1 sc1) (.bool false)
          have hqA : w.heap.size ≠ gA := Nat.ne_of_lt (Nat.lt_of_lt_of_le kqc.lt hA0)
          obtain ⟨p0, p1, p2, p3, p4, p5, p6⟩ := box7 kA
          have y0 := kA.frozen 0
          have y1 := kA.frozen 1
          have y2 := kA.frozen 2
          have y3 := kA.frozen 3
          have y4 := kA.frozen 4
          have y5 := kA.frozen 5
          have y6 := kA.frozen 6
          have kq9 := hHeld.left gs hqA
          have rV9 := rd_zero rV1 kA gs
          have rS9 := rz_zero rS1 kA gs
          have b9 := bC.trans (below_grown gs hA0 hgA)
          clear hHeld
          have hHeld := kq9
          refine oneT (i := 12) rfl (by kernel_rfl) (fun KK hK => ?_)
          go_simp
          refine hK.out _ _ (fun _ => hHeld) ?_
          clear hK KK
          try simp only [Act.put, List.setIfInBounds_toArray, List.set_cons_zero, List.set_cons_succ]
          refine oneT (i := 13) rfl (by kernel_rfl) (fun KK hK => ?_)
          go_simp
          refine hK.out _ _ (fun _ => hHeld) ?_
          clear hK KK
          try simp only [Act.put, List.setIfInBounds_toArray, List.set_cons_zero, List.set_cons_succ]
          refine oneT (i := 14) rfl (by kernel_rfl) (fun KK hK => ?_)
          go_simp
          refine hK.out _ _ (fun _ => hHeld) ?_
          clear hK KK
          try simp only [Act.put, List.setIfInBounds_toArray, List.set_cons_zero, List.set_cons_succ]
          refine doneT (by kernel_rfl) ?_ _
          refine NoPanic.normal ?_
          have HR := Lib.hid (And.intro kS (And.intro rV9 (And.intro rS9 (And.intro hns1 b9))))
          clear hHeld kA bC gs kS hqA hgA kq9 rV9 rS9 b9 rV1 rS1 hns1 p0 p1 p2 p3 p4 p5 p6 y0 y1 y2 y3 y4 y5 y6
          go_wp2_with fail
          go_meet
          exact ⟨gA, VA1, nv1, cv1, SA1, ns1, sc1, rfl, rfl, rfl, HR.out⟩
      case rest =>
        obtain ⟨gA, V1, n1, c1, S1, m1, d1, rfl, rfl, rfl, kA, rV1, rS1, hm1, bc⟩ := hcut
        have kq := kq.step bc
        have ka := ka.step bc
        have rB := rB.step bc
        have b := below_step b bc
        clear bc kqc HR1
        generalize wc = WD at kq ka b rB kA rV1 rS1 ⊢
        obtain ⟨XB, cxb, HXB, hXB⟩ := slc_h rB (NB - 1) ((NB : Int) - 1) (by have := HN1.out; omega) (Nat.sub_le _ _)
        have wS : IntKind.i64.wrap ((NB : Int) - 1) = (NB : Int) - 1 := IntWalk.i64_in _ (by have := HNB.out; omega)
        have kqc := kq
        go_upto_region 9 with fail
        go_cut [13] (fun s13 wx => s13 = .int .i64 9 ∧ Below WD.heap.size WD wx)
        case first =>
          refine wp_region_noPanic ?_
          refine region_T (fun wx => Blk wx w.heap.size #[.int .i64 op, .bool qt, .bool fu, .int .i64 bd, .int .u32 (oq : Nat), .slice KA nk ck, .slice VB nb cb2, .int .u32 (fl : Nat), .int .u32 (ex : Nat), .int .u64 (cs : Nat), .int .u64 (dl : Nat), .int .u64 (ni : Nat)] 26) 15 (by kernel_rfl) ?_
          have bC : Below WD.heap.size WD WD.drew := (Below.refl _ _).drew
          have hHeld := kqc.step bC
          generalize WD.drew = Y0 at bC hHeld ⊢
          refine takeT (i := 0) (v := ?_) rfl (by kernel_rfl) (by kernel_rfl) (by decide) (by kernel_rfl) (by kernel_rfl) (fun _ _ _ h => h) (Or.inl ⟨by rfl, ?_⟩) hHeld ?_
          rotate_left
          · (intro wx hSw; obtain ⟨a0, a1, a2, a3, a4, a5, a6, a7, a8, a9, a10, a11⟩ := box12 hSw; go_simp; try (with_reducible rfl))
          try simp only [Act.put, List.setIfInBounds_toArray, List.set_cons_zero, List.set_cons_succ]
          refine takeT (i := 1) (v := ?_) rfl (by kernel_rfl) (by kernel_rfl) (by decide) (by kernel_rfl) (by kernel_rfl) (fun _ _ _ h => h) (Or.inl ⟨by rfl, ?_⟩) hHeld ?_
          rotate_left
          · (intro wx hSw; obtain ⟨a0, a1, a2, a3, a4, a5, a6, a7, a8, a9, a10, a11⟩ := box12 hSw; go_simp; try (with_reducible rfl))
          try simp only [Act.put, List.setIfInBounds_toArray, List.set_cons_zero, List.set_cons_succ]
          refine takeT (i := 2) (v := ?_) rfl (by kernel_rfl) (by kernel_rfl) (by decide) (by kernel_rfl) (by kernel_rfl) (fun _ _ _ h => h) (Or.inl ⟨by rfl, ?_⟩) hHeld ?_
          rotate_left
          · (intro wx hSw; obtain ⟨a0, a1, a2, a3, a4, a5, a6, a7, a8, a9, a10, a11⟩ := box12 hSw; go_simp; try (with_reducible rfl))
          try simp only [Act.put, List.setIfInBounds_toArray, List.set_cons_zero, List.set_cons_succ]
          refine takeT (i := 3) (v := ?_) rfl (by kernel_rfl) (by kernel_rfl) (by decide) (by kernel_rfl) (by kernel_rfl) (fun _ _ _ h => h) (Or.inl ⟨by rfl, ?_⟩) hHeld ?_
          rotate_left
          · (intro wx hSw; obtain ⟨a0, a1, a2, a3, a4, a5, a6, a7, a8, a9, a10, a11⟩ := box12 hSw; go_simp; try (with_reducible rfl))
          try simp only [Act.put, List.setIfInBounds_toArray, List.set_cons_zero, List.set_cons_succ]
          refine takeT (i := 4) (v := ?_) rfl (by kernel_rfl) (by kernel_rfl) (by decide) (by kernel_rfl) (by kernel_rfl) (fun _ _ _ h => h) (Or.inl ⟨by rfl, ?_⟩) hHeld ?_
          rotate_left
          · (intro wx hSw; obtain ⟨a0, a1, a2, a3, a4, a5, a6, a7, a8, a9, a10, a11⟩ := box12 hSw; go_simp; try (with_reducible rfl))
          try simp only [Act.put, List.setIfInBounds_toArray, List.set_cons_zero, List.set_cons_succ]
          refine takeT (i := 5) (v := ?_) rfl (by kernel_rfl) (by kernel_rfl) (by decide) (by kernel_rfl) (by kernel_rfl) (fun _ _ _ h => h) (Or.inl ⟨by rfl, ?_⟩) hHeld ?_
          rotate_left
          · (intro wx hSw; obtain ⟨a0, a1, a2, a3, a4, a5, a6, a7, a8, a9, a10, a11⟩ := box12 hSw; go_simp; try (with_reducible rfl))
          try simp only [Act.put, List.setIfInBounds_toArray, List.set_cons_zero, List.set_cons_succ]
          refine twoT (i := 6) (j := 11) rfl rfl (by kernel_rfl) (fun KK hK => ?_) (fun KK hK => ?_)
          · clear hHeld
            go_simp
            refine (HP2.out Y0 XB cxb (below_step b bC) (hXB _ _ ((rB.below bC).more bC.size))).mono ?_
            rintro e Y1 ⟨VA1, nv1, cv1, SA1, ns1, sc1, rfl, rV1, rS1, hns1, ba⟩
            have bC := below_step bC ba
            clear ba
            have hHeld := kqc.step bC
            refine hK.out _ _ (fun _ => hHeld) ?_
            clear hK KK
            try simp only [Act.put, List.setIfInBounds_toArray, List.set_cons_zero, List.set_cons_succ]
            refine takeT (i := 7) (v := ?_) rfl (by kernel_rfl) (by kernel_rfl) (by decide) (by kernel_rfl) (by kernel_rfl) (fun _ _ _ h => h) (Or.inl ⟨by rfl, ?_⟩) hHeld ?_
            rotate_left
            · (intro wx hSw; obtain ⟨a0, a1, a2, a3, a4, a5, a6, a7, a8, a9, a10, a11⟩ := box12 hSw; go_simp; try (with_reducible rfl))
            try simp only [Act.put, List.setIfInBounds_toArray, List.set_cons_zero, List.set_cons_succ]
            refine takeT (i := 8) (v := ?_) rfl (by kernel_rfl) (by kernel_rfl) (by decide) (by kernel_rfl) (by kernel_rfl) (fun _ _ _ h => h) (Or.inl ⟨by rfl, ?_⟩) hHeld ?_
            rotate_left
            · (intro wx hSw; obtain ⟨a0, a1, a2, a3, a4, a5, a6, a7, a8, a9, a10, a11⟩ := box12 hSw; go_simp; try (with_reducible rfl))
            try simp only [Act.put, List.setIfInBounds_toArray, List.set_cons_zero, List.set_cons_succ]
            refine takeT (i := 9) (v := ?_) rfl (by kernel_rfl) (by kernel_rfl) (by decide) (by kernel_rfl) (by kernel_rfl) (fun _ _ _ h => h) (Or.inl ⟨by rfl, ?_⟩) hHeld ?_
            rotate_left
            · (intro wx hSw; obtain ⟨a0, a1, a2, a3, a4, a5, a6, a7, a8, a9, a10, a11⟩ := box12 hSw; go_simp; try (with_reducible rfl))
            try simp only [Act.put, List.setIfInBounds_toArray, List.set_cons_zero, List.set_cons_succ]
            refine takeT (i := 10) (v := ?_) rfl (by kernel_rfl) (by kernel_rfl) (by decide) (by kernel_rfl) (by kernel_rfl) (fun _ _ _ h => h) (Or.inl ⟨by rfl, ?_⟩) hHeld ?_
            rotate_left
            · (intro wx hSw; obtain ⟨a0, a1, a2, a3, a4, a5, a6, a7, a8, a9, a10, a11⟩ := box12 hSw; go_simp; try (with_reducible rfl))
            try simp only [Act.put, List.setIfInBounds_toArray, List.set_cons_zero, List.set_cons_succ]
            refine oneT (i := 11) rfl (by kernel_rfl) (fun KK hK => ?_)
            clear hHeld
            go_simp
            have kA := Blk.new Y1 #[.int .i64 0, .slice none 0 0, .int .u32 0, .int .u64 0, .int .u64 0, .slice none 0 0, .bool false] 29
            have ba := below_a1' (Below.refl Y1.heap.size Y1) (.cells #[.int .i64 0, .slice none 0 0, .int .u32 0, .int .u64 0, .int .u64 0, .slice none 0 0, .bool false] 29)
            have hA0 := bC.size
            have rV1 := rV1.step ba
            have rS1 := rS1.step ba
            have bC := below_step bC ba
            clear ba
            generalize hW : Y1.alloc (.cells #[.int .i64 0, .slice none 0 0, .int .u32 0, .int .u64 0, .int .u64 0, .slice none 0 0, .bool false] 29) = Y2 at kA bC rV1 rS1 ⊢
            clear hW
            generalize Y1.heap.size = gA at kA hA0 ⊢
            have hHeld := kqc.step bC
            refine hK.out _ _ (fun _ => hHeld) ?_
            clear hK KK
            try simp only [Act.put, List.setIfInBounds_toArray, List.set_cons_zero, List.set_cons_succ]
            have hgA := kA.lt
            have gs := grown_put7 Y2 gA (.int .i64 R9.st) (.slice VA1 nv1 cv1) (.int .u32 (R9.F : Nat)) (.int .u64 (R9.C : Nat)) (.int .u64 (R9.N : Nat)) (.slice SA1 ns1 sc1) (.bool false)
            have hqA : w.heap.size ≠ gA := Nat.ne_of_lt (Nat.lt_of_lt_of_le kqc.lt hA0)
            obtain ⟨p0, p1, p2, p3, p4, p5, p6⟩ := box7 kA
            have y0 := kA.frozen 0
            have y1 := kA.frozen 1
            have y2 := kA.frozen 2
            have y3 := kA.frozen 3
            have y4 := kA.frozen 4
            have y5 := kA.frozen 5
            have y6 := kA.frozen 6
            have kq9 := hHeld.left gs hqA
            have b9 := bC.trans (below_grown gs hA0 hgA)
            clear hHeld
            have hHeld := kq9
            refine oneT (i := 12) rfl (by kernel_rfl) (fun KK hK => ?_)
            go_simp
            refine hK.out _ _ (fun _ => hHeld) ?_
            clear hK KK
            try simp only [Act.put, List.setIfInBounds_toArray, List.set_cons_zero, List.set_cons_succ]
            refine oneT (i := 13) rfl (by kernel_rfl) (fun KK hK => ?_)
            go_simp
            refine hK.out _ _ (fun _ => hHeld) ?_
            clear hK KK
            try simp only [Act.put, List.setIfInBounds_toArray, List.set_cons_zero, List.set_cons_succ]
            refine oneT (i := 14) rfl (by kernel_rfl) (fun KK hK => ?_)
            go_simp
            refine hK.out _ _ (fun _ => hHeld) ?_
            clear hK KK
            try simp only [Act.put, List.setIfInBounds_toArray, List.set_cons_zero, List.set_cons_succ]
            refine doneT (by kernel_rfl) ?_ _
            refine NoPanic.normal ?_
            have HR := Lib.hid b9
            clear hHeld kA bC gs hqA hgA kq9 b9 rV1 rS1 hns1 p0 p1 p2 p3 p4 p5 p6 y0 y1 y2 y3 y4 y5 y6
            go_wp2_with fail
            go_meet
            exact ⟨by rw [HER2.out], HR.out⟩
          · clear hHeld
            go_simp
            have kA := Blk.new Y0 #[.int .i64 0, .slice none 0 0, .int .u32 0, .int .u64 0, .int .u64 0, .slice none 0 0, .bool false] 29
            have ba := below_a1' (Below.refl Y0.heap.size Y0) (.cells #[.int .i64 0, .slice none 0 0, .int .u32 0, .int .u64 0, .int .u64 0, .slice none 0 0, .bool false] 29)
            have hA0 := bC.size
            have bC := below_step bC ba
            clear ba
            generalize hW : Y0.alloc (.cells #[.int .i64 0, .slice none 0 0, .int .u32 0, .int .u64 0, .int .u64 0, .slice none 0 0, .bool false] 29) = Y1 at kA bC ⊢
            clear hW
            generalize Y0.heap.size = gA at kA hA0 ⊢
            have hHeld := kqc.step bC
            refine hK.out _ _ (fun _ => hHeld) ?_
            clear hK KK
            try simp only [Act.put, List.setIfInBounds_toArray, List.set_cons_zero, List.set_cons_succ]
            refine oneT (i := 6) rfl (by kernel_rfl) (fun KK hK => ?_)
            clear hHeld
            go_simp
            refine (HP2.out Y1 XB cxb (below_step b bC) (hXB _ _ ((rB.below bC).more bC.size))).mono ?_
            rintro e Y2 ⟨VA1, nv1, cv1, SA1, ns1, sc1, rfl, rV1, rS1, hns1, ba⟩
            have kA := kA.step ba
            have bC := below_step bC ba
            clear ba
            have hHeld := kqc.step bC
            refine hK.out _ _ (fun _ => hHeld) ?_
            clear hK KK
            try simp only [Act.put, List.setIfInBounds_toArray, List.set_cons_zero, List.set_cons_succ]
            refine takeT (i := 7) (v := ?_) rfl (by kernel_rfl) (by kernel_rfl) (by decide) (by kernel_rfl) (by kernel_rfl) (fun _ _ _ h => h) (Or.inl ⟨by rfl, ?_⟩) hHeld ?_
            rotate_left
            · (intro wx hSw; obtain ⟨a0, a1, a2, a3, a4, a5, a6, a7, a8, a9, a10, a11⟩ := box12 hSw; go_simp; try (with_reducible rfl))
            try simp only [Act.put, List.setIfInBounds_toArray, List.set_cons_zero, List.set_cons_succ]
            refine takeT (i := 8) (v := ?_) rfl (by kernel_rfl) (by kernel_rfl) (by decide) (by kernel_rfl) (by kernel_rfl) (fun _ _ _ h => h) (Or.inl ⟨by rfl, ?_⟩) hHeld ?_
            rotate_left
            · (intro wx hSw; obtain ⟨a0, a1, a2, a3, a4, a5, a6, a7, a8, a9, a10, a11⟩ := box12 hSw; go_simp; try (with_reducible rfl))
            try simp only [Act.put, List.setIfInBounds_toArray, List.set_cons_zero, List.set_cons_succ]
            refine takeT (i := 9) (v := ?_) rfl (by kernel_rfl) (by kernel_rfl) (by decide) (by kernel_rfl) (by kernel_rfl) (fun _ _ _ h => h) (Or.inl ⟨by rfl, ?_⟩) hHeld ?_
            rotate_left
            · (intro wx hSw; obtain ⟨a0, a1, a2, a3, a4, a5, a6, a7, a8, a9, a10, a11⟩ := box12 hSw; go_simp; try (with_reducible rfl))
            try simp only [Act.put, List.setIfInBounds_toArray, List.set_cons_zero, List.set_cons_succ]
            refine takeT (i := 10) (v := ?_) rfl (by kernel_rfl) (by kernel_rfl) (by decide) (by kernel_rfl) (by kernel_rfl) (fun _ _ _ h => h) (Or.inl ⟨by rfl, ?_⟩) hHeld ?_
            rotate_left
            · (intro wx hSw; obtain ⟨a0, a1, a2, a3, a4, a5, a6, a7, a8, a9, a10, a11⟩ := box12 hSw; go_simp; try (with_reducible rfl))
            try simp only [Act.put, List.setIfInBounds_toArray, List.set_cons_zero, List.set_cons_succ]
            have hgA := kA.lt
            have gs := grown_put7 Y2 gA (.int .i64 R9.st) (.slice VA1 nv1 cv1) (.int .u32 (R9.F : Nat)) (.int .u64 (R9.C : Nat)) (.int .u64 (R9.N : Nat)) (.slice SA1 ns1 sc1) (.bool false)
            have hqA : w.heap.size ≠ gA := Nat.ne_of_lt (Nat.lt_of_lt_of_le kqc.lt hA0)
            obtain ⟨p0, p1, p2, p3, p4, p5, p6⟩ := box7 kA
            have y0 := kA.frozen 0
            have y1 := kA.frozen 1
            have y2 := kA.frozen 2
            have y3 := kA.frozen 3
            have y4 := kA.frozen 4
            have y5 := kA.frozen 5
            have y6 := kA.frozen 6
            have kq9 := hHeld.left gs hqA
            have b9 := bC.trans (below_grown gs hA0 hgA)
            clear hHeld
            have hHeld := kq9
            refine oneT (i := 12) rfl (by kernel_rfl) (fun KK hK => ?_)
            go_simp
            refine hK.out _ _ (fun _ => hHeld) ?_
            clear hK KK
            try simp only [Act.put, List.setIfInBounds_toArray, List.set_cons_zero, List.set_cons_succ]
            refine oneT (i := 13) rfl (by kernel_rfl) (fun KK hK => ?_)
            go_simp
            refine hK.out _ _ (fun _ => hHeld) ?_
            clear hK KK
            try simp only [Act.put, List.setIfInBounds_toArray, List.set_cons_zero, List.set_cons_succ]
            refine oneT (i := 14) rfl (by kernel_rfl) (fun KK hK => ?_)
            go_simp
            refine hK.out _ _ (fun _ => hHeld) ?_
            clear hK KK
            try simp only [Act.put, List.setIfInBounds_toArray, List.set_cons_zero, List.set_cons_succ]
            refine doneT (by kernel_rfl) ?_ _
            refine NoPanic.normal ?_
            have HR := Lib.hid b9
            clear hHeld kA bC gs hqA hgA kq9 b9 rV1 rS1 hns1 p0 p1 p2 p3 p4 p5 p6 y0 y1 y2 y3 y4 y5 y6
            go_wp2_with fail
            go_meet
            exact ⟨by rw [HER2.out], HR.out⟩
        case rest =>
          obtain ⟨rfl, bc⟩ := hcut
          have ka := ka.step bc
          have kA := kA.step bc
          have rV1 := rV1.step bc
          have rS1 := rS1.step bc
          have b := below_step b bc
          clear bc kqc kq rB HXB hXB wS
          generalize wc = WE at ka kA rV1 rS1 b ⊢
          have hn1 : n1 = nv := by rw [← rV1.len, ← HRV.out.len]
          have hms : m1 = ns := by rw [← hm1, HSL.out]
          clear hm1
          subst hn1 hms
          have HEQ := Lib.hid (equal_any V1 VA n1 c1 n1 cv WE.heap.size lv lv WE rV1 ((HRV.out.below b).more b.size))
          rw [show eqB lv lv = true from decide_eq_true rfl] at HEQ
          have HS1 := Lib.hid rS1
          have HB := Lib.hid b
          clear rV1 rS1 b
          obtain ⟨q0, q1, q2, q3, q4, q5, q6⟩ := box7 ka
          obtain ⟨p0, p1, p2, p3, p4, p5, p6⟩ := box7 kA
          go_wp2_with fail
          refine HEQ.out.mono ?_
          rintro e WF ⟨rfl, hQ⟩
          have bQ := quiet_self hQ
          clear hQ HEQ q0 q1 q2 q3 q4 q5 q6 p0 p1 p2 p3 p4 p5 p6
          have ka := ka.step bQ
          have kA := kA.step bQ
          have HS1F : Hid (Rz WF WF.heap.size 2 S1 m1 d1 (SL.map stCells).flatten) := Lib.hid (HS1.out.step bQ)
          have HBF := Lib.hid (below_step HB.out bQ)
          clear bQ HS1 HB
          obtain ⟨q0, q1, q2, q3, q4, q5, q6⟩ := box7 ka
          obtain ⟨p0, p1, p2, p3, p4, p5, p6⟩ := box7 kA
          go_upto_region 12 with fail
          go_wp2_with fail
          go_loopw [14, 127] (fun _ i wr => ∃ j : Nat, j ≤ m1 ∧ i = .int .i64 (j : Nat) ∧ Below WF.heap.size WF wr) (fun _ i _ => m1 - (intOf i).toNat)
          case atStart => exact ⟨0, Nat.zero_le _, rfl, Below.refl _ _⟩
          case round =>
            obtain ⟨j, hj, rfl, hb⟩ := hrel
            clear q0 q1 q2 q3 q4 q5 q6 p0 p1 p2 p3 p4 p5 p6
            have k1 := kA.step hb
            have k2 := ka.step hb
            obtain ⟨p0, p1, p2, p3, p4, p5, p6⟩ := box7 k1
            obtain ⟨z0, z1, z2, z3, z4, z5, z6⟩ := box7 k2
            by_cases hlt : j < m1
            · obtain ⟨ad1, x, hA1, hx1, c0, c1'⟩ := stat_at (HS1F.out.step hb) hlt
              obtain ⟨ad2, y, hA2, hx2, d0, d1'⟩ := stat_at ((HRS.out.below HBF.out).below (hb.mono HBF.out.size)) hlt
              obtain rfl : x = y := by rw [hx1] at hx2; injection hx2
              subst hA1 hA2
              have hlt' : ((j : Int) < (m1 : Int)) = True := eq_true (by omega)
              have HJP : IntKind.i64.wrap ((j : Int) + 1) = (j : Int) + 1 := IntWalk.i64_in _ (by have := HK.out.2; omega)
              have HLT : Hid (j + 1 ≤ m1) := Lib.hid (by omega)
              have HC := Lib.hid (And.intro c0 (And.intro c1' (And.intro d0 d1')))
              clear hlt hx1 hx2 c0 c1' d0 d1'
              go_upto_region 15 with fail
              have hbd := hb.drew
              have HCd : Hid (wr.drew.cell? ((ad1.add (j * 2)).add 0) = some (.string x.1) ∧ wr.drew.cell? ((ad1.add (j * 2)).add 1) = some (.string x.2) ∧ wr.drew.cell? ((ad2.add (j * 2)).add 0) = some (.string x.1) ∧ wr.drew.cell? ((ad2.add (j * 2)).add 1) = some (.string x.2)) := Lib.hid HC.out
              have k1d : Blk wr.drew gA #[.int .i64 st, .slice V1 n1 c1, .int .u32 (af : Nat), .int .u64 (ac : Nat), .int .u64 (an : Nat), .slice (some ad1) m1 d1, .bool false] 29 := k1
              have k2d : Blk wr.drew (w.heap.size + 1) #[.int .i64 st, .slice VA n1 cv, .int .u32 (af : Nat), .int .u64 (ac : Nat), .int .u64 (an : Nat), .slice (some ad2) m1 sc, .bool cl] 29 := k2
              clear p0 p1 p2 p3 p4 p5 p6 z0 z1 z2 z3 z4 z5 z6 k1 k2
              refine wp_region_still_tail 10 (by kernel_rfl) (by kernel_rfl) ?_
              change wpStill _ _ wr.drew (fun a' => wpList _ _ _ _ a' wr.drew) _ _
              generalize wr.drew = W1 at hbd HCd k1d k2d ⊢
              obtain ⟨p0, p1, p2, p3, p4, p5, p6⟩ := box7 k1d
              obtain ⟨z0, z1, z2, z3, z4, z5, z6⟩ := box7 k2d
              simp only [List.take_succ_cons, List.take_zero, List.drop_succ_cons, List.drop_zero]
              still_step
              still_step
              still_step
              still_step
              refine still_loadSt (by rfl) _ rfl (ad1.add (j * 2)) (by rfl) x.1 x.2 HCd.out.1 HCd.out.2.1 ?_
              still_step
              still_step
              still_step
              still_step
              refine still_loadSt (by rfl) _ rfl (ad2.add (j * 2)) (by rfl) x.1 x.2 HCd.out.2.2.1 HCd.out.2.2.2 ?_
              refine wpStill_nil ?_
              go_wp2_with fail
              go_roundw
              case rel => exact ⟨j + 1, HLT.out, by first | rfl | go_num, hbd⟩
              case measure => have := HLT.out; simp [intOf]; omega
            · have hlt' : ((j : Int) < (m1 : Int)) = False := eq_false (by omega)
              have HBB := Lib.hid (below_step HBF.out hb)
              clear hlt hb k1 k2
              go_wp2_with fail
              go_ret
              exact ⟨rfl, HBB.out⟩
    · have eE : (R.2 != 0) = true := bne_iff_ne.2 h0
      clear h0 hlen rB
      go_wp2_with fail
      go_ret
      exact ⟨rfl, b⟩

set_option maxRecDepth 100000 in
theorem lifted_replyBack (os : Os) (started : os.Started) (H : Type) (enc : TypeId × Value → H) :
    ReturnsInHanded {} Try.checked os 16 .any (Rows.replyBackSpec.pre6 enc Try.prog Try.f16 Rows.replyBackRow.domain false) (Rows.replyBackSpec.post enc Try.prog Try.f16 false true false false) := by
  refine returnsInHanded_of_change_sized (C := Try.checked) own started (by kernel_rfl) Try.func16
    (ChangeSpec.witness6 (enc := enc) (C := Try.checked) false ⟨#[], #[.agg #[.int .i64 0, .bool false, .bool false, .int .i64 0, .int .u32 0, .slice none 0 0, .slice none 0 0, .int .u32 0, .int .u32 0, .int .u64 0, .int .u64 0, .int .u64 0], .agg #[.int .i64 0, .slice none 0 0, .int .u32 0, .int .u64 0, .int .u64 0, .slice none 0 0, .bool false], .slice none 0 0], []⟩ 8 (by kernel_rfl) (by kernel_rfl) (by kernel_rfl) (by kernel_rfl)) ?_
  intro W base args ds gs before hval0 hW hcnd hsz0 _
  have hval : ∀ (j : Nat) t v, Try.f16.params[j]? = some t → args[j]? = some v → Value.okWide Try.prog W .any base t v := hval0
  have hsz : (DataW.weightsEach Try.prog (Try.f16.params.toList ++ Rows.replyBackSpec.plain.varTypes Try.prog) (ds ++ gs)).all (· ≤ reachBytes) = true := hsz0
  have hW' := hW
  obtain ⟨p, q, hA0, hV, rfl, hfz, hnd⟩ := hW
  have hA : DataW.TrodAll enc Try.prog W 0 (fun _ => true) true Try.f16.params.toList args.toList ds p := hA0
  rw [Try.params16] at hA hval hsz
  obtain ⟨v0, vs0, d0, ds0, p0, q0, hargs, rfl, rfl, h0, t0⟩ := trodAll_cons hA
  obtain ⟨v1, vs1, d1, ds1, p1, q1, rfl, rfl, rfl, h1, t1⟩ := trodAll_cons t0
  obtain ⟨v2, vs2, d2, ds2, p2, q2, rfl, rfl, rfl, h2, t2⟩ := trodAll_cons t1
  obtain ⟨rfl, rfl, rfl⟩ := trodAll_nil t2
  obtain rfl : args = #[v0, v1, v2] := by cases args; simp_all
  obtain ⟨rfl, rfl⟩ := trodVars_none hV
  have k0 := h0
  obtain ⟨op0, qt0, fu0, bd0, oq0, fl0, ex0, cs0, dl0, ni0, K0, nk0, ck0, lk0, V0, nv0, cv0, lv0, rfl, r0, y0⟩ := open_req (hval 0 26 v0 rfl rfl) h0
  have s0 := y0 (weights_of hsz (j := 0) rfl rfl)
  have k1 := h1
  obtain ⟨st1, VA1, nv1, cv1, lv1, af1, ac1, an1, SA1, ns1, sc1, SL1, cl1, rfl, r1, y1⟩ := open_ans (hval 1 29 v1 rfl rfl) h1
  have s1 := y1 (weights_of hsz (j := 1) rfl rfl)
  have k2 := h2
  obtain ⟨A2, n2, c2, l2, rfl, r2, y2⟩ := open_bytes (hval 2 23 v2 rfl rfl) h2
  have s2 := y2 (weights_of hsz (j := 2) rfl rfl)
  clear hA0 hval0
  refine (walk_replyBack op0 qt0 fu0 bd0 oq0 fl0 ex0 cs0 dl0 ni0 K0 nk0 ck0 lk0 V0 nv0 cv0 lv0 st1 VA1 nv1 cv1 lv1 af1 ac1 an1 SA1 ns1 sc1 SL1 cl1 A2 n2 c2 l2 W r0 s0 r1 s1 r2 s2).mono fun e W' ⟨he, bel⟩ => ?_
  subst he
  exact ⟨_, rfl, _, _, _, [], _, [], hW', trodAll_mk1 (shut_bool Try.underlying4 _), (trodAll_cons_mk (Below.trod laidOut (by kernel_rfl) (of_decide_eq_true (by kernel_rfl)) k0 bel (trod_places k0)) (trodAll_cons_mk (Below.trod laidOut (by kernel_rfl) (of_decide_eq_true (by kernel_rfl)) k1 bel (trod_places k1)) (trodAll_cons_mk (Below.trod laidOut (by kernel_rfl) (of_decide_eq_true (by kernel_rfl)) k2 bel (trod_places k2)) trodAll_mk0))), rfl, bel.frame _, fun h => by cases h⟩

theorem closed_replyBack : joinedFacts Try.pinned.checked.prog 16 Try.f16 Rows.replyBackSpec Rows.replyBackRow = true := by
  unfold joinedFacts
  rw [clo_heard, clo_may, clo_lifts, clo_make]
  kernel_rfl
theorem over_replyBack : Rows.replyBackRow.holds Try.pinned (OpenSpec.ofChange Rows.replyBackSpec) :=
  OpenClaim.holds_of_wide 16 Try.f16 rfl rfl rfl rfl rfl rfl rfl ⟨rfl, rfl, rfl, rfl, rfl⟩ rfl rfl rfl rfl rfl (by kernel_rfl) Try.func16 closed_replyBack
    (of_decide_eq_true (by kernel_rfl)) (by unfold Func.isWrapper; first | (rw [if_pos (by decide +kernel)]; kernel_rfl) | (rw [if_neg (by decide +kernel)]; exact ⟨rfl, rfl⟩))
    (fun os started H enc _ => lifted_replyBack os started H enc)

/-- The statement. -/
theorem replyBack_holds : Rows.ReplyBackSaid := over_replyBack
#print axioms replyBack_holds

end Go.Proofs.Ytnghmgbmflcngaa

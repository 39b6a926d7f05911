/- A connection's Answer. Conditions: typed in each theorem. -/
import Derived.Test.YtnghmgbmflcngaaCn
import Derived.Test.YtnghmgbmflcngaaPrb
import Derived.Test.YtnghmgbmflcngaaRfr
import Derived.Deep.DeepCutAuto
namespace Go.Proofs.Ytnghmgbmflcngaa
set_option linter.unusedVariables false
open Go.RowKit
theorem wpl_appO (w : World) {ops : Array Oper} {rest : List Oper} {o : Oper} {a : Act} {Q : Exit → Act → World → Prop}
    (hg : Region.wanted o (yielded ops a.tmps) = true) (s x : Operand) (hop : o.op = Op.call { callee := Callee.builtin Builtin.append, args := #[s, x], argTypes := #[23, 23] })
    (B : Nat) (A : Option Addr) (n c : Nat) (l : List UInt8) (hs : a.eval s = .slice A n c) (hown : Own w B A n c l)
    (B2 : Nat) (A2 : Option Addr) (m c2 : Nat) (l2 : List UInt8) (hx : a.eval x = .slice A2 m c2) (hr : Rd w B2 A2 m c2 l2)
    (hbytes : n + m ≤ 140737488355328) (hbase : B ≤ w.heap.size)
    (hK : ∀ A' c' w', Own w' B A' (n + m) c' (l ++ l2) → w.grownBy w' (obk A) → (obk A' = obk A ∨ obk A' = some w.heap.size) → wpList Try.prog ops Q rest (a.put o.dst (.slice A' (n + m) c')) w') :
    wpList Try.prog ops Q (o :: rest) a w := by
  refine wpList_want hg fun K hK' => ?_
  obtain ⟨i0, hi0, hz0, hz1, hz2⟩ := info_parts u8info
  obtain ⟨A', c', w', hrun, h1, h2, r3⟩ := run_app (P := Try.prog) w B 23 o.type 5 i0 _ 1 Try.underlying23 hi0 hz0 hz1 hz2 rfl A n c (cbs l) hown B2 A2 m c2 (cbs l2) hr (cbs_one _) (fits_small (by omega)) (by unfold maxLen; omega) hbase
  rw [obk_eq] at h2 r3
  rw [obk_eq] at r3
  unfold Oper.wp
  simp [execOp, hop, resolve, invoke, builtin, hs, hx, hrun, Result.andThen]
  exact hK' _ _ (hK A' c' w' (by unfold Own; rw [cbs_append]; exact h1) h2 r3)
theorem Que.kpx {w w' : World} {B n c : Nat} {A : Option Addr} {l : List UInt8} (h : Que w B A n c l) {G : Nat → Prop} (hk : Kp w w' G) (hG : ∀ k, obk A = some k → ¬ G k) : Que w' B A n c l := by
  refine ⟨h.1, ?_⟩
  rcases h.2 with h' | ⟨g, i, cur, hA, hB, hh, r⟩
  · exact Or.inl h'
  · exact Or.inr ⟨g, i, cur, hA, hB, (hk.block g (Array.getElem?_eq_some_iff.1 hh).1 (hG g (by rw [hA]; rfl))).trans hh, r⟩
theorem CnA.say {w w' : World} {B gc gp n c on oc on' oc' : Nat} {A OA OA' : Option Addr} {l lo lo' : List UInt8} {wv : Value} {wq : Option RQ} (h : CnA w B gc gp A n c l OA on oc lo wv wq) (o : Own w' B OA' on' oc' lo') (gg : w.grownBy w' (obk OA)) (hA : obk OA' = obk OA ∨ obk OA' = some w.heap.size) :
    CnA (w'.setCell ⟨gc, 2, none⟩ (.slice OA' on' oc')) B gc gp A n c l OA' on' oc' lo' wv wq ∧ Kp w (w'.setCell ⟨gc, 2, none⟩ (.slice OA' on' oc')) (FP gc gp A OA) := by
  have hk1 := Kp.of_row gg
  have g2 := rdr_grown_set w' gc 2 (.slice OA' on' oc')
  have hk2 := Kp.of_grown g2
  have hO : ∀ k, obk OA' = some k → obk OA = some k ∨ k = w.heap.size := fun k hk => by
    rcases hA with e | e
    · exact Or.inl (e.symm.trans hk)
    · rw [e] at hk; exact Or.inr (Option.some.inj hk).symm
  have hlc := h.box.lt
  have hlp := h.prs.lt
  have nc : obk OA' ≠ some gc := fun e => by
    rcases hO gc e with e | e
    · exact h.oc_ e
    · omega
  have kb := hk1.blk h.box (fun e => h.oc_ e.symm)
  have kp := hk1.blk h.prs.1 (fun e => h.op_ e.symm)
  have kq := Que.kpx h.prs.2 hk1 (fun k e1 e2 => h.oa k e1 e2.symm)
  refine ⟨⟨kb.set_ 2 _, ⟨hk2.blk kp (fun e => h.cp e.symm), Que.kpx kq hk2 (fun k e1 e2 => h.ac (by rw [← e2]; exact e1))⟩, o.kp hk2 (fun k e1 e2 => nc (by rw [← e2]; exact e1)),
    (h.wait.kp (F' := fun k => FP gc gp A OA k ∨ w.heap.size ≤ k) hk1 (fun k _ e => Or.inr (Or.inr (Or.inr e.symm))) (fun k hk e => e.elim id (fun e => absurd hk (Nat.not_lt.2 e)))).kp hk2 (fun k _ e => Or.inl (Or.inl e)) (fun k hk e => ?_), h.bc, h.bp, h.cp, h.ac, nc, (fun e => ?_), (fun k e1 e2 => ?_)⟩, (hk1.weak (fun k e => Or.inr (Or.inr (Or.inr e.symm)))).after hk2 (fun k _ e => Or.inl e)⟩
  · rcases e with e | e | e | e
    · exact Or.inl (Or.inl e)
    · exact Or.inl (Or.inr (Or.inl e))
    · exact Or.inl (Or.inr (Or.inr (Or.inl e)))
    · rcases hO k e with e | e
      · exact Or.inl (Or.inr (Or.inr (Or.inr e)))
      · exact Or.inr (by omega)
  · rcases hO gp e with e | e
    · exact h.op_ e
    · omega
  · rcases hO k e2 with e | e
    · exact h.oa k e1 e
    · have := (h.pa e1).2; omega
theorem CnA.set1b {w : World} {B gc gp n c on oc : Nat} {A OA : Option Addr} {l lo : List UInt8} {wv : Value} {wq : Option RQ} (h : CnA w B gc gp A n c l OA on oc lo wv wq) : CnA (w.setCell ⟨gc, 1, none⟩ (.pointer none)) B gc gp A n c l OA on oc lo (.pointer none) none := by
  have gg := rdr_grown_set w gc 1 (.pointer none)
  have hkp := Kp.of_grown gg
  exact ⟨h.box.set_ 1 _, ⟨hkp.blk h.prs.1 (fun e => h.cp e.symm), h.prs.2.kpx hkp (fun k e1 e2 => h.ac (by rw [← e2]; exact e1))⟩, h.out.kp hkp (fun k hk e => h.oc_ (by rw [← e]; exact hk)), rfl, h.bc, h.bp, h.cp, h.ac, h.oc_, h.op_, h.oa⟩
def AnsQ (B gc gp : Nat) (A : Option Addr) (n c : Nat) (l : List UInt8) (OA : Option Addr) (on : Nat) (lo R : List UInt8) (w : World) (e : Ending) (w' : World) : Prop :=
  ∃ OA' oc', e = .returned (.int .i64 0) ∧ CnA w' B gc gp A n c l OA' (on + R.length) oc' (lo ++ R) (.pointer none) none ∧ Kp w w' (FP gc gp A OA) ∧ (obk OA' = obk OA ∨ ∃ k, obk OA' = some k ∧ w.heap.size ≤ k)
set_option maxRecDepth 100000 in
set_option maxHeartbeats 4000000 in
theorem canswer_ok (B gc gp n c on oc : Nat) (A OA : Option Addr) (l lo : List UInt8) (wv : Value) (q : RQ) (w : World) (h : CnA w B gc gp A n c l OA on oc lo wv (some q)) (K : Option Addr) (nk ck : Nat) (V : Option Addr) (nv cv : Nat) (rk : Rd w w.heap.size K nk ck q.lk) (rv : Rd w w.heap.size V nv cv q.lv) (st : Int) (VA : Option Addr) (nva cva : Nat) (lva : List UInt8) (af ac an : Nat) (SA : Option Addr) (ns sc : Nat) (SL : List (ByteArray × ByteArray)) (ra : Rd w w.heap.size VA nva cva lva) (rS : Rz w w.heap.size 2 SA ns sc (SL.map stCells).flatten) (hsl : SL.length = ns) (haf : af < 4294967296) (hac : ac < 18446744073709551616) (han : an < 18446744073709551616) (hns : ns ≤ 1000) (hoq : q.oq < 4294967296) (hnk : nk ≤ 1000000) (hon : on ≤ 100000000000) (hw : wrongA st q.op nva af ac an ns SL = false) (R : List UInt8) (hR : ofR q.op q.qt q.fu q.oq st nva af ac an ns q.lk lva SL = (R, 0)) (hRl : R.length ≤ 1000000) : Calls Try.prog 66 #[.pointer (some ⟨gc, 0, none⟩), reqV q.op q.qt q.fu q.bd q.oq (.slice K nk ck) (.slice V nv cv) q.fl q.ex q.cs q.dl q.ni, ansV st (.slice VA nva cva) af ac an (.slice SA ns sc) false] w (AnsQ B gc gp A n c l OA on lo R w) := by
  obtain ⟨gw, Kw, nkw, ckw, Vw, nvw, cvw, rfl, kw, hgw, fK, fV⟩ := h.wait
  have HSA : Hid (∀ W, Below w.heap.size w W → Calls Try.prog 48 #[.agg #[.int .i64 q.op, .bool q.qt, .bool q.fu, .int .i64 q.bd, .int .u32 (q.oq : Nat), .slice Kw nkw ckw, .slice Vw nvw cvw, .int .u32 (q.fl : Nat), .int .u32 (q.ex : Nat), .int .u64 (q.cs : Nat), .int .u64 (q.dl : Nat), .int .u64 (q.ni : Nat)], .agg #[.int .i64 q.op, .bool q.qt, .bool q.fu, .int .i64 q.bd, .int .u32 (q.oq : Nat), .slice K nk ck, .slice V nv cv, .int .u32 (q.fl : Nat), .int .u32 (q.ex : Nat), .int .u64 (q.cs : Nat), .int .u64 (q.dl : Nat), .int .u64 (q.ni : Nat)]] W (PSame true W)) := Lib.hid (fun W b => by have h := qsame_any q.op q.op q.bd q.bd q.qt q.qt q.fu q.fu q.oq q.oq q.fl q.fl q.ex q.ex q.cs q.cs q.dl q.dl q.ni q.ni Kw K Vw V nkw ckw nk ck nvw cvw nv cv q.lk q.lk q.lv q.lv W ((fK.1.below b).more b.size) ((rk.below b).more b.size) ((fV.1.below b).more b.size) ((rv.below b).more b.size); rw [reqSame_yes ⟨rfl, rfl, rfl, rfl, rfl, rfl, rfl, rfl, rfl, rfl, rfl, rfl⟩] at h; exact h)
  have HCK : Hid (∀ W, Below w.heap.size w W → Calls Try.prog 25 #[.agg #[.int .i64 q.op, .bool q.qt, .bool q.fu, .int .i64 q.bd, .int .u32 (q.oq : Nat), .slice K nk ck, .slice V nv cv, .int .u32 (q.fl : Nat), .int .u32 (q.ex : Nat), .int .u64 (q.cs : Nat), .int .u64 (q.dl : Nat), .int .u64 (q.ni : Nat)], .agg #[.int .i64 st, .slice VA nva cva, .int .u32 (af : Nat), .int .u64 (ac : Nat), .int .u64 (an : Nat), .slice SA ns sc, .bool false]] W (BoxQ' (.int .i64 0) W)) := Lib.hid (fun W b => by have h := check_any q.op q.qt q.fu q.bd q.oq (.slice K nk ck) (.slice V nv cv) q.fl q.ex q.cs q.dl q.ni st VA nva cva af ac an SA ns sc false SL W ((rS.below b).more b.size) (by omega) hsl; rw [hw] at h; exact h)
  have HOF : Hid (∀ W, Below w.heap.size w W → Calls Try.prog 22 #[.agg #[.int .i64 q.op, .bool q.qt, .bool q.fu, .int .i64 q.bd, .int .u32 (q.oq : Nat), .slice K nk ck, .slice V nv cv, .int .u32 (q.fl : Nat), .int .u32 (q.ex : Nat), .int .u64 (q.cs : Nat), .int .u64 (q.dl : Nat), .int .u64 (q.ni : Nat)], .agg #[.int .i64 st, .slice VA nva cva, .int .u32 (af : Nat), .int .u64 (ac : Nat), .int .u64 (an : Nat), .slice SA ns sc, .bool false]] W (OfQ (R, 0) W)) := Lib.hid (fun W b => by have h := of_any q.op q.qt q.fu q.bd q.oq K nk ck q.lk (.slice V nv cv) q.fl q.ex q.cs q.dl q.ni st VA nva cva lva af ac an SA ns sc SL false W ((rk.below b).more b.size) ((ra.below b).more b.size) ((rS.below b).more b.size) hsl hnk haf hac han (by omega) hoq; rw [hR] at h; exact h)
  have HNUM := Lib.hid (And.intro hon hRl)
  have HFP : Hid (∀ k, FP gc gp A OA k → k < w.heap.size) := Lib.hid (fun k hk => (h.fp k hk).2)
  have HB : Hid (B ≤ w.heap.size) := Lib.hid (by have := h.bc; have := h.box.lt; omega)
  clear fK fV hgw rk rv ra rS hsl haf hac han hns hoq hnk hon hw hR hRl
  have k4 := (Blk.new w #[.int .i64 q.op, .bool q.qt, .bool q.fu, .int .i64 q.bd, .int .u32 (q.oq : Nat), .slice K nk ck, .slice V nv cv, .int .u32 (q.fl : Nat), .int .u32 (q.ex : Nat), .int .u64 (q.cs : Nat), .int .u64 (q.dl : Nat), .int .u64 (q.ni : Nat)] 26).alloc (.cells #[.int .i64 st, .slice VA nva cva, .int .u32 (af : Nat), .int .u64 (ac : Nat), .int .u64 (an : Nat), .slice SA ns sc, .bool false] 29)
  have k5 := Blk.new (w.alloc (.cells #[.int .i64 q.op, .bool q.qt, .bool q.fu, .int .i64 q.bd, .int .u32 (q.oq : Nat), .slice K nk ck, .slice V nv cv, .int .u32 (q.fl : Nat), .int .u32 (q.ex : Nat), .int .u64 (q.cs : Nat), .int .u64 (q.dl : Nat), .int .u64 (q.ni : Nat)] 26)) #[.int .i64 st, .slice VA nva cva, .int .u32 (af : Nat), .int .u64 (ac : Nat), .int .u64 (an : Nat), .slice SA ns sc, .bool false] 29
  rw [World.size_alloc] at k5
  have b := below_a1' (below_a1' (Below.refl w.heap.size w) (.cells #[.int .i64 q.op, .bool q.qt, .bool q.fu, .int .i64 q.bd, .int .u32 (q.oq : Nat), .slice K nk ck, .slice V nv cv, .int .u32 (q.fl : Nat), .int .u32 (q.ex : Nat), .int .u64 (q.cs : Nat), .int .u64 (q.dl : Nat), .int .u64 (q.ni : Nat)] 26)) (.cells #[.int .i64 st, .slice VA nva cva, .int .u32 (af : Nat), .int .u64 (ac : Nat), .int .u64 (an : Nat), .slice SA ns sc, .bool false] 29)
  replace h := h.step b
  replace kw := kw.step b
  unfold reqV ansV
  go_enter Try.func66, Try.ntmps66
  go_upto_region 1 with fail
  generalize (w.alloc (.cells #[.int .i64 q.op, .bool q.qt, .bool q.fu, .int .i64 q.bd, .int .u32 (q.oq : Nat), .slice K nk ck, .slice V nv cv, .int .u32 (q.fl : Nat), .int .u32 (q.ex : Nat), .int .u64 (q.cs : Nat), .int .u64 (q.dl : Nat), .int .u64 (q.ni : Nat)] 26)).alloc (.cells #[.int .i64 st, .slice VA nva cva, .int .u32 (af : Nat), .int .u64 (ac : Nat), .int .u64 (an : Nat), .slice SA ns sc, .bool false] 29) = W0 at h kw k4 k5 b ⊢
  obtain ⟨p0, p1, p2, p3⟩ := box4 h.box
  go_upto_region 7 with fail
  clear p0 p1 p2 p3
  go_cut [23] (fun s23 wx => s23 = .bool false ∧ CnA wx B gc gp A n c l OA on oc lo (.pointer (some ⟨gw, 0, none⟩)) (some q) ∧ Blk wx w.heap.size #[.int .i64 q.op, .bool q.qt, .bool q.fu, .int .i64 q.bd, .int .u32 (q.oq : Nat), .slice K nk ck, .slice V nv cv, .int .u32 (q.fl : Nat), .int .u32 (q.ex : Nat), .int .u64 (q.cs : Nat), .int .u64 (q.dl : Nat), .int .u64 (q.ni : Nat)] 26 ∧ Blk wx (w.heap.size + 1) #[.int .i64 st, .slice VA nva cva, .int .u32 (af : Nat), .int .u64 (ac : Nat), .int .u64 (an : Nat), .slice SA ns sc, .bool false] 29 ∧ Below w.heap.size w wx)
  case first =>
    refine wp_region_noPanic ?_
    refine region_T (fun wx => Blk wx gc #[.pointer (some ⟨gp, 0, none⟩), .pointer (some ⟨gw, 0, none⟩), .slice OA on oc, .bool false] 160 ∧ Blk wx gw #[.int .i64 q.op, .bool q.qt, .bool q.fu, .int .i64 q.bd, .int .u32 (q.oq : Nat), .slice Kw nkw ckw, .slice Vw nvw cvw, .int .u32 (q.fl : Nat), .int .u32 (q.ex : Nat), .int .u64 (q.cs : Nat), .int .u64 (q.dl : Nat), .int .u64 (q.ni : Nat)] 26 ∧ Blk wx w.heap.size #[.int .i64 q.op, .bool q.qt, .bool q.fu, .int .i64 q.bd, .int .u32 (q.oq : Nat), .slice K nk ck, .slice V nv cv, .int .u32 (q.fl : Nat), .int .u32 (q.ex : Nat), .int .u64 (q.cs : Nat), .int .u64 (q.dl : Nat), .int .u64 (q.ni : Nat)] 26 ∧ Blk wx (w.heap.size + 1) #[.int .i64 st, .slice VA nva cva, .int .u32 (af : Nat), .int .u64 (ac : Nat), .int .u64 (an : Nat), .slice SA ns sc, .bool false] 29) 16 (by kernel_rfl) ?_
    have bD : Below W0.heap.size W0 W0.drew := (Below.refl _ _).drew
    replace h := h.step bD
    replace kw := kw.step bD
    replace k4 := k4.step bD
    replace k5 := k5.step bD
    replace b := below_step b bD
    have hHeld := And.intro h.box (And.intro kw (And.intro k4 k5))
    clear bD
    generalize W0.drew = Y0 at h kw k4 k5 b hHeld ⊢
    refine takeA (i := 0) (v := ?_) rfl (fun _ _ _ h => h) (Or.inl ⟨by rfl, ?_⟩) hHeld ?_
    rotate_left
    · (intro wx hSw; obtain ⟨sa, sb, sc1, sd⟩ := hSw; obtain ⟨a0, a1, a2, a3⟩ := box4 sa; obtain ⟨d0, d1, d2, d3, d4, d5, d6, d7, d8, d9, d10, d11⟩ := box12 sb; obtain ⟨e0, e1, e2, e3, e4, e5, e6, e7, e8, e9, e10, e11⟩ := box12 sc1; obtain ⟨f0, f1, f2, f3, f4, f5, f6⟩ := box7 sd; go_simp; try (with_reducible rfl))
    try simp only [Act.put, List.setIfInBounds_toArray, List.set_cons_zero, List.set_cons_succ]
    refine takeA (i := 1) (v := ?_) rfl (fun _ _ _ h => h) (Or.inl ⟨by rfl, ?_⟩) hHeld ?_
    rotate_left
    · (intro wx hSw; obtain ⟨sa, sb, sc1, sd⟩ := hSw; obtain ⟨a0, a1, a2, a3⟩ := box4 sa; obtain ⟨d0, d1, d2, d3, d4, d5, d6, d7, d8, d9, d10, d11⟩ := box12 sb; obtain ⟨e0, e1, e2, e3, e4, e5, e6, e7, e8, e9, e10, e11⟩ := box12 sc1; obtain ⟨f0, f1, f2, f3, f4, f5, f6⟩ := box7 sd; go_simp; try (with_reducible rfl))
    try simp only [Act.put, List.setIfInBounds_toArray, List.set_cons_zero, List.set_cons_succ]
    refine takeA (i := 2) (v := ?_) rfl (fun _ _ _ h => h) (Or.inl ⟨by rfl, ?_⟩) hHeld ?_
    rotate_left
    · (intro wx hSw; obtain ⟨sa, sb, sc1, sd⟩ := hSw; obtain ⟨a0, a1, a2, a3⟩ := box4 sa; obtain ⟨d0, d1, d2, d3, d4, d5, d6, d7, d8, d9, d10, d11⟩ := box12 sb; obtain ⟨e0, e1, e2, e3, e4, e5, e6, e7, e8, e9, e10, e11⟩ := box12 sc1; obtain ⟨f0, f1, f2, f3, f4, f5, f6⟩ := box7 sd; go_simp; try (with_reducible rfl))
    try simp only [Act.put, List.setIfInBounds_toArray, List.set_cons_zero, List.set_cons_succ]
    refine takeA (i := 3) (v := ?_) rfl (fun _ _ _ h => h) (Or.inl ⟨by rfl, ?_⟩) hHeld ?_
    rotate_left
    · (intro wx hSw; obtain ⟨sa, sb, sc1, sd⟩ := hSw; obtain ⟨a0, a1, a2, a3⟩ := box4 sa; obtain ⟨d0, d1, d2, d3, d4, d5, d6, d7, d8, d9, d10, d11⟩ := box12 sb; obtain ⟨e0, e1, e2, e3, e4, e5, e6, e7, e8, e9, e10, e11⟩ := box12 sc1; obtain ⟨f0, f1, f2, f3, f4, f5, f6⟩ := box7 sd; go_simp; try (with_reducible rfl))
    try simp only [Act.put, List.setIfInBounds_toArray, List.set_cons_zero, List.set_cons_succ]
    refine takeA (i := 4) (v := ?_) rfl (fun _ _ _ h => h) (Or.inl ⟨by rfl, ?_⟩) hHeld ?_
    rotate_left
    · (intro wx hSw; obtain ⟨sa, sb, sc1, sd⟩ := hSw; obtain ⟨a0, a1, a2, a3⟩ := box4 sa; obtain ⟨d0, d1, d2, d3, d4, d5, d6, d7, d8, d9, d10, d11⟩ := box12 sb; obtain ⟨e0, e1, e2, e3, e4, e5, e6, e7, e8, e9, e10, e11⟩ := box12 sc1; obtain ⟨f0, f1, f2, f3, f4, f5, f6⟩ := box7 sd; go_simp; try (with_reducible rfl))
    try simp only [Act.put, List.setIfInBounds_toArray, List.set_cons_zero, List.set_cons_succ]
    refine takeA (i := 5) (v := ?_) rfl (fun _ _ _ h => h) (Or.inl ⟨by rfl, ?_⟩) hHeld ?_
    rotate_left
    · (intro wx hSw; obtain ⟨sa, sb, sc1, sd⟩ := hSw; obtain ⟨a0, a1, a2, a3⟩ := box4 sa; obtain ⟨d0, d1, d2, d3, d4, d5, d6, d7, d8, d9, d10, d11⟩ := box12 sb; obtain ⟨e0, e1, e2, e3, e4, e5, e6, e7, e8, e9, e10, e11⟩ := box12 sc1; obtain ⟨f0, f1, f2, f3, f4, f5, f6⟩ := box7 sd; go_simp; try (with_reducible rfl))
    try simp only [Act.put, List.setIfInBounds_toArray, List.set_cons_zero, List.set_cons_succ]
    refine takeA (i := 6) (v := ?_) rfl (fun _ _ _ h => h) (Or.inl ⟨by rfl, ?_⟩) hHeld ?_
    rotate_left
    · (intro wx hSw; obtain ⟨sa, sb, sc1, sd⟩ := hSw; obtain ⟨a0, a1, a2, a3⟩ := box4 sa; obtain ⟨d0, d1, d2, d3, d4, d5, d6, d7, d8, d9, d10, d11⟩ := box12 sb; obtain ⟨e0, e1, e2, e3, e4, e5, e6, e7, e8, e9, e10, e11⟩ := box12 sc1; obtain ⟨f0, f1, f2, f3, f4, f5, f6⟩ := box7 sd; go_simp; try (with_reducible rfl))
    try simp only [Act.put, List.setIfInBounds_toArray, List.set_cons_zero, List.set_cons_succ]
    refine oneT (i := 7) rfl (by kernel_rfl) (fun KK hK => ?_)
    go_simp
    refine (HSA.out Y0 b).mono ?_
    rintro e Y1 ⟨rfl, b1⟩
    clear hHeld
    replace h := h.step b1
    replace kw := kw.step b1
    replace k4 := k4.step b1
    replace k5 := k5.step b1
    replace b := below_step b b1
    have hHeld := And.intro h.box (And.intro kw (And.intro k4 k5))
    clear b1
    refine hK.out _ _ (fun _ => hHeld) ?_
    clear hK KK
    try simp only [Act.put, List.setIfInBounds_toArray, List.set_cons_zero, List.set_cons_succ]
    refine takeA (i := 8) (v := ?_) rfl (fun _ _ _ h => h) (Or.inl ⟨by rfl, ?_⟩) hHeld ?_
    rotate_left
    · (intro wx hSw; obtain ⟨sa, sb, sc1, sd⟩ := hSw; obtain ⟨a0, a1, a2, a3⟩ := box4 sa; obtain ⟨d0, d1, d2, d3, d4, d5, d6, d7, d8, d9, d10, d11⟩ := box12 sb; obtain ⟨e0, e1, e2, e3, e4, e5, e6, e7, e8, e9, e10, e11⟩ := box12 sc1; obtain ⟨f0, f1, f2, f3, f4, f5, f6⟩ := box7 sd; go_simp; try (with_reducible rfl))
    try simp only [Act.put, List.setIfInBounds_toArray, List.set_cons_zero, List.set_cons_succ]
    refine takeA (i := 9) (v := ?_) rfl (fun _ _ _ h => h) (Or.inl ⟨by rfl, ?_⟩) hHeld ?_
    rotate_left
    · (intro wx hSw; obtain ⟨sa, sb, sc1, sd⟩ := hSw; obtain ⟨a0, a1, a2, a3⟩ := box4 sa; obtain ⟨d0, d1, d2, d3, d4, d5, d6, d7, d8, d9, d10, d11⟩ := box12 sb; obtain ⟨e0, e1, e2, e3, e4, e5, e6, e7, e8, e9, e10, e11⟩ := box12 sc1; obtain ⟨f0, f1, f2, f3, f4, f5, f6⟩ := box7 sd; go_simp; try (with_reducible rfl))
    try simp only [Act.put, List.setIfInBounds_toArray, List.set_cons_zero, List.set_cons_succ]
    refine takeA (i := 10) (v := ?_) rfl (fun _ _ _ h => h) (Or.inl ⟨by rfl, ?_⟩) hHeld ?_
    rotate_left
    · (intro wx hSw; obtain ⟨sa, sb, sc1, sd⟩ := hSw; obtain ⟨a0, a1, a2, a3⟩ := box4 sa; obtain ⟨d0, d1, d2, d3, d4, d5, d6, d7, d8, d9, d10, d11⟩ := box12 sb; obtain ⟨e0, e1, e2, e3, e4, e5, e6, e7, e8, e9, e10, e11⟩ := box12 sc1; obtain ⟨f0, f1, f2, f3, f4, f5, f6⟩ := box7 sd; go_simp; try (with_reducible rfl))
    try simp only [Act.put, List.setIfInBounds_toArray, List.set_cons_zero, List.set_cons_succ]
    refine takeA (i := 11) (v := ?_) rfl (fun _ _ _ h => h) (Or.inl ⟨by rfl, ?_⟩) hHeld ?_
    rotate_left
    · (intro wx hSw; obtain ⟨sa, sb, sc1, sd⟩ := hSw; obtain ⟨a0, a1, a2, a3⟩ := box4 sa; obtain ⟨d0, d1, d2, d3, d4, d5, d6, d7, d8, d9, d10, d11⟩ := box12 sb; obtain ⟨e0, e1, e2, e3, e4, e5, e6, e7, e8, e9, e10, e11⟩ := box12 sc1; obtain ⟨f0, f1, f2, f3, f4, f5, f6⟩ := box7 sd; go_simp; try (with_reducible rfl))
    try simp only [Act.put, List.setIfInBounds_toArray, List.set_cons_zero, List.set_cons_succ]
    refine oneT (i := 12) rfl (by kernel_rfl) (fun KK hK => ?_)
    go_simp
    refine (HCK.out Y1 b).mono ?_
    rintro e Y2 ⟨rfl, b1⟩
    clear hHeld
    replace h := h.step b1
    replace kw := kw.step b1
    replace k4 := k4.step b1
    replace k5 := k5.step b1
    replace b := below_step b b1
    have hHeld := And.intro h.box (And.intro kw (And.intro k4 k5))
    clear b1
    refine hK.out _ _ (fun _ => hHeld) ?_
    clear hK KK
    try simp only [Act.put, List.setIfInBounds_toArray, List.set_cons_zero, List.set_cons_succ]
    refine takeA (i := 13) (v := ?_) rfl (fun _ _ _ h => h) (Or.inl ⟨by rfl, ?_⟩) hHeld ?_
    rotate_left
    · (intro wx hSw; obtain ⟨sa, sb, sc1, sd⟩ := hSw; obtain ⟨a0, a1, a2, a3⟩ := box4 sa; obtain ⟨d0, d1, d2, d3, d4, d5, d6, d7, d8, d9, d10, d11⟩ := box12 sb; obtain ⟨e0, e1, e2, e3, e4, e5, e6, e7, e8, e9, e10, e11⟩ := box12 sc1; obtain ⟨f0, f1, f2, f3, f4, f5, f6⟩ := box7 sd; go_simp; try (with_reducible rfl))
    try simp only [Act.put, List.setIfInBounds_toArray, List.set_cons_zero, List.set_cons_succ]
    refine takeA (i := 14) (v := ?_) rfl (fun _ _ _ h => h) (Or.inl ⟨by rfl, ?_⟩) hHeld ?_
    rotate_left
    · (intro wx hSw; obtain ⟨sa, sb, sc1, sd⟩ := hSw; obtain ⟨a0, a1, a2, a3⟩ := box4 sa; obtain ⟨d0, d1, d2, d3, d4, d5, d6, d7, d8, d9, d10, d11⟩ := box12 sb; obtain ⟨e0, e1, e2, e3, e4, e5, e6, e7, e8, e9, e10, e11⟩ := box12 sc1; obtain ⟨f0, f1, f2, f3, f4, f5, f6⟩ := box7 sd; go_simp; try (with_reducible rfl))
    try simp only [Act.put, List.setIfInBounds_toArray, List.set_cons_zero, List.set_cons_succ]
    refine takeA (i := 15) (v := ?_) rfl (fun _ _ _ h => h) (Or.inl ⟨by rfl, ?_⟩) hHeld ?_
    rotate_left
    · (intro wx hSw; obtain ⟨sa, sb, sc1, sd⟩ := hSw; obtain ⟨a0, a1, a2, a3⟩ := box4 sa; obtain ⟨d0, d1, d2, d3, d4, d5, d6, d7, d8, d9, d10, d11⟩ := box12 sb; obtain ⟨e0, e1, e2, e3, e4, e5, e6, e7, e8, e9, e10, e11⟩ := box12 sc1; obtain ⟨f0, f1, f2, f3, f4, f5, f6⟩ := box7 sd; go_simp; try (with_reducible rfl))
    try simp only [Act.put, List.setIfInBounds_toArray, List.set_cons_zero, List.set_cons_succ]
    refine doneT (by kernel_rfl) ?_ _
    refine NoPanic.normal ?_
    clear hHeld
    go_wp2_with fail
    go_meet
    exact ⟨rfl, h, k4, k5, b⟩
  case rest =>
    obtain ⟨rfl, h, k4, k5, b⟩ := hcut
    obtain ⟨e0, e1, e2, e3, e4, e5, e6, e7, e8, e9, e10, e11⟩ := box12 k4
    obtain ⟨f0, f1, f2, f3, f4, f5, f6⟩ := box7 k5
    go_wp2_with fail
    refine (HOF.out wc b).mono ?_
    rintro e w5 ⟨N, A3, c3, rfl, o3, b5⟩
    dsimp only at o3 ⊢
    have r3 := o3.rd
    have hRN := o3.len
    clear o3 e0 e1 e2 e3 e4 e5 e6 e7 e8 e9 e10 e11 f0 f1 f2 f3 f4 f5 f6
    replace h := h.step b5
    replace k4 := k4.step b5
    replace k5 := k5.step b5
    replace b := below_step b b5
    clear b5
    obtain ⟨p0, p1, p2, p3⟩ := box4 h.box
    have HSZ := Lib.hid b.size
    have ho := h.out
    have hfp := h.fp
    have hbs : B ≤ w5.heap.size := by have := h.bc; have := h.box.lt; omega
    go_upto_region 12 with fail
    go_wp2_with (first | (at_builtin; refine wpl_appO _ rfl _ _ rfl B OA on oc lo rfl ho w5.heap.size A3 N c3 R rfl r3 (by have := HNUM.out; omega) hbs ?_))
    intro OA' oc' w6 o6 g6 hA6
    have k6 := (Kp.of_row g6).blk h.box (fun e => h.oc_ e.symm)
    have k56 := (Kp.of_row g6).blk k5 (fun e => by have := HFP.out _ (Or.inr (Or.inr (Or.inr e.symm))); omega)
    obtain ⟨h7, hk7⟩ := h.say o6 g6 hA6
    have hs6 := g6.size
    have y2 := k6.frozen 2
    have HK7 := Lib.hid ((Kp.of_below b (FP gc gp A OA)).after hk7 (fun k _ e => e))
    clear p0 p1 p2 p3 ho hfp o6 g6 h k5 k4 r3 hk7 b
    obtain ⟨p0, p1, p2, p3⟩ := box4 k6
    go_upto_region 13 with fail
    have k57 : Blk (w6.setCell ⟨gc, 2, none⟩ (.slice OA' (on + N) oc')) (w.heap.size + 1) #[.int .i64 st, .slice VA nva cva, .int .u32 (af : Nat), .int .u64 (ac : Nat), .int .u64 (an : Nat), .slice SA ns sc, .bool false] 29 := (Kp.of_grown (rdr_grown_set w6 gc 2 (.slice OA' (on + N) oc'))).blk k56 (fun e => by have := HFP.out gc (Or.inl rfl); omega)
    clear p0 p1 p2 p3 y2 k6 k56
    generalize w6.setCell ⟨gc, 2, none⟩ (.slice OA' (on + N) oc') = w7 at h7 k57 HK7 ⊢
    obtain ⟨p0, p1, p2, p3⟩ := box4 h7.box
    have y1 := h7.box.frozen 1
    have h8 := h7.set1b
    have HK8 := Lib.hid (HK7.out.after (Kp.of_grown (rdr_grown_set w7 gc 1 (.pointer none))) (fun k _ e => Or.inl e))
    have k58 := (Kp.of_grown (rdr_grown_set w7 gc 1 (.pointer none))).blk k57 (fun e => by have := HFP.out gc (Or.inl rfl); omega)
    go_upto_region 14 with fail
    clear p0 p1 p2 p3 y1 h7 k57 HK7
    generalize w7.setCell ⟨gc, 1, none⟩ (.pointer none) = w8 at h8 HK8 k58 ⊢
    obtain ⟨f0, f1, f2, f3, f4, f5, f6⟩ := box7 k58
    have HQ : Hid (AnsQ B gc gp A n c l OA on lo R w (.returned (.int .i64 0)) w8) := Lib.hid ⟨OA', oc', rfl, by rw [hRN]; exact h8, HK8.out, by rcases hA6 with e | e; exact Or.inl e; exact Or.inr ⟨_, e, by have := HSZ.out; omega⟩⟩
    go_wp2_with fail
    go_ret
    exact HQ.out
end Go.Proofs.Ytnghmgbmflcngaa

/- A connection's Answer that closes it. Conditions: typed in each theorem. -/
import Derived.Test.YtnghmgbmflcngaaCnb
import Derived.Deep.DeepCutAuto
namespace Go.Proofs.Ytnghmgbmflcngaa
set_option linter.unusedVariables false
open Go.RowKit
def AnsCQ (B gc gp : Nat) (A OA : Option Addr) (on : Nat) (lo R : List UInt8) (w : World) (e : Ending) (w' : World) : Prop :=
  ∃ OA' oc', e = .returned (.int .i64 0) ∧ CnC w' B gc OA' (on + R.length) oc' (lo ++ R) ∧ Kp w w' (FP gc gp A OA) ∧ (obk OA' = obk OA ∨ ∃ k, obk OA' = some k ∧ w.heap.size ≤ k)
set_option maxRecDepth 100000 in
set_option maxHeartbeats 4000000 in
theorem canswer_close (B gc gp n c on oc : Nat) (A OA : Option Addr) (l lo : List UInt8) (wv : Value) (q : RQ) (w : World) (h : CnA w B gc gp A n c l OA on oc lo wv (some q)) (K : Option Addr) (nk ck : Nat) (V : Option Addr) (nv cv : Nat) (rk : Rd w w.heap.size K nk ck q.lk) (rv : Rd w w.heap.size V nv cv q.lv) (st : Int) (VA : Option Addr) (nva cva : Nat) (lva : List UInt8) (af ac an : Nat) (SA : Option Addr) (ns sc : Nat) (SL : List (ByteArray × ByteArray)) (ra : Rd w w.heap.size VA nva cva lva) (rS : Rz w w.heap.size 2 SA ns sc (SL.map stCells).flatten) (hsl : SL.length = ns) (haf : af < 4294967296) (hac : ac < 18446744073709551616) (han : an < 18446744073709551616) (hns : ns ≤ 1000) (hoq : q.oq < 4294967296) (hnk : nk ≤ 1000000) (hon : on ≤ 100000000000) (hw : wrongA st q.op nva af ac an ns SL = false) (R : List UInt8) (hR : ofR q.op q.qt q.fu q.oq st nva af ac an ns q.lk lva SL = (R, 0)) (hRl : R.length ≤ 1000000) : Calls Try.prog 66 #[.pointer (some ⟨gc, 0, none⟩), reqV q.op q.qt q.fu q.bd q.oq (.slice K nk ck) (.slice V nv cv) q.fl q.ex q.cs q.dl q.ni, ansV st (.slice VA nva cva) af ac an (.slice SA ns sc) true] w (AnsCQ B gc gp A OA on lo R w) := by
  obtain ⟨gw, Kw, nkw, ckw, Vw, nvw, cvw, rfl, kw, hgw, fK, fV⟩ := h.wait
  have HSA : Hid (∀ W, Below w.heap.size w W → Calls Try.prog 48 #[.agg #[.int .i64 q.op, .bool q.qt, .bool q.fu, .int .i64 q.bd, .int .u32 (q.oq : Nat), .slice Kw nkw ckw, .slice Vw nvw cvw, .int .u32 (q.fl : Nat), .int .u32 (q.ex : Nat), .int .u64 (q.cs : Nat), .int .u64 (q.dl : Nat), .int .u64 (q.ni : Nat)], .agg #[.int .i64 q.op, .bool q.qt, .bool q.fu, .int .i64 q.bd, .int .u32 (q.oq : Nat), .slice K nk ck, .slice V nv cv, .int .u32 (q.fl : Nat), .int .u32 (q.ex : Nat), .int .u64 (q.cs : Nat), .int .u64 (q.dl : Nat), .int .u64 (q.ni : Nat)]] W (PSame true W)) := Lib.hid (fun W b => by have h := qsame_any q.op q.op q.bd q.bd q.qt q.qt q.fu q.fu q.oq q.oq q.fl q.fl q.ex q.ex q.cs q.cs q.dl q.dl q.ni q.ni Kw K Vw V nkw ckw nk ck nvw cvw nv cv q.lk q.lk q.lv q.lv W ((fK.1.below b).more b.size) ((rk.below b).more b.size) ((fV.1.below b).more b.size) ((rv.below b).more b.size); rw [reqSame_yes ⟨rfl, rfl, rfl, rfl, rfl, rfl, rfl, rfl, rfl, rfl, rfl, rfl⟩] at h; exact h)
  have HCK : Hid (∀ W, Below w.heap.size w W → Calls Try.prog 25 #[.agg #[.int .i64 q.op, .bool q.qt, .bool q.fu, .int .i64 q.bd, .int .u32 (q.oq : Nat), .slice K nk ck, .slice V nv cv, .int .u32 (q.fl : Nat), .int .u32 (q.ex : Nat), .int .u64 (q.cs : Nat), .int .u64 (q.dl : Nat), .int .u64 (q.ni : Nat)], .agg #[.int .i64 st, .slice VA nva cva, .int .u32 (af : Nat), .int .u64 (ac : Nat), .int .u64 (an : Nat), .slice SA ns sc, .bool true]] W (BoxQ' (.int .i64 0) W)) := Lib.hid (fun W b => by have h := check_any q.op q.qt q.fu q.bd q.oq (.slice K nk ck) (.slice V nv cv) q.fl q.ex q.cs q.dl q.ni st VA nva cva af ac an SA ns sc true SL W ((rS.below b).more b.size) (by omega) hsl; rw [hw] at h; exact h)
  have HOF : Hid (∀ W, Below w.heap.size w W → Calls Try.prog 22 #[.agg #[.int .i64 q.op, .bool q.qt, .bool q.fu, .int .i64 q.bd, .int .u32 (q.oq : Nat), .slice K nk ck, .slice V nv cv, .int .u32 (q.fl : Nat), .int .u32 (q.ex : Nat), .int .u64 (q.cs : Nat), .int .u64 (q.dl : Nat), .int .u64 (q.ni : Nat)], .agg #[.int .i64 st, .slice VA nva cva, .int .u32 (af : Nat), .int .u64 (ac : Nat), .int .u64 (an : Nat), .slice SA ns sc, .bool true]] W (OfQ (R, 0) W)) := Lib.hid (fun W b => by have h := of_any q.op q.qt q.fu q.bd q.oq K nk ck q.lk (.slice V nv cv) q.fl q.ex q.cs q.dl q.ni st VA nva cva lva af ac an SA ns sc SL true W ((rk.below b).more b.size) ((ra.below b).more b.size) ((rS.below b).more b.size) hsl hnk haf hac han (by omega) hoq; rw [hR] at h; exact h)
  have HNUM := Lib.hid (And.intro hon hRl)
  have HFP : Hid (∀ k, FP gc gp A OA k → k < w.heap.size) := Lib.hid (fun k hk => (h.fp k hk).2)
  have HB : Hid (B ≤ w.heap.size) := Lib.hid (by have := h.bc; have := h.box.lt; omega)
  clear fK fV hgw rk rv ra rS hsl haf hac han hns hoq hnk hon hw hR hRl
  have k4 := (Blk.new w #[.int .i64 q.op, .bool q.qt, .bool q.fu, .int .i64 q.bd, .int .u32 (q.oq : Nat), .slice K nk ck, .slice V nv cv, .int .u32 (q.fl : Nat), .int .u32 (q.ex : Nat), .int .u64 (q.cs : Nat), .int .u64 (q.dl : Nat), .int .u64 (q.ni : Nat)] 26).alloc (.cells #[.int .i64 st, .slice VA nva cva, .int .u32 (af : Nat), .int .u64 (ac : Nat), .int .u64 (an : Nat), .slice SA ns sc, .bool true] 29)
  have k5 := Blk.new (w.alloc (.cells #[.int .i64 q.op, .bool q.qt, .bool q.fu, .int .i64 q.bd, .int .u32 (q.oq : Nat), .slice K nk ck, .slice V nv cv, .int .u32 (q.fl : Nat), .int .u32 (q.ex : Nat), .int .u64 (q.cs : Nat), .int .u64 (q.dl : Nat), .int .u64 (q.ni : Nat)] 26)) #[.int .i64 st, .slice VA nva cva, .int .u32 (af : Nat), .int .u64 (ac : Nat), .int .u64 (an : Nat), .slice SA ns sc, .bool true] 29
  rw [World.size_alloc] at k5
  have b := below_a1' (below_a1' (Below.refl w.heap.size w) (.cells #[.int .i64 q.op, .bool q.qt, .bool q.fu, .int .i64 q.bd, .int .u32 (q.oq : Nat), .slice K nk ck, .slice V nv cv, .int .u32 (q.fl : Nat), .int .u32 (q.ex : Nat), .int .u64 (q.cs : Nat), .int .u64 (q.dl : Nat), .int .u64 (q.ni : Nat)] 26)) (.cells #[.int .i64 st, .slice VA nva cva, .int .u32 (af : Nat), .int .u64 (ac : Nat), .int .u64 (an : Nat), .slice SA ns sc, .bool true] 29)
  replace h := h.step b
  replace kw := kw.step b
  unfold reqV ansV
  go_enter Try.func66, Try.ntmps66
  go_upto_region 1 with fail
  generalize (w.alloc (.cells #[.int .i64 q.op, .bool q.qt, .bool q.fu, .int .i64 q.bd, .int .u32 (q.oq : Nat), .slice K nk ck, .slice V nv cv, .int .u32 (q.fl : Nat), .int .u32 (q.ex : Nat), .int .u64 (q.cs : Nat), .int .u64 (q.dl : Nat), .int .u64 (q.ni : Nat)] 26)).alloc (.cells #[.int .i64 st, .slice VA nva cva, .int .u32 (af : Nat), .int .u64 (ac : Nat), .int .u64 (an : Nat), .slice SA ns sc, .bool true] 29) = W0 at h kw k4 k5 b ⊢
  obtain ⟨p0, p1, p2, p3⟩ := box4 h.box
  go_upto_region 7 with fail
  clear p0 p1 p2 p3
  go_cut [23] (fun s23 wx => s23 = .bool false ∧ CnA wx B gc gp A n c l OA on oc lo (.pointer (some ⟨gw, 0, none⟩)) (some q) ∧ Blk wx w.heap.size #[.int .i64 q.op, .bool q.qt, .bool q.fu, .int .i64 q.bd, .int .u32 (q.oq : Nat), .slice K nk ck, .slice V nv cv, .int .u32 (q.fl : Nat), .int .u32 (q.ex : Nat), .int .u64 (q.cs : Nat), .int .u64 (q.dl : Nat), .int .u64 (q.ni : Nat)] 26 ∧ Blk wx (w.heap.size + 1) #[.int .i64 st, .slice VA nva cva, .int .u32 (af : Nat), .int .u64 (ac : Nat), .int .u64 (an : Nat), .slice SA ns sc, .bool true] 29 ∧ Below w.heap.size w wx)
  case first =>
    refine wp_region_noPanic ?_
    refine region_T (fun wx => Blk wx gc #[.pointer (some ⟨gp, 0, none⟩), .pointer (some ⟨gw, 0, none⟩), .slice OA on oc, .bool false] 160 ∧ Blk wx gw #[.int .i64 q.op, .bool q.qt, .bool q.fu, .int .i64 q.bd, .int .u32 (q.oq : Nat), .slice Kw nkw ckw, .slice Vw nvw cvw, .int .u32 (q.fl : Nat), .int .u32 (q.ex : Nat), .int .u64 (q.cs : Nat), .int .u64 (q.dl : Nat), .int .u64 (q.ni : Nat)] 26 ∧ Blk wx w.heap.size #[.int .i64 q.op, .bool q.qt, .bool q.fu, .int .i64 q.bd, .int .u32 (q.oq : Nat), .slice K nk ck, .slice V nv cv, .int .u32 (q.fl : Nat), .int .u32 (q.ex : Nat), .int .u64 (q.cs : Nat), .int .u64 (q.dl : Nat), .int .u64 (q.ni : Nat)] 26 ∧ Blk wx (w.heap.size + 1) #[.int .i64 st, .slice VA nva cva, .int .u32 (af : Nat), .int .u64 (ac : Nat), .int .u64 (an : Nat), .slice SA ns sc, .bool true] 29) 16 (by kernel_rfl) ?_
    have bD : Below W0.heap.size W0 W0.drew := (Below.refl _ _).drew
    replace h := h.step bD
    replace kw := kw.step bD
    replace k4 := k4.step bD
    replace k5 := k5.step bD
    replace b := below_step b bD
    have hHeld := And.intro h.box (And.intro kw (And.intro k4 k5))
    clear bD
    generalize W0.drew = Y0 at h kw k4 k5 b hHeld ⊢
    refine takeA (i := 0) (v := ?_) rfl (fun _ _ _ h => h) (Or.inl ⟨by rfl, ?_⟩) hHeld ?_
    rotate_left
    · (intro wx hSw; obtain ⟨sa, sb, sc1, sd⟩ := hSw; obtain ⟨a0, a1, a2, a3⟩ := box4 sa; obtain ⟨d0, d1, d2, d3, d4, d5, d6, d7, d8, d9, d10, d11⟩ := box12 sb; obtain ⟨e0, e1, e2, e3, e4, e5, e6, e7, e8, e9, e10, e11⟩ := box12 sc1; obtain ⟨f0, f1, f2, f3, f4, f5, f6⟩ := box7 sd; go_simp; try (with_reducible rfl))
    try simp only [Act.put, List.setIfInBounds_toArray, List.set_cons_zero, List.set_cons_succ]
    refine takeA (i := 1) (v := ?_) rfl (fun _ _ _ h => h) (Or.inl ⟨by rfl, ?_⟩) hHeld ?_
    rotate_left
    · (intro wx hSw; obtain ⟨sa, sb, sc1, sd⟩ := hSw; obtain ⟨a0, a1, a2, a3⟩ := box4 sa; obtain ⟨d0, d1, d2, d3, d4, d5, d6, d7, d8, d9, d10, d11⟩ := box12 sb; obtain ⟨e0, e1, e2, e3, e4, e5, e6, e7, e8, e9, e10, e11⟩ := box12 sc1; obtain ⟨f0, f1, f2, f3, f4, f5, f6⟩ := box7 sd; go_simp; try (with_reducible rfl))
    try simp only [Act.put, List.setIfInBounds_toArray, List.set_cons_zero, List.set_cons_succ]
    refine takeA (i := 2) (v := ?_) rfl (fun _ _ _ h => h) (Or.inl ⟨by rfl, ?_⟩) hHeld ?_
    rotate_left
    · (intro wx hSw; obtain ⟨sa, sb, sc1, sd⟩ := hSw; obtain ⟨a0, a1, a2, a3⟩ := box4 sa; obtain ⟨d0, d1, d2, d3, d4, d5, d6, d7, d8, d9, d10, d11⟩ := box12 sb; obtain ⟨e0, e1, e2, e3, e4, e5, e6, e7, e8, e9, e10, e11⟩ := box12 sc1; obtain ⟨f0, f1, f2, f3, f4, f5, f6⟩ := box7 sd; go_simp; try (with_reducible rfl))
    try simp only [Act.put, List.setIfInBounds_toArray, List.set_cons_zero, List.set_cons_succ]
    refine takeA (i := 3) (v := ?_) rfl (fun _ _ _ h => h) (Or.inl ⟨by rfl, ?_⟩) hHeld ?_
    rotate_left
    · (intro wx hSw; obtain ⟨sa, sb, sc1, sd⟩ := hSw; obtain ⟨a0, a1, a2, a3⟩ := box4 sa; obtain ⟨d0, d1, d2, d3, d4, d5, d6, d7, d8, d9, d10, d11⟩ := box12 sb; obtain ⟨e0, e1, e2, e3, e4, e5, e6, e7, e8, e9, e10, e11⟩ := box12 sc1; obtain ⟨f0, f1, f2, f3, f4, f5, f6⟩ := box7 sd; go_simp; try (with_reducible rfl))
    try simp only [Act.put, List.setIfInBounds_toArray, List.set_cons_zero, List.set_cons_succ]
    refine takeA (i := 4) (v := ?_) rfl (fun _ _ _ h => h) (Or.inl ⟨by rfl, ?_⟩) hHeld ?_
    rotate_left
    · (intro wx hSw; obtain ⟨sa, sb, sc1, sd⟩ := hSw; obtain ⟨a0, a1, a2, a3⟩ := box4 sa; obtain ⟨d0, d1, d2, d3, d4, d5, d6, d7, d8, d9, d10, d11⟩ := box12 sb; obtain ⟨e0, e1, e2, e3, e4, e5, e6, e7, e8, e9, e10, e11⟩ := box12 sc1; obtain ⟨f0, f1, f2, f3, f4, f5, f6⟩ := box7 sd; go_simp; try (with_reducible rfl))
    try simp only [Act.put, List.setIfInBounds_toArray, List.set_cons_zero, List.set_cons_succ]
    refine takeA (i := 5) (v := ?_) rfl (fun _ _ _ h => h) (Or.inl ⟨by rfl, ?_⟩) hHeld ?_
    rotate_left
    · (intro wx hSw; obtain ⟨sa, sb, sc1, sd⟩ := hSw; obtain ⟨a0, a1, a2, a3⟩ := box4 sa; obtain ⟨d0, d1, d2, d3, d4, d5, d6, d7, d8, d9, d10, d11⟩ := box12 sb; obtain ⟨e0, e1, e2, e3, e4, e5, e6, e7, e8, e9, e10, e11⟩ := box12 sc1; obtain ⟨f0, f1, f2, f3, f4, f5, f6⟩ := box7 sd; go_simp; try (with_reducible rfl))
    try simp only [Act.put, List.setIfInBounds_toArray, List.set_cons_zero, List.set_cons_succ]
    refine takeA (i := 6) (v := ?_) rfl (fun _ _ _ h => h) (Or.inl ⟨by rfl, ?_⟩) hHeld ?_
    rotate_left
    · (intro wx hSw; obtain ⟨sa, sb, sc1, sd⟩ := hSw; obtain ⟨a0, a1, a2, a3⟩ := box4 sa; obtain ⟨d0, d1, d2, d3, d4, d5, d6, d7, d8, d9, d10, d11⟩ := box12 sb; obtain ⟨e0, e1, e2, e3, e4, e5, e6, e7, e8, e9, e10, e11⟩ := box12 sc1; obtain ⟨f0, f1, f2, f3, f4, f5, f6⟩ := box7 sd; go_simp; try (with_reducible rfl))
    try simp only [Act.put, List.setIfInBounds_toArray, List.set_cons_zero, List.set_cons_succ]
    refine oneT (i := 7) rfl (by kernel_rfl) (fun KK hK => ?_)
    go_simp
    refine (HSA.out Y0 b).mono ?_
    rintro e Y1 ⟨rfl, b1⟩
    clear hHeld
    replace h := h.step b1
    replace kw := kw.step b1
    replace k4 := k4.step b1
    replace k5 := k5.step b1
    replace b := below_step b b1
    have hHeld := And.intro h.box (And.intro kw (And.intro k4 k5))
    clear b1
    refine hK.out _ _ (fun _ => hHeld) ?_
    clear hK KK
    try simp only [Act.put, List.setIfInBounds_toArray, List.set_cons_zero, List.set_cons_succ]
    refine takeA (i := 8) (v := ?_) rfl (fun _ _ _ h => h) (Or.inl ⟨by rfl, ?_⟩) hHeld ?_
    rotate_left
    · (intro wx hSw; obtain ⟨sa, sb, sc1, sd⟩ := hSw; obtain ⟨a0, a1, a2, a3⟩ := box4 sa; obtain ⟨d0, d1, d2, d3, d4, d5, d6, d7, d8, d9, d10, d11⟩ := box12 sb; obtain ⟨e0, e1, e2, e3, e4, e5, e6, e7, e8, e9, e10, e11⟩ := box12 sc1; obtain ⟨f0, f1, f2, f3, f4, f5, f6⟩ := box7 sd; go_simp; try (with_reducible rfl))
    try simp only [Act.put, List.setIfInBounds_toArray, List.set_cons_zero, List.set_cons_succ]
    refine takeA (i := 9) (v := ?_) rfl (fun _ _ _ h => h) (Or.inl ⟨by rfl, ?_⟩) hHeld ?_
    rotate_left
    · (intro wx hSw; obtain ⟨sa, sb, sc1, sd⟩ := hSw; obtain ⟨a0, a1, a2, a3⟩ := box4 sa; obtain ⟨d0, d1, d2, d3, d4, d5, d6, d7, d8, d9, d10, d11⟩ := box12 sb; obtain ⟨e0, e1, e2, e3, e4, e5, e6, e7, e8, e9, e10, e11⟩ := box12 sc1; obtain ⟨f0, f1, f2, f3, f4, f5, f6⟩ := box7 sd; go_simp; try (with_reducible rfl))
    try simp only [Act.put, List.setIfInBounds_toArray, List.set_cons_zero, List.set_cons_succ]
    refine takeA (i := 10) (v := ?_) rfl (fun _ _ _ h => h) (Or.inl ⟨by rfl, ?_⟩) hHeld ?_
    rotate_left
    · (intro wx hSw; obtain ⟨sa, sb, sc1, sd⟩ := hSw; obtain ⟨a0, a1, a2, a3⟩ := box4 sa; obtain ⟨d0, d1, d2, d3, d4, d5, d6, d7, d8, d9, d10, d11⟩ := box12 sb; obtain ⟨e0, e1, e2, e3, e4, e5, e6, e7, e8, e9, e10, e11⟩ := box12 sc1; obtain ⟨f0, f1, f2, f3, f4, f5, f6⟩ := box7 sd; go_simp; try (with_reducible rfl))
    try simp only [Act.put, List.setIfInBounds_toArray, List.set_cons_zero, List.set_cons_succ]
    refine takeA (i := 11) (v := ?_) rfl (fun _ _ _ h => h) (Or.inl ⟨by rfl, ?_⟩) hHeld ?_
    rotate_left
    · (intro wx hSw; obtain ⟨sa, sb, sc1, sd⟩ := hSw; obtain ⟨a0, a1, a2, a3⟩ := box4 sa; obtain ⟨d0, d1, d2, d3, d4, d5, d6, d7, d8, d9, d10, d11⟩ := box12 sb; obtain ⟨e0, e1, e2, e3, e4, e5, e6, e7, e8, e9, e10, e11⟩ := box12 sc1; obtain ⟨f0, f1, f2, f3, f4, f5, f6⟩ := box7 sd; go_simp; try (with_reducible rfl))
    try simp only [Act.put, List.setIfInBounds_toArray, List.set_cons_zero, List.set_cons_succ]
    refine oneT (i := 12) rfl (by kernel_rfl) (fun KK hK => ?_)
    go_simp
    refine (HCK.out Y1 b).mono ?_
    rintro e Y2 ⟨rfl, b1⟩
    clear hHeld
    replace h := h.step b1
    replace kw := kw.step b1
    replace k4 := k4.step b1
    replace k5 := k5.step b1
    replace b := below_step b b1
    have hHeld := And.intro h.box (And.intro kw (And.intro k4 k5))
    clear b1
    refine hK.out _ _ (fun _ => hHeld) ?_
    clear hK KK
    try simp only [Act.put, List.setIfInBounds_toArray, List.set_cons_zero, List.set_cons_succ]
    refine takeA (i := 13) (v := ?_) rfl (fun _ _ _ h => h) (Or.inl ⟨by rfl, ?_⟩) hHeld ?_
    rotate_left
    · (intro wx hSw; obtain ⟨sa, sb, sc1, sd⟩ := hSw; obtain ⟨a0, a1, a2, a3⟩ := box4 sa; obtain ⟨d0, d1, d2, d3, d4, d5, d6, d7, d8, d9, d10, d11⟩ := box12 sb; obtain ⟨e0, e1, e2, e3, e4, e5, e6, e7, e8, e9, e10, e11⟩ := box12 sc1; obtain ⟨f0, f1, f2, f3, f4, f5, f6⟩ := box7 sd; go_simp; try (with_reducible rfl))
    try simp only [Act.put, List.setIfInBounds_toArray, List.set_cons_zero, List.set_cons_succ]
    refine takeA (i := 14) (v := ?_) rfl (fun _ _ _ h => h) (Or.inl ⟨by rfl, ?_⟩) hHeld ?_
    rotate_left
    · (intro wx hSw; obtain ⟨sa, sb, sc1, sd⟩ := hSw; obtain ⟨a0, a1, a2, a3⟩ := box4 sa; obtain ⟨d0, d1, d2, d3, d4, d5, d6, d7, d8, d9, d10, d11⟩ := box12 sb; obtain ⟨e0, e1, e2, e3, e4, e5, e6, e7, e8, e9, e10, e11⟩ := box12 sc1; obtain ⟨f0, f1, f2, f3, f4, f5, f6⟩ := box7 sd; go_simp; try (with_reducible rfl))
    try simp only [Act.put, List.setIfInBounds_toArray, List.set_cons_zero, List.set_cons_succ]
    refine takeA (i := 15) (v := ?_) rfl (fun _ _ _ h => h) (Or.inl ⟨by rfl, ?_⟩) hHeld ?_
    rotate_left
    · (intro wx hSw; obtain ⟨sa, sb, sc1, sd⟩ := hSw; obtain ⟨a0, a1, a2, a3⟩ := box4 sa; obtain ⟨d0, d1, d2, d3, d4, d5, d6, d7, d8, d9, d10, d11⟩ := box12 sb; obtain ⟨e0, e1, e2, e3, e4, e5, e6, e7, e8, e9, e10, e11⟩ := box12 sc1; obtain ⟨f0, f1, f2, f3, f4, f5, f6⟩ := box7 sd; go_simp; try (with_reducible rfl))
    try simp only [Act.put, List.setIfInBounds_toArray, List.set_cons_zero, List.set_cons_succ]
    refine doneT (by kernel_rfl) ?_ _
    refine NoPanic.normal ?_
    clear hHeld
    go_wp2_with fail
    go_meet
    exact ⟨rfl, h, k4, k5, b⟩
  case rest =>
    obtain ⟨rfl, h, k4, k5, b⟩ := hcut
    obtain ⟨e0, e1, e2, e3, e4, e5, e6, e7, e8, e9, e10, e11⟩ := box12 k4
    obtain ⟨f0, f1, f2, f3, f4, f5, f6⟩ := box7 k5
    go_wp2_with fail
    refine (HOF.out wc b).mono ?_
    rintro e w5 ⟨N, A3, c3, rfl, o3, b5⟩
    dsimp only at o3 ⊢
    have r3 := o3.rd
    have hRN := o3.len
    clear o3 e0 e1 e2 e3 e4 e5 e6 e7 e8 e9 e10 e11 f0 f1 f2 f3 f4 f5 f6
    replace h := h.step b5
    replace k4 := k4.step b5
    replace k5 := k5.step b5
    replace b := below_step b b5
    clear b5
    obtain ⟨p0, p1, p2, p3⟩ := box4 h.box
    have HSZ := Lib.hid b.size
    have ho := h.out
    have hfp := h.fp
    have hbs : B ≤ w5.heap.size := by have := h.bc; have := h.box.lt; omega
    go_upto_region 12 with fail
    go_wp2_with (first | (at_builtin; refine wpl_appO _ rfl _ _ rfl B OA on oc lo rfl ho w5.heap.size A3 N c3 R rfl r3 (by have := HNUM.out; omega) hbs ?_))
    intro OA' oc' w6 o6 g6 hA6
    have k6 := (Kp.of_row g6).blk h.box (fun e => h.oc_ e.symm)
    have k56 := (Kp.of_row g6).blk k5 (fun e => by have := HFP.out _ (Or.inr (Or.inr (Or.inr e.symm))); omega)
    obtain ⟨h7, hk7⟩ := h.say o6 g6 hA6
    have hs6 := g6.size
    have y2 := k6.frozen 2
    have HK7 := Lib.hid ((Kp.of_below b (FP gc gp A OA)).after hk7 (fun k _ e => e))
    clear p0 p1 p2 p3 ho hfp o6 g6 h k5 k4 r3 hk7 b
    obtain ⟨p0, p1, p2, p3⟩ := box4 k6
    go_upto_region 13 with fail
    have k57 : Blk (w6.setCell ⟨gc, 2, none⟩ (.slice OA' (on + N) oc')) (w.heap.size + 1) #[.int .i64 st, .slice VA nva cva, .int .u32 (af : Nat), .int .u64 (ac : Nat), .int .u64 (an : Nat), .slice SA ns sc, .bool true] 29 := (Kp.of_grown (rdr_grown_set w6 gc 2 (.slice OA' (on + N) oc'))).blk k56 (fun e => by have := HFP.out gc (Or.inl rfl); omega)
    clear p0 p1 p2 p3 y2 k6 k56
    generalize w6.setCell ⟨gc, 2, none⟩ (.slice OA' (on + N) oc') = w7 at h7 k57 HK7 ⊢
    obtain ⟨p0, p1, p2, p3⟩ := box4 h7.box
    have y1 := h7.box.frozen 1
    have h8 := h7.set1b
    have HK8 := Lib.hid (HK7.out.after (Kp.of_grown (rdr_grown_set w7 gc 1 (.pointer none))) (fun k _ e => Or.inl e))
    have k58 := (Kp.of_grown (rdr_grown_set w7 gc 1 (.pointer none))).blk k57 (fun e => by have := HFP.out gc (Or.inl rfl); omega)
    go_upto_region 14 with fail
    clear p0 p1 p2 p3 y1 h7 k57 HK7
    generalize w7.setCell ⟨gc, 1, none⟩ (.pointer none) = w8 at h8 HK8 k58 ⊢
    obtain ⟨f0, f1, f2, f3, f4, f5, f6⟩ := box7 k58
    have HCL := Lib.hid (cclose_any gc _ _ _ _ w8 h8.box)
    have HHB := Lib.hid (And.intro h8.out (And.intro h8.oc_ h8.bc))
    clear h8 k58
    go_wp2_with fail
    refine HCL.out.mono ?_
    rintro e w9 ⟨rfl, k9, g9⟩
    have hk9 := Kp.of_grown g9
    have HQ : Hid (AnsCQ B gc gp A OA on lo R w (.returned (.int .i64 0)) w9) := Lib.hid ⟨OA', oc', rfl, ⟨by rw [hRN]; exact k9, by rw [hRN]; exact HHB.out.1.kp hk9 (fun k e1 e2 => HHB.out.2.1 (by rw [← e2]; exact e1)), HHB.out.2.2, HHB.out.2.1⟩, HK8.out.after hk9 (fun k _ e => Or.inl e), by rcases hA6 with e | e; exact Or.inl e; exact Or.inr ⟨_, e, by have := HSZ.out; omega⟩⟩
    clear HCL k9 g9 hk9
    go_wp2_with fail
    go_ret
    exact HQ.out
set_option maxRecDepth 100000 in
set_option maxHeartbeats 4000000 in
theorem canswer_none (gc : Nat) (v0 v2 : Value) (op : Int) (qt fu : Bool) (bad : Int) (oq fl ex cs dl ini : Nat) (KV VV : Value) (st : Int) (VA SV : Value) (af ac an : Nat) (cl : Bool) (w : World) (h : Blk w gc #[v0, .pointer none, v2, .bool false] 160) : Calls Try.prog 66 #[.pointer (some ⟨gc, 0, none⟩), reqV op qt fu bad oq KV VV fl ex cs dl ini, ansV st VA af ac an SV cl] w (BoxQ' (.int .i64 4) w) := by
  unfold reqV ansV
  have b := below_a1' (below_a1' (Below.refl w.heap.size w) (.cells #[.int .i64 op, .bool qt, .bool fu, .int .i64 bad, .int .u32 (oq : Nat), KV, VV, .int .u32 (fl : Nat), .int .u32 (ex : Nat), .int .u64 (cs : Nat), .int .u64 (dl : Nat), .int .u64 (ini : Nat)] 26)) (.cells #[.int .i64 st, VA, .int .u32 (af : Nat), .int .u64 (ac : Nat), .int .u64 (an : Nat), SV, .bool cl] 29)
  have k := h.step b
  obtain ⟨p0, p1, p2, p3⟩ := box4 k
  have HB := Lib.hid b
  clear h k b
  go_enter Try.func66, Try.ntmps66
  go_wp2_with fail
  go_ret
  exact ⟨rfl, HB.out⟩
set_option maxRecDepth 100000 in
set_option maxHeartbeats 4000000 in
theorem canswer_closed (gc : Nat) (v0 v1 v2 : Value) (op : Int) (qt fu : Bool) (bad : Int) (oq fl ex cs dl ini : Nat) (KV VV : Value) (st : Int) (VA SV : Value) (af ac an : Nat) (cl : Bool) (w : World) (h : Blk w gc #[v0, v1, v2, .bool true] 160) : Calls Try.prog 66 #[.pointer (some ⟨gc, 0, none⟩), reqV op qt fu bad oq KV VV fl ex cs dl ini, ansV st VA af ac an SV cl] w (BoxQ' (.int .i64 320) w) := by
  unfold reqV ansV
  have b := below_a1' (below_a1' (Below.refl w.heap.size w) (.cells #[.int .i64 op, .bool qt, .bool fu, .int .i64 bad, .int .u32 (oq : Nat), KV, VV, .int .u32 (fl : Nat), .int .u32 (ex : Nat), .int .u64 (cs : Nat), .int .u64 (dl : Nat), .int .u64 (ini : Nat)] 26)) (.cells #[.int .i64 st, VA, .int .u32 (af : Nat), .int .u64 (ac : Nat), .int .u64 (an : Nat), SV, .bool cl] 29)
  have k := h.step b
  obtain ⟨p0, p1, p2, p3⟩ := box4 k
  have HB := Lib.hid b
  clear h k b
  go_enter Try.func66, Try.ntmps66
  go_wp2_with fail
  go_ret
  exact ⟨rfl, HB.out⟩
set_option maxRecDepth 100000 in
set_option maxHeartbeats 4000000 in
theorem cfeed_closed (gc : Nat) (v0 v1 v2 : Value) (A2 : Option Addr) (m c2 : Nat) (w : World) (h : Blk w gc #[v0, v1, v2, .bool true] 160) : Calls Try.prog 65 #[.pointer (some ⟨gc, 0, none⟩), .slice A2 m c2] w fun e w' => e = .returned (.int .i64 320) ∧ w = w' := by
  obtain ⟨p0, p1, p2, p3⟩ := box4 h
  go_enter Try.func65, Try.ntmps65
  go_wp2_with fail
  go_ret
  exact ⟨rfl, rfl⟩
set_option maxRecDepth 100000 in
set_option maxHeartbeats 4000000 in
theorem cout_closed (B gc on oc : Nat) (OA : Option Addr) (lo : List UInt8) (w : World) (h : CnC w B gc OA on oc lo) : Calls Try.prog 67 #[.pointer (some ⟨gc, 0, none⟩)] w fun e w' => e = .returned (.slice OA on oc) ∧ Own w' B OA on oc lo ∧ CnC w' B gc none 0 0 [] ∧ w.grownBy w' (some gc) := by
  obtain ⟨p0, p1, p2, p3⟩ := box4 h.box
  have y2 := h.box.frozen 2
  have HC := Lib.hid h
  clear h
  go_enter Try.func67, Try.ntmps67
  go_wp2_with fail
  go_ret
  have h := HC.out
  have gg := rdr_grown_set w gc 2 (.slice none 0 0)
  have hkp := Kp.of_grown gg
  exact ⟨rfl, h.out.kp hkp (fun k hk e => h.oc_ (by rw [← e]; exact hk)), ⟨h.box.set_ 2 _, Own.nil _ _, h.bc, (fun e => by cases e)⟩, gg⟩
end Go.Proofs.Ytnghmgbmflcngaa

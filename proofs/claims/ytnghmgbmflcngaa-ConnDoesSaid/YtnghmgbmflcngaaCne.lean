/- A connection's Answer that is refused, its Feed of too much. Conditions: typed in each theorem. -/
import Derived.Test.YtnghmgbmflcngaaCnd
namespace Go.Proofs.Ytnghmgbmflcngaa
set_option linter.unusedVariables false
set_option linter.unusedSimpArgs false
open Go.RowKit
def RefQ (B gc gp : Nat) (A : Option Addr) (n c : Nat) (l : List UInt8) (OA : Option Addr) (on oc : Nat) (lo : List UInt8) (wv : Value) (q : RQ) (w : World) (e : Ending) (w' : World) : Prop := e = .returned (.int .i64 2) ∧ CnA w' B gc gp A n c l OA on oc lo wv (some q) ∧ Below w.heap.size w w'
set_option maxRecDepth 100000 in
set_option maxHeartbeats 4000000 in
theorem canswer_no (B gc gp n c on oc : Nat) (A OA : Option Addr) (l lo : List UInt8) (wv : Value) (q : RQ) (w : World) (h : CnA w B gc gp A n c l OA on oc lo wv (some q)) (op : Int) (qt fu : Bool) (bd : Int) (oq fl ex cs dl ni : Nat) (K : Option Addr) (nk ck : Nat) (V : Option Addr) (nv cv : Nat) (lk2 lv2 : List UInt8) (rk : Rd w w.heap.size K nk ck lk2) (rv : Rd w w.heap.size V nv cv lv2) (st : Int) (VA : Option Addr) (nva cva af ac an : Nat) (SA : Option Addr) (ns sc : Nat) (cl : Bool) (SL : List (ByteArray × ByteArray)) (rS : Rz w w.heap.size 2 SA ns sc (SL.map stCells).flatten) (hsl : SL.length = ns) (hns : ns ≤ 9223372036854775800) (hno : reqSame q.op op q.bd bd q.qt qt q.fu fu q.oq oq q.fl fl q.ex ex q.cs cs q.dl dl q.ni ni q.lk lk2 q.lv lv2 = true → wrongA st op nva af ac an ns SL = true) :
    Calls Try.prog 66 #[.pointer (some ⟨gc, 0, none⟩), reqV op qt fu bd oq (.slice K nk ck) (.slice V nv cv) fl ex cs dl ni, ansV st (.slice VA nva cva) af ac an (.slice SA ns sc) cl] w (RefQ B gc gp A n c l OA on oc lo wv q w) := by
  obtain ⟨gw, Kw, nkw, ckw, Vw, nvw, cvw, rfl, kw, hgw, fK, fV⟩ := h.wait
  have HSA : Hid (∀ W, Below w.heap.size w W → Calls Try.prog 48 #[.agg #[.int .i64 q.op, .bool q.qt, .bool q.fu, .int .i64 q.bd, .int .u32 (q.oq : Nat), .slice Kw nkw ckw, .slice Vw nvw cvw, .int .u32 (q.fl : Nat), .int .u32 (q.ex : Nat), .int .u64 (q.cs : Nat), .int .u64 (q.dl : Nat), .int .u64 (q.ni : Nat)], .agg #[.int .i64 op, .bool qt, .bool fu, .int .i64 bd, .int .u32 (oq : Nat), .slice K nk ck, .slice V nv cv, .int .u32 (fl : Nat), .int .u32 (ex : Nat), .int .u64 (cs : Nat), .int .u64 (dl : Nat), .int .u64 (ni : Nat)]] W (PSame (reqSame q.op op q.bd bd q.qt qt q.fu fu q.oq oq q.fl fl q.ex ex q.cs cs q.dl dl q.ni ni q.lk lk2 q.lv lv2) W)) := Lib.hid (fun W b => qsame_any q.op op q.bd bd q.qt qt q.fu fu q.oq oq q.fl fl q.ex ex q.cs cs q.dl dl q.ni ni Kw K Vw V nkw ckw nk ck nvw cvw nv cv q.lk lk2 q.lv lv2 W ((fK.1.below b).more b.size) ((rk.below b).more b.size) ((fV.1.below b).more b.size) ((rv.below b).more b.size))
  have HCK : Hid (∀ W, Below w.heap.size w W → Calls Try.prog 25 #[.agg #[.int .i64 op, .bool qt, .bool fu, .int .i64 bd, .int .u32 (oq : Nat), .slice K nk ck, .slice V nv cv, .int .u32 (fl : Nat), .int .u32 (ex : Nat), .int .u64 (cs : Nat), .int .u64 (dl : Nat), .int .u64 (ni : Nat)], .agg #[.int .i64 st, .slice VA nva cva, .int .u32 (af : Nat), .int .u64 (ac : Nat), .int .u64 (an : Nat), .slice SA ns sc, .bool cl]] W (CkQ (wrongA st op nva af ac an ns SL) W)) := Lib.hid (fun W b => check_any op qt fu bd oq (.slice K nk ck) (.slice V nv cv) fl ex cs dl ni st VA nva cva af ac an SA ns sc cl SL W ((rS.below b).more b.size) hns hsl)
  generalize wrongA st op nva af ac an ns SL = wr at HCK hno
  generalize reqSame q.op op q.bd bd q.qt qt q.fu fu q.oq oq q.fl fl q.ex ex q.cs cs q.dl dl q.ni ni q.lk lk2 q.lv lv2 = sm at HSA hno
  have HNO := Lib.hid hno
  clear fK fV hgw rk rv rS hsl hns hno
  have k4 := (Blk.new w #[.int .i64 op, .bool qt, .bool fu, .int .i64 bd, .int .u32 (oq : Nat), .slice K nk ck, .slice V nv cv, .int .u32 (fl : Nat), .int .u32 (ex : Nat), .int .u64 (cs : Nat), .int .u64 (dl : Nat), .int .u64 (ni : Nat)] 26).alloc (.cells #[.int .i64 st, .slice VA nva cva, .int .u32 (af : Nat), .int .u64 (ac : Nat), .int .u64 (an : Nat), .slice SA ns sc, .bool cl] 29)
  have k5 := Blk.new (w.alloc (.cells #[.int .i64 op, .bool qt, .bool fu, .int .i64 bd, .int .u32 (oq : Nat), .slice K nk ck, .slice V nv cv, .int .u32 (fl : Nat), .int .u32 (ex : Nat), .int .u64 (cs : Nat), .int .u64 (dl : Nat), .int .u64 (ni : Nat)] 26)) #[.int .i64 st, .slice VA nva cva, .int .u32 (af : Nat), .int .u64 (ac : Nat), .int .u64 (an : Nat), .slice SA ns sc, .bool cl] 29
  rw [World.size_alloc] at k5
  have b := below_a1' (below_a1' (Below.refl w.heap.size w) (.cells #[.int .i64 op, .bool qt, .bool fu, .int .i64 bd, .int .u32 (oq : Nat), .slice K nk ck, .slice V nv cv, .int .u32 (fl : Nat), .int .u32 (ex : Nat), .int .u64 (cs : Nat), .int .u64 (dl : Nat), .int .u64 (ni : Nat)] 26)) (.cells #[.int .i64 st, .slice VA nva cva, .int .u32 (af : Nat), .int .u64 (ac : Nat), .int .u64 (an : Nat), .slice SA ns sc, .bool cl] 29)
  replace h := h.step b
  replace kw := kw.step b
  unfold reqV ansV
  go_enter Try.func66, Try.ntmps66
  go_upto_region 1 with fail
  generalize (w.alloc (.cells #[.int .i64 op, .bool qt, .bool fu, .int .i64 bd, .int .u32 (oq : Nat), .slice K nk ck, .slice V nv cv, .int .u32 (fl : Nat), .int .u32 (ex : Nat), .int .u64 (cs : Nat), .int .u64 (dl : Nat), .int .u64 (ni : Nat)] 26)).alloc (.cells #[.int .i64 st, .slice VA nva cva, .int .u32 (af : Nat), .int .u64 (ac : Nat), .int .u64 (an : Nat), .slice SA ns sc, .bool cl] 29) = W0 at h kw k4 k5 b ⊢
  obtain ⟨p0, p1, p2, p3⟩ := box4 h.box
  go_upto_region 7 with fail
  clear p0 p1 p2 p3
  go_cut [23] (fun s23 wx => s23 = .bool true ∧ CnA wx B gc gp A n c l OA on oc lo (.pointer (some ⟨gw, 0, none⟩)) (some q) ∧ Below w.heap.size w wx)
  case first =>
    refine wp_region_noPanic ?_
    refine region_T (fun wx => Blk wx gc #[.pointer (some ⟨gp, 0, none⟩), .pointer (some ⟨gw, 0, none⟩), .slice OA on oc, .bool false] 160 ∧ Blk wx gw #[.int .i64 q.op, .bool q.qt, .bool q.fu, .int .i64 q.bd, .int .u32 (q.oq : Nat), .slice Kw nkw ckw, .slice Vw nvw cvw, .int .u32 (q.fl : Nat), .int .u32 (q.ex : Nat), .int .u64 (q.cs : Nat), .int .u64 (q.dl : Nat), .int .u64 (q.ni : Nat)] 26 ∧ Blk wx w.heap.size #[.int .i64 op, .bool qt, .bool fu, .int .i64 bd, .int .u32 (oq : Nat), .slice K nk ck, .slice V nv cv, .int .u32 (fl : Nat), .int .u32 (ex : Nat), .int .u64 (cs : Nat), .int .u64 (dl : Nat), .int .u64 (ni : Nat)] 26 ∧ Blk wx (w.heap.size + 1) #[.int .i64 st, .slice VA nva cva, .int .u32 (af : Nat), .int .u64 (ac : Nat), .int .u64 (an : Nat), .slice SA ns sc, .bool cl] 29) 16 (by kernel_rfl) ?_
    have bD : Below W0.heap.size W0 W0.drew := (Below.refl _ _).drew
    replace h := h.step bD
    replace kw := kw.step bD
    replace k4 := k4.step bD
    replace k5 := k5.step bD
    replace b := below_step b bD
    have hHeld := And.intro h.box (And.intro kw (And.intro k4 k5))
    clear bD
    generalize W0.drew = Y0 at h kw k4 k5 b hHeld ⊢
    refine takeA (i := 0) (v := ?_) rfl (fun _ _ _ h => h) (Or.inl ⟨by rfl, ?_⟩) hHeld ?_
    rotate_left
    · (intro wx hSw; obtain ⟨sa, sb, sc1, sd⟩ := hSw; obtain ⟨a0, a1, a2, a3⟩ := box4 sa; obtain ⟨d0, d1, d2, d3, d4, d5, d6, d7, d8, d9, d10, d11⟩ := box12 sb; obtain ⟨e0, e1, e2, e3, e4, e5, e6, e7, e8, e9, e10, e11⟩ := box12 sc1; obtain ⟨f0, f1, f2, f3, f4, f5, f6⟩ := box7 sd; go_simp; try (with_reducible rfl))
    try simp only [Act.put, List.setIfInBounds_toArray, List.set_cons_zero, List.set_cons_succ]
    refine takeA (i := 1) (v := ?_) rfl (fun _ _ _ h => h) (Or.inl ⟨by rfl, ?_⟩) hHeld ?_
    rotate_left
    · (intro wx hSw; obtain ⟨sa, sb, sc1, sd⟩ := hSw; obtain ⟨a0, a1, a2, a3⟩ := box4 sa; obtain ⟨d0, d1, d2, d3, d4, d5, d6, d7, d8, d9, d10, d11⟩ := box12 sb; obtain ⟨e0, e1, e2, e3, e4, e5, e6, e7, e8, e9, e10, e11⟩ := box12 sc1; obtain ⟨f0, f1, f2, f3, f4, f5, f6⟩ := box7 sd; go_simp; try (with_reducible rfl))
    try simp only [Act.put, List.setIfInBounds_toArray, List.set_cons_zero, List.set_cons_succ]
    refine takeA (i := 2) (v := ?_) rfl (fun _ _ _ h => h) (Or.inl ⟨by rfl, ?_⟩) hHeld ?_
    rotate_left
    · (intro wx hSw; obtain ⟨sa, sb, sc1, sd⟩ := hSw; obtain ⟨a0, a1, a2, a3⟩ := box4 sa; obtain ⟨d0, d1, d2, d3, d4, d5, d6, d7, d8, d9, d10, d11⟩ := box12 sb; obtain ⟨e0, e1, e2, e3, e4, e5, e6, e7, e8, e9, e10, e11⟩ := box12 sc1; obtain ⟨f0, f1, f2, f3, f4, f5, f6⟩ := box7 sd; go_simp; try (with_reducible rfl))
    try simp only [Act.put, List.setIfInBounds_toArray, List.set_cons_zero, List.set_cons_succ]
    refine takeA (i := 3) (v := ?_) rfl (fun _ _ _ h => h) (Or.inl ⟨by rfl, ?_⟩) hHeld ?_
    rotate_left
    · (intro wx hSw; obtain ⟨sa, sb, sc1, sd⟩ := hSw; obtain ⟨a0, a1, a2, a3⟩ := box4 sa; obtain ⟨d0, d1, d2, d3, d4, d5, d6, d7, d8, d9, d10, d11⟩ := box12 sb; obtain ⟨e0, e1, e2, e3, e4, e5, e6, e7, e8, e9, e10, e11⟩ := box12 sc1; obtain ⟨f0, f1, f2, f3, f4, f5, f6⟩ := box7 sd; go_simp; try (with_reducible rfl))
    try simp only [Act.put, List.setIfInBounds_toArray, List.set_cons_zero, List.set_cons_succ]
    refine takeA (i := 4) (v := ?_) rfl (fun _ _ _ h => h) (Or.inl ⟨by rfl, ?_⟩) hHeld ?_
    rotate_left
    · (intro wx hSw; obtain ⟨sa, sb, sc1, sd⟩ := hSw; obtain ⟨a0, a1, a2, a3⟩ := box4 sa; obtain ⟨d0, d1, d2, d3, d4, d5, d6, d7, d8, d9, d10, d11⟩ := box12 sb; obtain ⟨e0, e1, e2, e3, e4, e5, e6, e7, e8, e9, e10, e11⟩ := box12 sc1; obtain ⟨f0, f1, f2, f3, f4, f5, f6⟩ := box7 sd; go_simp; try (with_reducible rfl))
    try simp only [Act.put, List.setIfInBounds_toArray, List.set_cons_zero, List.set_cons_succ]
    refine takeA (i := 5) (v := ?_) rfl (fun _ _ _ h => h) (Or.inl ⟨by rfl, ?_⟩) hHeld ?_
    rotate_left
    · (intro wx hSw; obtain ⟨sa, sb, sc1, sd⟩ := hSw; obtain ⟨a0, a1, a2, a3⟩ := box4 sa; obtain ⟨d0, d1, d2, d3, d4, d5, d6, d7, d8, d9, d10, d11⟩ := box12 sb; obtain ⟨e0, e1, e2, e3, e4, e5, e6, e7, e8, e9, e10, e11⟩ := box12 sc1; obtain ⟨f0, f1, f2, f3, f4, f5, f6⟩ := box7 sd; go_simp; try (with_reducible rfl))
    try simp only [Act.put, List.setIfInBounds_toArray, List.set_cons_zero, List.set_cons_succ]
    refine takeA (i := 6) (v := ?_) rfl (fun _ _ _ h => h) (Or.inl ⟨by rfl, ?_⟩) hHeld ?_
    rotate_left
    · (intro wx hSw; obtain ⟨sa, sb, sc1, sd⟩ := hSw; obtain ⟨a0, a1, a2, a3⟩ := box4 sa; obtain ⟨d0, d1, d2, d3, d4, d5, d6, d7, d8, d9, d10, d11⟩ := box12 sb; obtain ⟨e0, e1, e2, e3, e4, e5, e6, e7, e8, e9, e10, e11⟩ := box12 sc1; obtain ⟨f0, f1, f2, f3, f4, f5, f6⟩ := box7 sd; go_simp; try (with_reducible rfl))
    try simp only [Act.put, List.setIfInBounds_toArray, List.set_cons_zero, List.set_cons_succ]
    refine oneT (i := 7) rfl (by kernel_rfl) (fun KK hK => ?_)
    go_simp
    refine (HSA.out Y0 b).mono ?_
    rintro e Y1 ⟨rfl, b1⟩
    clear hHeld
    replace h := h.step b1
    replace kw := kw.step b1
    replace k4 := k4.step b1
    replace k5 := k5.step b1
    replace b := below_step b b1
    have hHeld := And.intro h.box (And.intro kw (And.intro k4 k5))
    clear b1
    refine hK.out _ _ (fun _ => hHeld) ?_
    clear hK KK
    try simp only [Act.put, List.setIfInBounds_toArray, List.set_cons_zero, List.set_cons_succ]
    cases sm with
    | false =>
      refine takeA (i := 8) (v := ?_) rfl (fun _ _ _ h => h) (Or.inl ⟨by rfl, ?_⟩) hHeld ?_
      rotate_left
      · (intro wx hSw; obtain ⟨sa, sb, sc1, sd⟩ := hSw; obtain ⟨a0, a1, a2, a3⟩ := box4 sa; obtain ⟨d0, d1, d2, d3, d4, d5, d6, d7, d8, d9, d10, d11⟩ := box12 sb; obtain ⟨e0, e1, e2, e3, e4, e5, e6, e7, e8, e9, e10, e11⟩ := box12 sc1; obtain ⟨f0, f1, f2, f3, f4, f5, f6⟩ := box7 sd; go_simp; try (with_reducible rfl))
      try simp only [Act.put, List.setIfInBounds_toArray, List.set_cons_zero, List.set_cons_succ]
      refine takeA (i := 9) (v := ?_) rfl (fun _ _ _ h => h) (Or.inl ⟨by rfl, ?_⟩) hHeld ?_
      rotate_left
      · (intro wx hSw; obtain ⟨sa, sb, sc1, sd⟩ := hSw; obtain ⟨a0, a1, a2, a3⟩ := box4 sa; obtain ⟨d0, d1, d2, d3, d4, d5, d6, d7, d8, d9, d10, d11⟩ := box12 sb; obtain ⟨e0, e1, e2, e3, e4, e5, e6, e7, e8, e9, e10, e11⟩ := box12 sc1; obtain ⟨f0, f1, f2, f3, f4, f5, f6⟩ := box7 sd; go_simp; try (with_reducible rfl))
      try simp only [Act.put, List.setIfInBounds_toArray, List.set_cons_zero, List.set_cons_succ]
      refine takeA (i := 10) (v := undef) rfl (fun _ _ _ h => h) (Or.inr ⟨by rfl, rfl⟩) hHeld ?_
      try simp only [Act.put, List.setIfInBounds_toArray, List.set_cons_zero, List.set_cons_succ]
      refine takeA (i := 11) (v := undef) rfl (fun _ _ _ h => h) (Or.inr ⟨by rfl, rfl⟩) hHeld ?_
      try simp only [Act.put, List.setIfInBounds_toArray, List.set_cons_zero, List.set_cons_succ]
      refine takeA (i := 12) (v := undef) rfl (fun _ _ _ h => h) (Or.inr ⟨by rfl, rfl⟩) hHeld ?_
      try simp only [Act.put, List.setIfInBounds_toArray, List.set_cons_zero, List.set_cons_succ]
      refine takeA (i := 13) (v := undef) rfl (fun _ _ _ h => h) (Or.inr ⟨by rfl, rfl⟩) hHeld ?_
      try simp only [Act.put, List.setIfInBounds_toArray, List.set_cons_zero, List.set_cons_succ]
      refine takeA (i := 14) (v := ?_) rfl (fun _ _ _ h => h) (Or.inl ⟨by rfl, ?_⟩) hHeld ?_
      rotate_left
      · (intro wx hSw; obtain ⟨sa, sb, sc1, sd⟩ := hSw; obtain ⟨a0, a1, a2, a3⟩ := box4 sa; obtain ⟨d0, d1, d2, d3, d4, d5, d6, d7, d8, d9, d10, d11⟩ := box12 sb; obtain ⟨e0, e1, e2, e3, e4, e5, e6, e7, e8, e9, e10, e11⟩ := box12 sc1; obtain ⟨f0, f1, f2, f3, f4, f5, f6⟩ := box7 sd; go_simp; try (with_reducible rfl))
      try simp only [Act.put, List.setIfInBounds_toArray, List.set_cons_zero, List.set_cons_succ]
      refine takeA (i := 15) (v := ?_) rfl (fun _ _ _ h => h) (Or.inl ⟨by rfl, ?_⟩) hHeld ?_
      rotate_left
      · (intro wx hSw; obtain ⟨sa, sb, sc1, sd⟩ := hSw; obtain ⟨a0, a1, a2, a3⟩ := box4 sa; obtain ⟨d0, d1, d2, d3, d4, d5, d6, d7, d8, d9, d10, d11⟩ := box12 sb; obtain ⟨e0, e1, e2, e3, e4, e5, e6, e7, e8, e9, e10, e11⟩ := box12 sc1; obtain ⟨f0, f1, f2, f3, f4, f5, f6⟩ := box7 sd; go_simp; try (with_reducible rfl))
      try simp only [Act.put, List.setIfInBounds_toArray, List.set_cons_zero, List.set_cons_succ]
      refine doneT (by kernel_rfl) ?_ _
      refine NoPanic.normal ?_
      clear hHeld
      go_wp2_with fail
      go_meet
      exact ⟨rfl, h, b⟩
    | true =>
      have hwr := HNO.out rfl
      subst hwr
      refine takeA (i := 8) (v := ?_) rfl (fun _ _ _ h => h) (Or.inl ⟨by rfl, ?_⟩) hHeld ?_
      rotate_left
      · (intro wx hSw; obtain ⟨sa, sb, sc1, sd⟩ := hSw; obtain ⟨a0, a1, a2, a3⟩ := box4 sa; obtain ⟨d0, d1, d2, d3, d4, d5, d6, d7, d8, d9, d10, d11⟩ := box12 sb; obtain ⟨e0, e1, e2, e3, e4, e5, e6, e7, e8, e9, e10, e11⟩ := box12 sc1; obtain ⟨f0, f1, f2, f3, f4, f5, f6⟩ := box7 sd; go_simp; try (with_reducible rfl))
      try simp only [Act.put, List.setIfInBounds_toArray, List.set_cons_zero, List.set_cons_succ]
      refine takeA (i := 9) (v := ?_) rfl (fun _ _ _ h => h) (Or.inl ⟨by rfl, ?_⟩) hHeld ?_
      rotate_left
      · (intro wx hSw; obtain ⟨sa, sb, sc1, sd⟩ := hSw; obtain ⟨a0, a1, a2, a3⟩ := box4 sa; obtain ⟨d0, d1, d2, d3, d4, d5, d6, d7, d8, d9, d10, d11⟩ := box12 sb; obtain ⟨e0, e1, e2, e3, e4, e5, e6, e7, e8, e9, e10, e11⟩ := box12 sc1; obtain ⟨f0, f1, f2, f3, f4, f5, f6⟩ := box7 sd; go_simp; try (with_reducible rfl))
      try simp only [Act.put, List.setIfInBounds_toArray, List.set_cons_zero, List.set_cons_succ]
      refine takeA (i := 10) (v := ?_) rfl (fun _ _ _ h => h) (Or.inl ⟨by rfl, ?_⟩) hHeld ?_
      rotate_left
      · (intro wx hSw; obtain ⟨sa, sb, sc1, sd⟩ := hSw; obtain ⟨a0, a1, a2, a3⟩ := box4 sa; obtain ⟨d0, d1, d2, d3, d4, d5, d6, d7, d8, d9, d10, d11⟩ := box12 sb; obtain ⟨e0, e1, e2, e3, e4, e5, e6, e7, e8, e9, e10, e11⟩ := box12 sc1; obtain ⟨f0, f1, f2, f3, f4, f5, f6⟩ := box7 sd; go_simp; try (with_reducible rfl))
      try simp only [Act.put, List.setIfInBounds_toArray, List.set_cons_zero, List.set_cons_succ]
      refine takeA (i := 11) (v := ?_) rfl (fun _ _ _ h => h) (Or.inl ⟨by rfl, ?_⟩) hHeld ?_
      rotate_left
      · (intro wx hSw; obtain ⟨sa, sb, sc1, sd⟩ := hSw; obtain ⟨a0, a1, a2, a3⟩ := box4 sa; obtain ⟨d0, d1, d2, d3, d4, d5, d6, d7, d8, d9, d10, d11⟩ := box12 sb; obtain ⟨e0, e1, e2, e3, e4, e5, e6, e7, e8, e9, e10, e11⟩ := box12 sc1; obtain ⟨f0, f1, f2, f3, f4, f5, f6⟩ := box7 sd; go_simp; try (with_reducible rfl))
      try simp only [Act.put, List.setIfInBounds_toArray, List.set_cons_zero, List.set_cons_succ]
      refine oneT (i := 12) rfl (by kernel_rfl) (fun KK hK => ?_)
      go_simp
      refine (HCK.out Y1 b).mono ?_
      rintro e Y2 ⟨rfl, b1⟩
      clear hHeld
      replace h := h.step b1
      replace kw := kw.step b1
      replace k4 := k4.step b1
      replace k5 := k5.step b1
      replace b := below_step b b1
      have hHeld := And.intro h.box (And.intro kw (And.intro k4 k5))
      clear b1
      refine hK.out _ _ (fun _ => hHeld) ?_
      clear hK KK
      try simp only [Act.put, List.setIfInBounds_toArray, List.set_cons_zero, List.set_cons_succ]
      refine takeA (i := 13) (v := ?_) rfl (fun _ _ _ h => h) (Or.inl ⟨by rfl, ?_⟩) hHeld ?_
      rotate_left
      · (intro wx hSw; obtain ⟨sa, sb, sc1, sd⟩ := hSw; obtain ⟨a0, a1, a2, a3⟩ := box4 sa; obtain ⟨d0, d1, d2, d3, d4, d5, d6, d7, d8, d9, d10, d11⟩ := box12 sb; obtain ⟨e0, e1, e2, e3, e4, e5, e6, e7, e8, e9, e10, e11⟩ := box12 sc1; obtain ⟨f0, f1, f2, f3, f4, f5, f6⟩ := box7 sd; go_simp; try (with_reducible rfl))
      try simp only [Act.put, List.setIfInBounds_toArray, List.set_cons_zero, List.set_cons_succ]
      refine takeA (i := 14) (v := ?_) rfl (fun _ _ _ h => h) (Or.inl ⟨by rfl, ?_⟩) hHeld ?_
      rotate_left
      · (intro wx hSw; obtain ⟨sa, sb, sc1, sd⟩ := hSw; obtain ⟨a0, a1, a2, a3⟩ := box4 sa; obtain ⟨d0, d1, d2, d3, d4, d5, d6, d7, d8, d9, d10, d11⟩ := box12 sb; obtain ⟨e0, e1, e2, e3, e4, e5, e6, e7, e8, e9, e10, e11⟩ := box12 sc1; obtain ⟨f0, f1, f2, f3, f4, f5, f6⟩ := box7 sd; go_simp; try (with_reducible rfl))
      try simp only [Act.put, List.setIfInBounds_toArray, List.set_cons_zero, List.set_cons_succ]
      refine takeA (i := 15) (v := ?_) rfl (fun _ _ _ h => h) (Or.inl ⟨by rfl, ?_⟩) hHeld ?_
      rotate_left
      · (intro wx hSw; obtain ⟨sa, sb, sc1, sd⟩ := hSw; obtain ⟨a0, a1, a2, a3⟩ := box4 sa; obtain ⟨d0, d1, d2, d3, d4, d5, d6, d7, d8, d9, d10, d11⟩ := box12 sb; obtain ⟨e0, e1, e2, e3, e4, e5, e6, e7, e8, e9, e10, e11⟩ := box12 sc1; obtain ⟨f0, f1, f2, f3, f4, f5, f6⟩ := box7 sd; go_simp; try (with_reducible rfl))
      try simp only [Act.put, List.setIfInBounds_toArray, List.set_cons_zero, List.set_cons_succ]
      refine doneT (by kernel_rfl) ?_ _
      refine NoPanic.normal ?_
      clear hHeld
      go_wp2_with fail
      go_meet
      exact ⟨rfl, h, b⟩
  case rest =>
    obtain ⟨rfl, h, b⟩ := hcut
    have HQ := Lib.hid (And.intro h b)
    clear h b k4 k5 kw
    go_wp2_with fail
    go_ret
    exact ⟨rfl, HQ.out.1, HQ.out.2⟩
end Go.Proofs.Ytnghmgbmflcngaa

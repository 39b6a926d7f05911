/- ParseSame: which requests are the same. Conditions: none. -/
import Derived.Test.YtnghmgbmflcngaaWk20
import Derived.Test.YtnghmgbmflcngaaPrs
import Derived.Test.YtnghmgbmflcngaaQcop
import Derived.Test.YtnghmgbmflcngaaQfew
namespace Go.Proofs.Ytnghmgbmflcngaa
set_option linter.unusedVariables false
open Go.ChangeShapes Go.WideShapes Go.ChangeAt Go.RowKit

/-- Bytes stay where a request's box turns: each of its cells holds no byte. -/
theorem rd_box {w w' : World} {B n c g : Nat} {A : Option Addr} {l : List UInt8} {cs : Array Value} {T : TypeId} (r : Rd w B A n c l) (kb : Blk w g cs T) (h0 : ∀ (j : Nat) (v : Value), cs[j]? = some v → ∀ x, v ≠ cb x) (hg : w.grownBy w' (some g)) (hB : B ≤ w.heap.size) : Rd w' B A n c l := by
  obtain ⟨a1, a2, a3, a4, a5, a6⟩ := r
  refine ⟨a1, a2, a3, a4, a5, fun ad j v hA hu => ?_⟩
  have hc := a6 ad j v hA hu
  have hj : 0 < n := by have := (List.getElem?_eq_some_iff.1 hu).1; omega
  have hlt := a5 ad hA hj
  by_cases e : (ad.add j).block = g
  · exfalso
    rw [cbs_get?] at hu
    obtain ⟨x, hx, rfl⟩ := Option.map_eq_some_iff.1 hu
    have hb : w.heap[(ad.add j).block]? = some (.cells cs T (0, 0)) := by rw [e]; exact kb
    unfold World.cell? at hc
    rw [hb] at hc
    simp only at hc
    split at hc
    · cases hc
    · exact h0 _ _ hc x rfl
  · rw [World.cell?_of_block (hg.block _ (by rw [block_add]; omega) (fun h => e (by injection h)))]
    exact hc
theorem req_nob {c0 c1 c2 c3 c4 c5 c6 c7 c8 c9 c10 c11 : Value} (h : ∀ x, c0 ≠ cb x ∧ c1 ≠ cb x ∧ c2 ≠ cb x ∧ c3 ≠ cb x ∧ c4 ≠ cb x ∧ c5 ≠ cb x ∧ c6 ≠ cb x ∧ c7 ≠ cb x ∧ c8 ≠ cb x ∧ c9 ≠ cb x ∧ c10 ≠ cb x ∧ c11 ≠ cb x) : ∀ (j : Nat) (v : Value), (#[c0, c1, c2, c3, c4, c5, c6, c7, c8, c9, c10, c11] : Array Value)[j]? = some v → ∀ x, v ≠ cb x := by
  intro j v hv x
  obtain ⟨h0, h1, h2, h3, h4, h5, h6, h7, h8, h9, h10, h11⟩ := h x
  match j, hv with
  | 0, hv => simp at hv; subst hv; exact h0
  | 1, hv => simp at hv; subst hv; exact h1
  | 2, hv => simp at hv; subst hv; exact h2
  | 3, hv => simp at hv; subst hv; exact h3
  | 4, hv => simp at hv; subst hv; exact h4
  | 5, hv => simp at hv; subst hv; exact h5
  | 6, hv => simp at hv; subst hv; exact h6
  | 7, hv => simp at hv; subst hv; exact h7
  | 8, hv => simp at hv; subst hv; exact h8
  | 9, hv => simp at hv; subst hv; exact h9
  | 10, hv => simp at hv; subst hv; exact h10
  | 11, hv => simp at hv; subst hv; exact h11
  | k + 12, hv => simp at hv
theorem rd_req {w w' : World} {B n c g : Nat} {A : Option Addr} {l : List UInt8} {T : TypeId} {op bd oq fl ex cs dl ni : Int} {qt fu : Bool} {KA VA : Option Addr} {nk ck nv cv : Nat} (r : Rd w B A n c l) (kb : Blk w g #[.int .i64 op, .bool qt, .bool fu, .int .i64 bd, .int .u32 oq, .slice KA nk ck, .slice VA nv cv, .int .u32 fl, .int .u32 ex, .int .u64 cs, .int .u64 dl, .int .u64 ni] T) (hg : w.grownBy w' (some g)) (hB : B ≤ w.heap.size) : Rd w' B A n c l :=
  rd_box r kb (req_nob fun x => by unfold cb; refine ⟨(by intro h; cases h), (by intro h; cases h), (by intro h; cases h), (by intro h; cases h), (by intro h; cases h), (by intro h; cases h), (by intro h; cases h), (by intro h; cases h), (by intro h; cases h), (by intro h; cases h), (by intro h; cases h), (by intro h; cases h)⟩) hg hB
def PsR (op1 : Int) (qt1 fu1 : Bool) (bd1 : Int) (oq1 fl1 ex1 cs1 dl1 ni1 : Nat) (K1 : Option Addr) (nk1 ck1 : Nat) (lk1 : List UInt8) (V1 : Option Addr) (nv1 cv1 : Nat) (lv1 : List UInt8) (op2 : Int) (qt2 fu2 : Bool) (bd2 : Int) (oq2 fl2 ex2 cs2 dl2 ni2 : Nat) (K2 : Option Addr) (nk2 ck2 : Nat) (lk2 : List UInt8) (V2 : Option Addr) (nv2 cv2 : Nat) (lv2 : List UInt8) (w wx : World) : Prop := ∃ (Ka Va Kb Vb : Option Addr) (cka cva ckb cvb mk1 mv1 mk2 mv2 : Nat) (la1 ma1 la2 ma2 : List UInt8), Blk wx w.heap.size #[.int .i64 op1, .bool qt1, .bool fu1, .int .i64 bd1, .int .u32 (oq1 : Nat), .slice Ka mk1 cka, .slice Va mv1 cva, .int .u32 (fl1 : Nat), .int .u32 (ex1 : Nat), .int .u64 (cs1 : Nat), .int .u64 (dl1 : Nat), .int .u64 (ni1 : Nat)] 26 ∧ Blk wx (w.heap.size + 1) #[.int .i64 op2, .bool qt2, .bool fu2, .int .i64 bd2, .int .u32 (oq2 : Nat), .slice Kb mk2 ckb, .slice Vb mv2 cvb, .int .u32 (fl2 : Nat), .int .u32 (ex2 : Nat), .int .u64 (cs2 : Nat), .int .u64 (dl2 : Nat), .int .u64 (ni2 : Nat)] 26 ∧ Rd wx wx.heap.size Ka mk1 cka la1 ∧ Rd wx wx.heap.size Va mv1 cva ma1 ∧ Rd wx wx.heap.size Kb mk2 ckb la2 ∧ Rd wx wx.heap.size Vb mv2 cvb ma2 ∧ mk1 ≤ 600 ∧ mv1 ≤ 3000 ∧ Below w.heap.size w wx
def FewP1 (op1 : Int) (qt1 fu1 : Bool) (bd1 : Int) (oq1 fl1 ex1 cs1 dl1 ni1 : Nat) (nk1 nv1 : Nat) (lk lv : List UInt8) (w : World) (e : Ending) (w' : World) : Prop :=
  ∃ Ka cka Va cva, e = .returned (.agg #[.int .i64 op1, .bool qt1, .bool fu1, .int .i64 bd1, .int .u32 (oq1 : Nat), .slice Ka (min nk1 600) cka, .slice Va (min nv1 3000) cva, .int .u32 (fl1 : Nat), .int .u32 (ex1 : Nat), .int .u64 (cs1 : Nat), .int .u64 (dl1 : Nat), .int .u64 (ni1 : Nat)]) ∧ Rd w' w.heap.size Ka (min nk1 600) cka (lk.take (min nk1 600)) ∧ Rd w' w.heap.size Va (min nv1 3000) cva (lv.take (min nv1 3000)) ∧ Below w.heap.size w w'
def FewP2 (op2 : Int) (qt2 fu2 : Bool) (bd2 : Int) (oq2 fl2 ex2 cs2 dl2 ni2 : Nat) (nk2 nv2 : Nat) (lk lv : List UInt8) (w : World) (e : Ending) (w' : World) : Prop :=
  ∃ Kb ckb Vb cvb, e = .returned (.agg #[.int .i64 op2, .bool qt2, .bool fu2, .int .i64 bd2, .int .u32 (oq2 : Nat), .slice Kb (min nk2 600) ckb, .slice Vb (min nv2 3000) cvb, .int .u32 (fl2 : Nat), .int .u32 (ex2 : Nat), .int .u64 (cs2 : Nat), .int .u64 (dl2 : Nat), .int .u64 (ni2 : Nat)]) ∧ Rd w' w.heap.size Kb (min nk2 600) ckb (lk.take (min nk2 600)) ∧ Rd w' w.heap.size Vb (min nv2 3000) cvb (lv.take (min nv2 3000)) ∧ Below w.heap.size w w'
def CopP1 (op1 : Int) (qt1 fu1 : Bool) (bd1 : Int) (oq1 fl1 ex1 cs1 dl1 ni1 : Nat) (mk1 mv1 : Nat) (lk lv : List UInt8) (w : World) (e : Ending) (w' : World) : Prop :=
  ∃ Kc ckc Vc cvc, e = .returned (.agg #[.int .i64 op1, .bool qt1, .bool fu1, .int .i64 bd1, .int .u32 (oq1 : Nat), .slice Kc mk1 ckc, .slice Vc mv1 cvc, .int .u32 (fl1 : Nat), .int .u32 (ex1 : Nat), .int .u64 (cs1 : Nat), .int .u64 (dl1 : Nat), .int .u64 (ni1 : Nat)]) ∧ Own w' w.heap.size Kc mk1 ckc lk ∧ Own w' w.heap.size Vc mv1 cvc lv ∧ Below w.heap.size w w'
set_option maxRecDepth 100000 in
set_option maxHeartbeats 4000000 in
theorem walk_parseSame (op1 : Int) (qt1 fu1 : Bool) (bd1 : Int) (oq1 fl1 ex1 cs1 dl1 ni1 : Nat) (K1 : Option Addr) (nk1 ck1 : Nat) (lk1 : List UInt8) (V1 : Option Addr) (nv1 cv1 : Nat) (lv1 : List UInt8) (op2 : Int) (qt2 fu2 : Bool) (bd2 : Int) (oq2 fl2 ex2 cs2 dl2 ni2 : Nat) (K2 : Option Addr) (nk2 ck2 : Nat) (lk2 : List UInt8) (V2 : Option Addr) (nv2 cv2 : Nat) (lv2 : List UInt8) (w : World) (q1 : Rqs w w.heap.size op1 qt1 fu1 bd1 oq1 fl1 ex1 cs1 dl1 ni1 K1 nk1 ck1 lk1 V1 nv1 cv1 lv1) (s1 : ck1 ≤ 140737488351232 ∧ cv1 ≤ 140737488351232) (q2 : Rqs w w.heap.size op2 qt2 fu2 bd2 oq2 fl2 ex2 cs2 dl2 ni2 K2 nk2 ck2 lk2 V2 nv2 cv2 lv2) (s2 : ck2 ≤ 140737488351232 ∧ cv2 ≤ 140737488351232) :
    Calls Try.prog 7 #[reqV op1 qt1 fu1 bd1 oq1 (.slice K1 nk1 ck1) (.slice V1 nv1 cv1) fl1 ex1 cs1 dl1 ni1, reqV op2 qt2 fu2 bd2 oq2 (.slice K2 nk2 ck2) (.slice V2 nv2 cv2) fl2 ex2 cs2 dl2 ni2] w fun e w' => e = .returned (.bool true) ∧ Below w.heap.size w w' := by
  have rk1 := q1.1
  have rv1 := q1.2.1
  have rk2 := q2.1
  have rv2 := q2.2.1
  have HL : Hid (nk1 ≤ 140737488351232 ∧ nv1 ≤ 140737488351232 ∧ nk2 ≤ 140737488351232 ∧ nv2 ≤ 140737488351232) := Lib.hid (by have := rk1.cap; have := rv1.cap; have := rk2.cap; have := rv2.cap; omega)
  clear q1 q2 s1 s2
  have ka := (Blk.new w #[.int .i64 op1, .bool qt1, .bool fu1, .int .i64 bd1, .int .u32 (oq1 : Nat), .slice K1 nk1 ck1, .slice V1 nv1 cv1, .int .u32 (fl1 : Nat), .int .u32 (ex1 : Nat), .int .u64 (cs1 : Nat), .int .u64 (dl1 : Nat), .int .u64 (ni1 : Nat)] 26).alloc (.cells #[.int .i64 op2, .bool qt2, .bool fu2, .int .i64 bd2, .int .u32 (oq2 : Nat), .slice K2 nk2 ck2, .slice V2 nv2 cv2, .int .u32 (fl2 : Nat), .int .u32 (ex2 : Nat), .int .u64 (cs2 : Nat), .int .u64 (dl2 : Nat), .int .u64 (ni2 : Nat)] 26)
  have kb := Blk.new (w.alloc (.cells #[.int .i64 op1, .bool qt1, .bool fu1, .int .i64 bd1, .int .u32 (oq1 : Nat), .slice K1 nk1 ck1, .slice V1 nv1 cv1, .int .u32 (fl1 : Nat), .int .u32 (ex1 : Nat), .int .u64 (cs1 : Nat), .int .u64 (dl1 : Nat), .int .u64 (ni1 : Nat)] 26)) #[.int .i64 op2, .bool qt2, .bool fu2, .int .i64 bd2, .int .u32 (oq2 : Nat), .slice K2 nk2 ck2, .slice V2 nv2 cv2, .int .u32 (fl2 : Nat), .int .u32 (ex2 : Nat), .int .u64 (cs2 : Nat), .int .u64 (dl2 : Nat), .int .u64 (ni2 : Nat)] 26
  rw [World.size_alloc] at kb
  have b := below_a1' (below_a1' (Below.refl w.heap.size w) (.cells #[.int .i64 op1, .bool qt1, .bool fu1, .int .i64 bd1, .int .u32 (oq1 : Nat), .slice K1 nk1 ck1, .slice V1 nv1 cv1, .int .u32 (fl1 : Nat), .int .u32 (ex1 : Nat), .int .u64 (cs1 : Nat), .int .u64 (dl1 : Nat), .int .u64 (ni1 : Nat)] 26)) (.cells #[.int .i64 op2, .bool qt2, .bool fu2, .int .i64 bd2, .int .u32 (oq2 : Nat), .slice K2 nk2 ck2, .slice V2 nv2 cv2, .int .u32 (fl2 : Nat), .int .u32 (ex2 : Nat), .int .u64 (cs2 : Nat), .int .u64 (dl2 : Nat), .int .u64 (ni2 : Nat)] 26)
  have HFA : Hid (∀ W, Below w.heap.size w W → Calls Try.prog 40 #[.agg #[.int .i64 op1, .bool qt1, .bool fu1, .int .i64 bd1, .int .u32 (oq1 : Nat), .slice K1 nk1 ck1, .slice V1 nv1 cv1, .int .u32 (fl1 : Nat), .int .u32 (ex1 : Nat), .int .u64 (cs1 : Nat), .int .u64 (dl1 : Nat), .int .u64 (ni1 : Nat)]] W (FewP1 op1 qt1 fu1 bd1 oq1 fl1 ex1 cs1 dl1 ni1 nk1 nv1 lk1 lv1 W)) := Lib.hid (fun W hb => few_any op1 qt1 fu1 bd1 oq1 fl1 ex1 cs1 dl1 ni1 K1 V1 nk1 ck1 nv1 cv1 lk1 lv1 W ((rk1.below hb).more hb.size) ((rv1.below hb).more hb.size) (by have := HL.out; omega) (by have := HL.out; omega))
  have HFB : Hid (∀ W, Below w.heap.size w W → Calls Try.prog 40 #[.agg #[.int .i64 op2, .bool qt2, .bool fu2, .int .i64 bd2, .int .u32 (oq2 : Nat), .slice K2 nk2 ck2, .slice V2 nv2 cv2, .int .u32 (fl2 : Nat), .int .u32 (ex2 : Nat), .int .u64 (cs2 : Nat), .int .u64 (dl2 : Nat), .int .u64 (ni2 : Nat)]] W (FewP2 op2 qt2 fu2 bd2 oq2 fl2 ex2 cs2 dl2 ni2 nk2 nv2 lk2 lv2 W)) := Lib.hid (fun W hb => few_any op2 qt2 fu2 bd2 oq2 fl2 ex2 cs2 dl2 ni2 K2 V2 nk2 ck2 nv2 cv2 lk2 lv2 W ((rk2.below hb).more hb.size) ((rv2.below hb).more hb.size) (by have := HL.out; omega) (by have := HL.out; omega))
  clear rk1 rv1 rk2 rv2
  unfold reqV
  go_enter Try.func7, Try.ntmps7
  go_upto_region 1 with fail
  generalize (w.alloc (.cells #[.int .i64 op1, .bool qt1, .bool fu1, .int .i64 bd1, .int .u32 (oq1 : Nat), .slice K1 nk1 ck1, .slice V1 nv1 cv1, .int .u32 (fl1 : Nat), .int .u32 (ex1 : Nat), .int .u64 (cs1 : Nat), .int .u64 (dl1 : Nat), .int .u64 (ni1 : Nat)] 26)).alloc (.cells #[.int .i64 op2, .bool qt2, .bool fu2, .int .i64 bd2, .int .u32 (oq2 : Nat), .slice K2 nk2 ck2, .slice V2 nv2 cv2, .int .u32 (fl2 : Nat), .int .u32 (ex2 : Nat), .int .u64 (cs2 : Nat), .int .u64 (dl2 : Nat), .int .u64 (ni2 : Nat)] 26) = W0 at ka kb b ⊢
  go_wp2_with fail
  refine (wakes20 W0).mono ?_
  rintro e w1 ⟨rfl, b1⟩
  replace ka := ka.step b1
  replace kb := kb.step b1
  replace b := below_step b b1
  clear b1
  go_upto_region 3 with fail
  go_cut [] (fun wx => PsR op1 qt1 fu1 bd1 oq1 fl1 ex1 cs1 dl1 ni1 K1 nk1 ck1 lk1 V1 nv1 cv1 lv1 op2 qt2 fu2 bd2 oq2 fl2 ex2 cs2 dl2 ni2 K2 nk2 ck2 lk2 V2 nv2 cv2 lv2 w wx)
  case first =>
    refine wp_region_noPanic ?_
    refine region_T (fun wx => (wx.cell? ⟨w.heap.size, 0, none⟩ = some (.int .i64 op1) ∧ wx.cell? ⟨w.heap.size, 1, none⟩ = some (.bool qt1) ∧ wx.cell? ⟨w.heap.size, 2, none⟩ = some (.bool fu1) ∧ wx.cell? ⟨w.heap.size, 3, none⟩ = some (.int .i64 bd1) ∧ wx.cell? ⟨w.heap.size, 4, none⟩ = some (.int .u32 (oq1 : Nat)) ∧ wx.cell? ⟨w.heap.size, 5, none⟩ = some (.slice K1 nk1 ck1) ∧ wx.cell? ⟨w.heap.size, 6, none⟩ = some (.slice V1 nv1 cv1) ∧ wx.cell? ⟨w.heap.size, 7, none⟩ = some (.int .u32 (fl1 : Nat)) ∧ wx.cell? ⟨w.heap.size, 8, none⟩ = some (.int .u32 (ex1 : Nat)) ∧ wx.cell? ⟨w.heap.size, 9, none⟩ = some (.int .u64 (cs1 : Nat)) ∧ wx.cell? ⟨w.heap.size, 10, none⟩ = some (.int .u64 (dl1 : Nat)) ∧ wx.cell? ⟨w.heap.size, 11, none⟩ = some (.int .u64 (ni1 : Nat))) ∧ (wx.cell? ⟨w.heap.size + 1, 0, none⟩ = some (.int .i64 op2) ∧ wx.cell? ⟨w.heap.size + 1, 1, none⟩ = some (.bool qt2) ∧ wx.cell? ⟨w.heap.size + 1, 2, none⟩ = some (.bool fu2) ∧ wx.cell? ⟨w.heap.size + 1, 3, none⟩ = some (.int .i64 bd2) ∧ wx.cell? ⟨w.heap.size + 1, 4, none⟩ = some (.int .u32 (oq2 : Nat)) ∧ wx.cell? ⟨w.heap.size + 1, 5, none⟩ = some (.slice K2 nk2 ck2) ∧ wx.cell? ⟨w.heap.size + 1, 6, none⟩ = some (.slice V2 nv2 cv2) ∧ wx.cell? ⟨w.heap.size + 1, 7, none⟩ = some (.int .u32 (fl2 : Nat)) ∧ wx.cell? ⟨w.heap.size + 1, 8, none⟩ = some (.int .u32 (ex2 : Nat)) ∧ wx.cell? ⟨w.heap.size + 1, 9, none⟩ = some (.int .u64 (cs2 : Nat)) ∧ wx.cell? ⟨w.heap.size + 1, 10, none⟩ = some (.int .u64 (dl2 : Nat)) ∧ wx.cell? ⟨w.heap.size + 1, 11, none⟩ = some (.int .u64 (ni2 : Nat)))) 4 (by kernel_rfl) ?_
    have bD : Below w1.heap.size w1 w1.drew := (Below.refl _ _).drew
    have ka := ka.step bD
    have kb := kb.step bD
    have b := below_step b bD
    clear bD
    have hHeld := And.intro (box12 ka) (box12 kb)
    generalize w1.drew = Y0 at b hHeld ka kb ⊢
    refine takeU (i := 0) (v := ?_) rfl (by kernel_rfl) (by kernel_rfl) (by kernel_rfl) (by kernel_rfl) (by kernel_rfl) (fun _ _ _ h => h) (Or.inl ⟨by rfl, ?_⟩) hHeld ?_
    rotate_left
    · (intro wx hSw; obtain ⟨⟨a0, a1, a2, a3, a4, a5, a6, a7, a8, a9, a10, a11⟩, c0, c1, c2, c3, c4, c5, c6, c7, c8, c9, c10, c11⟩ := hSw; go_simp; try (with_reducible rfl))
    try simp only [Act.put, List.setIfInBounds_toArray, List.set_cons_zero, List.set_cons_succ]
    refine takeU (i := 2) (v := ?_) rfl (by kernel_rfl) (by kernel_rfl) (by kernel_rfl) (by kernel_rfl) (by kernel_rfl) (fun _ _ _ h => h) (Or.inl ⟨by rfl, ?_⟩) hHeld ?_
    rotate_left
    · (intro wx hSw; obtain ⟨⟨a0, a1, a2, a3, a4, a5, a6, a7, a8, a9, a10, a11⟩, c0, c1, c2, c3, c4, c5, c6, c7, c8, c9, c10, c11⟩ := hSw; go_simp; try (with_reducible rfl))
    try simp only [Act.put, List.setIfInBounds_toArray, List.set_cons_zero, List.set_cons_succ]
    refine oneT (i := 1) rfl (by kernel_rfl) (fun KK hK => ?_)
    go_simp
    refine (HFA.out Y0 b).mono ?_
    rintro e Y1 ⟨Ka, cka, Va, cva, rfl, rka, rva, b1⟩
    replace rka := rka.more b1.size
    replace rva := rva.more b1.size
    have ka := ka.step b1
    have kb := kb.step b1
    have b := below_step b b1
    clear b1 hHeld
    have hHeld := And.intro (box12 ka) (box12 kb)
    refine hK.out _ _ (fun _ => hHeld) ?_
    clear hK KK
    try simp only [Act.put, List.setIfInBounds_toArray, List.set_cons_zero, List.set_cons_succ]
    refine oneT (i := 3) rfl (by kernel_rfl) (fun KK hK => ?_)
    go_simp
    refine (HFB.out Y1 b).mono ?_
    rintro e Y2 ⟨Kb, ckb, Vb, cvb, rfl, rkb, rvb, b1⟩
    replace rka := rka.step b1
    replace rva := rva.step b1
    replace rkb := rkb.more b1.size
    replace rvb := rvb.more b1.size
    have ka := ka.step b1
    have kb := kb.step b1
    have b := below_step b b1
    clear b1 hHeld
    have hHeld := And.intro (box12 ka) (box12 kb)
    refine hK.out _ _ (fun _ => hHeld) ?_
    clear hK KK
    try simp only [Act.put, List.setIfInBounds_toArray, List.set_cons_zero, List.set_cons_succ]
    clear hHeld
    obtain ⟨z0, z1, z2, z3, z4, z5, z6, z7, z8, z9, z10, z11⟩ := box12 ka
    have y0 := ka.frozen 0
    have y1 := ka.frozen 1
    have y2 := ka.frozen 2
    have y3 := ka.frozen 3
    have y4 := ka.frozen 4
    have y5 := ka.frozen 5
    have y6 := ka.frozen 6
    have y7 := ka.frozen 7
    have y8 := ka.frozen 8
    have y9 := ka.frozen 9
    have y10 := ka.frozen 10
    have y11 := ka.frozen 11
    refine oneT (i := 4) rfl (by kernel_rfl) (fun KK hK => ?_)
    go_simp
    have gs := grown_set12 Y2 w.heap.size (.int .i64 op1) (.bool qt1) (.bool fu1) (.int .i64 bd1) (.int .u32 (oq1 : Nat)) (.slice Ka (min nk1 600) cka) (.slice Va (min nv1 3000) cva) (.int .u32 (fl1 : Nat)) (.int .u32 (ex1 : Nat)) (.int .u64 (cs1 : Nat)) (.int .u64 (dl1 : Nat)) (.int .u64 (ni1 : Nat))
    have kf := blk_set12 ka (.int .i64 op1) (.bool qt1) (.bool fu1) (.int .i64 bd1) (.int .u32 (oq1 : Nat)) (.slice Ka (min nk1 600) cka) (.slice Va (min nv1 3000) cva) (.int .u32 (fl1 : Nat)) (.int .u32 (ex1 : Nat)) (.int .u64 (cs1 : Nat)) (.int .u64 (dl1 : Nat)) (.int .u64 (ni1 : Nat))
    have rka := (rd_req rka ka gs (Nat.le_refl _)).more gs.size
    have rva := (rd_req rva ka gs (Nat.le_refl _)).more gs.size
    have rkb := (rd_req rkb ka gs (Nat.le_refl _)).more gs.size
    have rvb := (rd_req rvb ka gs (Nat.le_refl _)).more gs.size
    have kb := kb.leftC gs (by omega)
    have b := b.trans (below_grown gs (by omega) ka.lt)
    refine hK.out _ _ (fun h => absurd h (by decide)) ?_
    clear hK KK
    try simp only [Act.put, List.setIfInBounds_toArray, List.set_cons_zero, List.set_cons_succ]
    clear z0 z1 z2 z3 z4 z5 z6 z7 z8 z9 z10 z11 y0 y1 y2 y3 y4 y5 y6 y7 y8 y9 y10 y11
    generalize hVF : ((((((((((((Y2.setCell ⟨w.heap.size, 0, none⟩ (.int .i64 op1)).setCell ⟨w.heap.size, 1, none⟩ (.bool qt1)).setCell ⟨w.heap.size, 2, none⟩ (.bool fu1)).setCell ⟨w.heap.size, 3, none⟩ (.int .i64 bd1)).setCell ⟨w.heap.size, 4, none⟩ (.int .u32 (oq1 : Nat))).setCell ⟨w.heap.size, 5, none⟩ (.slice Ka (min nk1 600) cka)).setCell ⟨w.heap.size, 6, none⟩ (.slice Va (min nv1 3000) cva)).setCell ⟨w.heap.size, 7, none⟩ (.int .u32 (fl1 : Nat))).setCell ⟨w.heap.size, 8, none⟩ (.int .u32 (ex1 : Nat))).setCell ⟨w.heap.size, 9, none⟩ (.int .u64 (cs1 : Nat))).setCell ⟨w.heap.size, 10, none⟩ (.int .u64 (dl1 : Nat))).setCell ⟨w.heap.size, 11, none⟩ (.int .u64 (ni1 : Nat))) = Y3 at kf kb rka rva rkb rvb b ⊢
    clear hVF gs
    clear ka
    have ka := kf
    clear kf
    obtain ⟨z0, z1, z2, z3, z4, z5, z6, z7, z8, z9, z10, z11⟩ := box12 kb
    have y0 := kb.frozen 0
    have y1 := kb.frozen 1
    have y2 := kb.frozen 2
    have y3 := kb.frozen 3
    have y4 := kb.frozen 4
    have y5 := kb.frozen 5
    have y6 := kb.frozen 6
    have y7 := kb.frozen 7
    have y8 := kb.frozen 8
    have y9 := kb.frozen 9
    have y10 := kb.frozen 10
    have y11 := kb.frozen 11
    refine oneT (i := 5) rfl (by kernel_rfl) (fun KK hK => ?_)
    go_simp
    have gs := grown_set12 Y3 (w.heap.size + 1) (.int .i64 op2) (.bool qt2) (.bool fu2) (.int .i64 bd2) (.int .u32 (oq2 : Nat)) (.slice Kb (min nk2 600) ckb) (.slice Vb (min nv2 3000) cvb) (.int .u32 (fl2 : Nat)) (.int .u32 (ex2 : Nat)) (.int .u64 (cs2 : Nat)) (.int .u64 (dl2 : Nat)) (.int .u64 (ni2 : Nat))
    have kf := blk_set12 kb (.int .i64 op2) (.bool qt2) (.bool fu2) (.int .i64 bd2) (.int .u32 (oq2 : Nat)) (.slice Kb (min nk2 600) ckb) (.slice Vb (min nv2 3000) cvb) (.int .u32 (fl2 : Nat)) (.int .u32 (ex2 : Nat)) (.int .u64 (cs2 : Nat)) (.int .u64 (dl2 : Nat)) (.int .u64 (ni2 : Nat))
    have rka := (rd_req rka kb gs (Nat.le_refl _)).more gs.size
    have rva := (rd_req rva kb gs (Nat.le_refl _)).more gs.size
    have rkb := (rd_req rkb kb gs (Nat.le_refl _)).more gs.size
    have rvb := (rd_req rvb kb gs (Nat.le_refl _)).more gs.size
    have ka := ka.leftC gs (by omega)
    have b := b.trans (below_grown gs (by omega) kb.lt)
    refine hK.out _ _ (fun h => absurd h (by decide)) ?_
    clear hK KK
    try simp only [Act.put, List.setIfInBounds_toArray, List.set_cons_zero, List.set_cons_succ]
    clear z0 z1 z2 z3 z4 z5 z6 z7 z8 z9 z10 z11 y0 y1 y2 y3 y4 y5 y6 y7 y8 y9 y10 y11
    generalize hVF : ((((((((((((Y3.setCell ⟨(w.heap.size + 1), 0, none⟩ (.int .i64 op2)).setCell ⟨(w.heap.size + 1), 1, none⟩ (.bool qt2)).setCell ⟨(w.heap.size + 1), 2, none⟩ (.bool fu2)).setCell ⟨(w.heap.size + 1), 3, none⟩ (.int .i64 bd2)).setCell ⟨(w.heap.size + 1), 4, none⟩ (.int .u32 (oq2 : Nat))).setCell ⟨(w.heap.size + 1), 5, none⟩ (.slice Kb (min nk2 600) ckb)).setCell ⟨(w.heap.size + 1), 6, none⟩ (.slice Vb (min nv2 3000) cvb)).setCell ⟨(w.heap.size + 1), 7, none⟩ (.int .u32 (fl2 : Nat))).setCell ⟨(w.heap.size + 1), 8, none⟩ (.int .u32 (ex2 : Nat))).setCell ⟨(w.heap.size + 1), 9, none⟩ (.int .u64 (cs2 : Nat))).setCell ⟨(w.heap.size + 1), 10, none⟩ (.int .u64 (dl2 : Nat))).setCell ⟨(w.heap.size + 1), 11, none⟩ (.int .u64 (ni2 : Nat))) = Y4 at kf ka rka rva rkb rvb b ⊢
    clear hVF gs
    clear kb
    have kb := kf
    clear kf
    refine doneT (by kernel_rfl) ?_ _
    refine NoPanic.normal ?_
    go_wp2_with fail
    go_meet
    exact ⟨Ka, Va, Kb, Vb, cka, cva, ckb, cvb, _, _, _, _, _, _, _, _, ka, kb, rka, rva, rkb, rvb, by omega, by omega, b⟩
  case rest =>
    obtain ⟨Ka, Va, Kb, Vb, cka, cva, ckb, cvb, mk1, mv1, mk2, mv2, la1, ma1, la2, ma2, ka, kb, rka, rva, rkb, rvb, hm1, hm2, b⟩ := hcut
    have HM := Lib.hid (And.intro hm1 hm2)
    clear hm1 hm2 HFA HFB
    generalize hv : reqSame op1 op2 bd1 bd2 qt1 qt2 fu1 fu2 oq1 oq2 fl1 fl2 ex1 ex2 cs1 cs2 dl1 dl2 ni1 ni2 la1 la2 ma1 ma2 = v
    have HPS : Hid (∀ W, Rd W W.heap.size Ka mk1 cka la1 → Rd W W.heap.size Va mv1 cva ma1 → Rd W W.heap.size Kb mk2 ckb la2 → Rd W W.heap.size Vb mv2 cvb ma2 → Calls Try.prog 48 #[.agg #[.int .i64 op1, .bool qt1, .bool fu1, .int .i64 bd1, .int .u32 (oq1 : Nat), .slice Ka mk1 cka, .slice Va mv1 cva, .int .u32 (fl1 : Nat), .int .u32 (ex1 : Nat), .int .u64 (cs1 : Nat), .int .u64 (dl1 : Nat), .int .u64 (ni1 : Nat)], .agg #[.int .i64 op2, .bool qt2, .bool fu2, .int .i64 bd2, .int .u32 (oq2 : Nat), .slice Kb mk2 ckb, .slice Vb mv2 cvb, .int .u32 (fl2 : Nat), .int .u32 (ex2 : Nat), .int .u64 (cs2 : Nat), .int .u64 (dl2 : Nat), .int .u64 (ni2 : Nat)]] W (PSame v W)) := Lib.hid (fun W h1 h2 h3 h4 => hv ▸ qsame_any op1 op2 bd1 bd2 qt1 qt2 fu1 fu2 oq1 oq2 fl1 fl2 ex1 ex2 cs1 cs2 dl1 dl2 ni1 ni2 Ka Kb Va Vb mk1 cka mk2 ckb mv1 cva mv2 cvb la1 la2 ma1 ma2 W h1 h3 h2 h4)
    have HRS : Hid (∀ W, Rd W W.heap.size Ka mk1 cka la1 → Rd W W.heap.size Va mv1 cva ma1 → Rd W W.heap.size Kb mk2 ckb la2 → Rd W W.heap.size Vb mv2 cvb ma2 → Calls Try.prog 45 #[.agg #[.int .i64 op1, .bool qt1, .bool fu1, .int .i64 bd1, .int .u32 (oq1 : Nat), .slice Ka mk1 cka, .slice Va mv1 cva, .int .u32 (fl1 : Nat), .int .u32 (ex1 : Nat), .int .u64 (cs1 : Nat), .int .u64 (dl1 : Nat), .int .u64 (ni1 : Nat)], .agg #[.int .i64 op2, .bool qt2, .bool fu2, .int .i64 bd2, .int .u32 (oq2 : Nat), .slice Kb mk2 ckb, .slice Vb mv2 cvb, .int .u32 (fl2 : Nat), .int .u32 (ex2 : Nat), .int .u64 (cs2 : Nat), .int .u64 (dl2 : Nat), .int .u64 (ni2 : Nat)]] W (PSame v W)) := Lib.hid (fun W h1 h2 h3 h4 => hv ▸ rqsame_any op1 op2 bd1 bd2 qt1 qt2 fu1 fu2 oq1 oq2 fl1 fl2 ex1 ex2 cs1 cs2 dl1 dl2 ni1 ni2 Ka Kb Va Vb mk1 cka mk2 ckb mv1 cva mv2 cvb la1 la2 ma1 ma2 W h1 h3 h2 h4)
    have HCP : Hid (∀ W, Rd W W.heap.size Ka mk1 cka la1 → Rd W W.heap.size Va mv1 cva ma1 → Calls Try.prog 41 #[.agg #[.int .i64 op1, .bool qt1, .bool fu1, .int .i64 bd1, .int .u32 (oq1 : Nat), .slice Ka mk1 cka, .slice Va mv1 cva, .int .u32 (fl1 : Nat), .int .u32 (ex1 : Nat), .int .u64 (cs1 : Nat), .int .u64 (dl1 : Nat), .int .u64 (ni1 : Nat)]] W (CopP1 op1 qt1 fu1 bd1 oq1 fl1 ex1 cs1 dl1 ni1 mk1 mv1 la1 ma1 W)) := Lib.hid (fun W h1 h2 => copied_any op1 qt1 fu1 bd1 oq1 fl1 ex1 cs1 dl1 ni1 Ka Va mk1 cka mv1 cva la1 ma1 W h1 h2 (by have := HM.out; omega) (by have := HM.out; omega))
    have HSS : Hid (∀ W Kc ckc Vc cvc, Rd W W.heap.size Ka mk1 cka la1 → Rd W W.heap.size Va mv1 cva ma1 → Rd W W.heap.size Kc mk1 ckc la1 → Rd W W.heap.size Vc mv1 cvc ma1 → Calls Try.prog 48 #[.agg #[.int .i64 op1, .bool qt1, .bool fu1, .int .i64 bd1, .int .u32 (oq1 : Nat), .slice Ka mk1 cka, .slice Va mv1 cva, .int .u32 (fl1 : Nat), .int .u32 (ex1 : Nat), .int .u64 (cs1 : Nat), .int .u64 (dl1 : Nat), .int .u64 (ni1 : Nat)], .agg #[.int .i64 op1, .bool qt1, .bool fu1, .int .i64 bd1, .int .u32 (oq1 : Nat), .slice Kc mk1 ckc, .slice Vc mv1 cvc, .int .u32 (fl1 : Nat), .int .u32 (ex1 : Nat), .int .u64 (cs1 : Nat), .int .u64 (dl1 : Nat), .int .u64 (ni1 : Nat)]] W (PSame true W)) := Lib.hid (fun W Kc ckc Vc cvc h1 h2 h3 h4 => (reqSame_yes (op1 := op1) (op2 := op1) (bd1 := bd1) (bd2 := bd1) (qt1 := qt1) (qt2 := qt1) (fu1 := fu1) (fu2 := fu1) (oq1 := oq1) (oq2 := oq1) (fl1 := fl1) (fl2 := fl1) (ex1 := ex1) (ex2 := ex1) (cs1 := cs1) (cs2 := cs1) (dl1 := dl1) (dl2 := dl1) (ni1 := ni1) (ni2 := ni1) (lk1 := la1) (lk2 := la1) (lv1 := ma1) (lv2 := ma1) ⟨rfl, rfl, rfl, rfl, rfl, rfl, rfl, rfl, rfl, rfl, rfl, rfl⟩) ▸ qsame_any op1 op1 bd1 bd1 qt1 qt1 fu1 fu1 oq1 oq1 fl1 fl1 ex1 ex1 cs1 cs1 dl1 dl1 ni1 ni1 Ka Kc Va Vc mk1 cka mk1 ckc mv1 cva mv1 cvc la1 la1 ma1 ma1 W h1 h3 h2 h4)
    have evv : (v == v) = true := beq_self_eq_true v
    clear hv
    go_upto_region 4 with fail
    go_cut [4] (fun s4 wx => s4 = .bool true ∧ Below w.heap.size w wx)
    case first =>
      refine wp_region_noPanic ?_
      refine region_T (fun wx => (wx.cell? ⟨w.heap.size, 0, none⟩ = some (.int .i64 op1) ∧ wx.cell? ⟨w.heap.size, 1, none⟩ = some (.bool qt1) ∧ wx.cell? ⟨w.heap.size, 2, none⟩ = some (.bool fu1) ∧ wx.cell? ⟨w.heap.size, 3, none⟩ = some (.int .i64 bd1) ∧ wx.cell? ⟨w.heap.size, 4, none⟩ = some (.int .u32 (oq1 : Nat)) ∧ wx.cell? ⟨w.heap.size, 5, none⟩ = some (.slice Ka mk1 cka) ∧ wx.cell? ⟨w.heap.size, 6, none⟩ = some (.slice Va mv1 cva) ∧ wx.cell? ⟨w.heap.size, 7, none⟩ = some (.int .u32 (fl1 : Nat)) ∧ wx.cell? ⟨w.heap.size, 8, none⟩ = some (.int .u32 (ex1 : Nat)) ∧ wx.cell? ⟨w.heap.size, 9, none⟩ = some (.int .u64 (cs1 : Nat)) ∧ wx.cell? ⟨w.heap.size, 10, none⟩ = some (.int .u64 (dl1 : Nat)) ∧ wx.cell? ⟨w.heap.size, 11, none⟩ = some (.int .u64 (ni1 : Nat))) ∧ (wx.cell? ⟨w.heap.size + 1, 0, none⟩ = some (.int .i64 op2) ∧ wx.cell? ⟨w.heap.size + 1, 1, none⟩ = some (.bool qt2) ∧ wx.cell? ⟨w.heap.size + 1, 2, none⟩ = some (.bool fu2) ∧ wx.cell? ⟨w.heap.size + 1, 3, none⟩ = some (.int .i64 bd2) ∧ wx.cell? ⟨w.heap.size + 1, 4, none⟩ = some (.int .u32 (oq2 : Nat)) ∧ wx.cell? ⟨w.heap.size + 1, 5, none⟩ = some (.slice Kb mk2 ckb) ∧ wx.cell? ⟨w.heap.size + 1, 6, none⟩ = some (.slice Vb mv2 cvb) ∧ wx.cell? ⟨w.heap.size + 1, 7, none⟩ = some (.int .u32 (fl2 : Nat)) ∧ wx.cell? ⟨w.heap.size + 1, 8, none⟩ = some (.int .u32 (ex2 : Nat)) ∧ wx.cell? ⟨w.heap.size + 1, 9, none⟩ = some (.int .u64 (cs2 : Nat)) ∧ wx.cell? ⟨w.heap.size + 1, 10, none⟩ = some (.int .u64 (dl2 : Nat)) ∧ wx.cell? ⟨w.heap.size + 1, 11, none⟩ = some (.int .u64 (ni2 : Nat)))) 14 (by kernel_rfl) ?_
      have bD : Below wc.heap.size wc wc.drew := (Below.refl _ _).drew
      have ka := ka.step bD
      have kb := kb.step bD
      have b := below_step b bD
      have rka := rka.step bD
      have rva := rva.step bD
      have rkb := rkb.step bD
      have rvb := rvb.step bD
      clear bD
      have hHeld := And.intro (box12 ka) (box12 kb)
      generalize wc.drew = Y0 at b hHeld ka kb rka rva rkb rvb ⊢
      refine takeT (i := 0) (v := ?_) rfl (by kernel_rfl) (by kernel_rfl) (by decide) (by kernel_rfl) (by kernel_rfl) (fun _ _ _ h => h) (Or.inl ⟨by rfl, ?_⟩) hHeld ?_
      rotate_left
      · (intro wx hSw; obtain ⟨⟨a0, a1, a2, a3, a4, a5, a6, a7, a8, a9, a10, a11⟩, c0, c1, c2, c3, c4, c5, c6, c7, c8, c9, c10, c11⟩ := hSw; go_simp; try (with_reducible rfl))
      try simp only [Act.put, List.setIfInBounds_toArray, List.set_cons_zero, List.set_cons_succ]
      refine takeT (i := 1) (v := ?_) rfl (by kernel_rfl) (by kernel_rfl) (by decide) (by kernel_rfl) (by kernel_rfl) (fun _ _ _ h => h) (Or.inl ⟨by rfl, ?_⟩) hHeld ?_
      rotate_left
      · (intro wx hSw; obtain ⟨⟨a0, a1, a2, a3, a4, a5, a6, a7, a8, a9, a10, a11⟩, c0, c1, c2, c3, c4, c5, c6, c7, c8, c9, c10, c11⟩ := hSw; go_simp; try (with_reducible rfl))
      try simp only [Act.put, List.setIfInBounds_toArray, List.set_cons_zero, List.set_cons_succ]
      refine takeT (i := 3) (v := ?_) rfl (by kernel_rfl) (by kernel_rfl) (by decide) (by kernel_rfl) (by kernel_rfl) (fun _ _ _ h => h) (Or.inl ⟨by rfl, ?_⟩) hHeld ?_
      rotate_left
      · (intro wx hSw; obtain ⟨⟨a0, a1, a2, a3, a4, a5, a6, a7, a8, a9, a10, a11⟩, c0, c1, c2, c3, c4, c5, c6, c7, c8, c9, c10, c11⟩ := hSw; go_simp; try (with_reducible rfl))
      try simp only [Act.put, List.setIfInBounds_toArray, List.set_cons_zero, List.set_cons_succ]
      refine takeT (i := 4) (v := ?_) rfl (by kernel_rfl) (by kernel_rfl) (by decide) (by kernel_rfl) (by kernel_rfl) (fun _ _ _ h => h) (Or.inl ⟨by rfl, ?_⟩) hHeld ?_
      rotate_left
      · (intro wx hSw; obtain ⟨⟨a0, a1, a2, a3, a4, a5, a6, a7, a8, a9, a10, a11⟩, c0, c1, c2, c3, c4, c5, c6, c7, c8, c9, c10, c11⟩ := hSw; go_simp; try (with_reducible rfl))
      try simp only [Act.put, List.setIfInBounds_toArray, List.set_cons_zero, List.set_cons_succ]
      refine oneT (i := 2) rfl (by kernel_rfl) (fun KK hK => ?_)
      go_simp
      refine (HPS.out Y0 rka rva rkb rvb).mono ?_
      rintro e Y1 ⟨rfl, b1⟩
      have ka := ka.step b1
      have kb := kb.step b1
      have b := below_step b b1
      have rka := rka.step b1
      have rva := rva.step b1
      have rkb := rkb.step b1
      have rvb := rvb.step b1
      clear b1 hHeld
      have hHeld := And.intro (box12 ka) (box12 kb)
      refine hK.out _ _ (fun _ => hHeld) ?_
      clear hK KK
      try simp only [Act.put, List.setIfInBounds_toArray, List.set_cons_zero, List.set_cons_succ]
      refine oneT (i := 5) rfl (by kernel_rfl) (fun KK hK => ?_)
      go_simp
      refine (HRS.out Y1 rka rva rkb rvb).mono ?_
      rintro e Y2 ⟨rfl, b1⟩
      have ka := ka.step b1
      have kb := kb.step b1
      have b := below_step b b1
      have rka := rka.step b1
      have rva := rva.step b1
      have rkb := rkb.step b1
      have rvb := rvb.step b1
      clear b1 hHeld
      have hHeld := And.intro (box12 ka) (box12 kb)
      refine hK.out _ _ (fun _ => hHeld) ?_
      clear hK KK
      try simp only [Act.put, List.setIfInBounds_toArray, List.set_cons_zero, List.set_cons_succ]
      refine takeT (i := 6) (v := ?_) rfl (by kernel_rfl) (by kernel_rfl) (by decide) (by kernel_rfl) (by kernel_rfl) (fun _ _ _ h => h) (Or.inl ⟨by rfl, ?_⟩) hHeld ?_
      rotate_left
      · (intro wx hSw; obtain ⟨⟨a0, a1, a2, a3, a4, a5, a6, a7, a8, a9, a10, a11⟩, c0, c1, c2, c3, c4, c5, c6, c7, c8, c9, c10, c11⟩ := hSw; go_simp; try (with_reducible rfl))
      try simp only [Act.put, List.setIfInBounds_toArray, List.set_cons_zero, List.set_cons_succ]
      refine takeT (i := 7) (v := ?_) rfl (by kernel_rfl) (by kernel_rfl) (by decide) (by kernel_rfl) (by kernel_rfl) (fun _ _ _ h => h) (Or.inl ⟨by rfl, ?_⟩) hHeld ?_
      rotate_left
      · (intro wx hSw; obtain ⟨⟨a0, a1, a2, a3, a4, a5, a6, a7, a8, a9, a10, a11⟩, c0, c1, c2, c3, c4, c5, c6, c7, c8, c9, c10, c11⟩ := hSw; go_simp; try (with_reducible rfl))
      try simp only [Act.put, List.setIfInBounds_toArray, List.set_cons_zero, List.set_cons_succ]
      refine takeT (i := 8) (v := ?_) rfl (by kernel_rfl) (by kernel_rfl) (by decide) (by kernel_rfl) (by kernel_rfl) (fun _ _ _ h => h) (Or.inl ⟨by rfl, ?_⟩) hHeld ?_
      rotate_left
      · (intro wx hSw; obtain ⟨⟨a0, a1, a2, a3, a4, a5, a6, a7, a8, a9, a10, a11⟩, c0, c1, c2, c3, c4, c5, c6, c7, c8, c9, c10, c11⟩ := hSw; go_simp; try (with_reducible rfl))
      try simp only [Act.put, List.setIfInBounds_toArray, List.set_cons_zero, List.set_cons_succ]
      refine takeT (i := 9) (v := ?_) rfl (by kernel_rfl) (by kernel_rfl) (by decide) (by kernel_rfl) (by kernel_rfl) (fun _ _ _ h => h) (Or.inl ⟨by rfl, ?_⟩) hHeld ?_
      rotate_left
      · (intro wx hSw; obtain ⟨⟨a0, a1, a2, a3, a4, a5, a6, a7, a8, a9, a10, a11⟩, c0, c1, c2, c3, c4, c5, c6, c7, c8, c9, c10, c11⟩ := hSw; go_simp; try (with_reducible rfl))
      try simp only [Act.put, List.setIfInBounds_toArray, List.set_cons_zero, List.set_cons_succ]
      refine oneT (i := 10) rfl (by kernel_rfl) (fun KK hK => ?_)
      go_simp
      refine (HCP.out Y2 rka rva).mono ?_
      rintro e Y3 ⟨Kc, ckc, Vc, cvc, rfl, oKc, oVc, b1⟩
      have ka := ka.step b1
      have kb := kb.step b1
      have b := below_step b b1
      have rka := rka.step b1
      have rva := rva.step b1
      have rkb := rkb.step b1
      have rvb := rvb.step b1
      clear b1 hHeld
      have hHeld := And.intro (box12 ka) (box12 kb)
      refine hK.out _ _ (fun _ => hHeld) ?_
      clear hK KK
      try simp only [Act.put, List.setIfInBounds_toArray, List.set_cons_zero, List.set_cons_succ]
      refine oneT (i := 11) rfl (by kernel_rfl) (fun KK hK => ?_)
      go_simp
      refine (HSS.out Y3 Kc ckc Vc cvc rka rva oKc.rd oVc.rd).mono ?_
      rintro e Y4 ⟨rfl, b1⟩
      have ka := ka.step b1
      have kb := kb.step b1
      have b := below_step b b1
      clear b1 hHeld
      have hHeld := And.intro (box12 ka) (box12 kb)
      refine hK.out _ _ (fun _ => hHeld) ?_
      clear hK KK
      try simp only [Act.put, List.setIfInBounds_toArray, List.set_cons_zero, List.set_cons_succ]
      refine takeT (i := 12) (v := ?_) rfl (by kernel_rfl) (by kernel_rfl) (by decide) (by kernel_rfl) (by kernel_rfl) (fun _ _ _ h => h) (Or.inl ⟨by rfl, ?_⟩) hHeld ?_
      rotate_left
      · (intro wx hSw; obtain ⟨⟨a0, a1, a2, a3, a4, a5, a6, a7, a8, a9, a10, a11⟩, c0, c1, c2, c3, c4, c5, c6, c7, c8, c9, c10, c11⟩ := hSw; go_simp; try (with_reducible rfl))
      try simp only [Act.put, List.setIfInBounds_toArray, List.set_cons_zero, List.set_cons_succ]
      refine oneT (i := 13) rfl (by kernel_rfl) (fun KK hK => ?_)
      go_simp
      refine hK.out _ _ (fun _ => hHeld) ?_
      clear hK KK
      try simp only [Act.put, List.setIfInBounds_toArray, List.set_cons_zero, List.set_cons_succ]
      refine doneT (by kernel_rfl) ?_ _
      refine NoPanic.normal ?_
      go_wp2_with fail
      go_meet
      exact ⟨rfl, b⟩
    case rest =>
      obtain ⟨rfl, b⟩ := hcut
      go_wp2_with fail
      go_ret
      exact ⟨rfl, b⟩

end Go.Proofs.Ytnghmgbmflcngaa

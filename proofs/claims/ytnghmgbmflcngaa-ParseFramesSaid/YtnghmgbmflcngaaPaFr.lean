/- ParseFrames: which frame says a request, by which code. Conditions: none. -/
import Derived.Test.YtnghmgbmflcngaaRfj
import Derived.Test.YtnghmgbmflcngaaQcop
import Derived.Test.YtnghmgbmflcngaaQfew
import Derived.Test.YtnghmgbmflcngaaWk20
import Derived.Test.YtnghmgbmflcngaaPrs
import Derived.Test.YtnghmgbmflcngaaClo
import Derived.Test.YtnghmgbmflcngaaOpen
namespace Go.Proofs.Ytnghmgbmflcngaa
set_option linter.unusedVariables false
open Go.ChangeShapes Go.WideShapes Go.ChangeAt Go.RowKit

/-- Bytes stay where a request's box turns: each of its cells holds no byte. -/
theorem rd_boxF {w w' : World} {B n c g : Nat} {A : Option Addr} {l : List UInt8} {cs : Array Value} {T : TypeId} (r : Rd w B A n c l) (kb : Blk w g cs T) (h0 : ∀ (j : Nat) (v : Value), cs[j]? = some v → ∀ x, v ≠ cb x) (hg : w.grownBy w' (some g)) (hB : B ≤ w.heap.size) : Rd w' B A n c l := by
  obtain ⟨a1, a2, a3, a4, a5, a6⟩ := r
  refine ⟨a1, a2, a3, a4, a5, fun ad j v hA hu => ?_⟩
  have hc := a6 ad j v hA hu
  have hj : 0 < n := by have := (List.getElem?_eq_some_iff.1 hu).1; omega
  have hlt := a5 ad hA hj
  by_cases e : (ad.add j).block = g
  · exfalso
    rw [cbs_get?] at hu
    obtain ⟨x, hx, rfl⟩ := Option.map_eq_some_iff.1 hu
    have hb : w.heap[(ad.add j).block]? = some (.cells cs T (0, 0)) := by rw [e]; exact kb
    unfold World.cell? at hc
    rw [hb] at hc
    simp only at hc
    split at hc
    · cases hc
    · exact h0 _ _ hc x rfl
  · rw [World.cell?_of_block (hg.block _ (by rw [block_add]; omega) (fun h => e (by injection h)))]
    exact hc
theorem req_nobF {c0 c1 c2 c3 c4 c5 c6 c7 c8 c9 c10 c11 : Value} (h : ∀ x, c0 ≠ cb x ∧ c1 ≠ cb x ∧ c2 ≠ cb x ∧ c3 ≠ cb x ∧ c4 ≠ cb x ∧ c5 ≠ cb x ∧ c6 ≠ cb x ∧ c7 ≠ cb x ∧ c8 ≠ cb x ∧ c9 ≠ cb x ∧ c10 ≠ cb x ∧ c11 ≠ cb x) : ∀ (j : Nat) (v : Value), (#[c0, c1, c2, c3, c4, c5, c6, c7, c8, c9, c10, c11] : Array Value)[j]? = some v → ∀ x, v ≠ cb x := by
  intro j v hv x
  obtain ⟨h0, h1, h2, h3, h4, h5, h6, h7, h8, h9, h10, h11⟩ := h x
  match j, hv with
  | 0, hv => simp at hv; subst hv; exact h0
  | 1, hv => simp at hv; subst hv; exact h1
  | 2, hv => simp at hv; subst hv; exact h2
  | 3, hv => simp at hv; subst hv; exact h3
  | 4, hv => simp at hv; subst hv; exact h4
  | 5, hv => simp at hv; subst hv; exact h5
  | 6, hv => simp at hv; subst hv; exact h6
  | 7, hv => simp at hv; subst hv; exact h7
  | 8, hv => simp at hv; subst hv; exact h8
  | 9, hv => simp at hv; subst hv; exact h9
  | 10, hv => simp at hv; subst hv; exact h10
  | 11, hv => simp at hv; subst hv; exact h11
  | k + 12, hv => simp at hv
theorem rd_reqF {w w' : World} {B n c g : Nat} {A : Option Addr} {l : List UInt8} {T : TypeId} {op bd oq fl ex cs dl ni : Int} {qt fu : Bool} {KA VA : Option Addr} {nk ck nv cv : Nat} (r : Rd w B A n c l) (kb : Blk w g #[.int .i64 op, .bool qt, .bool fu, .int .i64 bd, .int .u32 oq, .slice KA nk ck, .slice VA nv cv, .int .u32 fl, .int .u32 ex, .int .u64 cs, .int .u64 dl, .int .u64 ni] T) (hg : w.grownBy w' (some g)) (hB : B ≤ w.heap.size) : Rd w' B A n c l :=
  rd_boxF r kb (req_nobF fun x => by unfold cb; refine ⟨(by intro h; cases h), (by intro h; cases h), (by intro h; cases h), (by intro h; cases h), (by intro h; cases h), (by intro h; cases h), (by intro h; cases h), (by intro h; cases h), (by intro h; cases h), (by intro h; cases h), (by intro h; cases h), (by intro h; cases h)⟩) hg hB
theorem Wr.stepF {w w' : World} {B U n : Nat} {A : Option Addr} (h : Wr w B U A n) (b : Below w.heap.size w w') : Wr w' B U A n := by
  rcases h with h | ⟨g, cs, hA, hB, hU, hh, hn⟩
  · exact Or.inl h
  · exact Or.inr ⟨g, cs, hA, hB, hU, (b.block g (Array.getElem?_eq_some_iff.1 hh).1).trans hh, hn⟩
/-- What the calls of ParseFrames give. -/
def PfFew (q : RQ) (mk mv : Nat) (w : World) (e : Ending) (w' : World) : Prop := ∃ K2 ck2 V2 cv2, e = .returned (.agg #[.int .i64 q.op, .bool q.qt, .bool q.fu, .int .i64 q.bd, .int .u32 (q.oq : Nat), .slice K2 mk ck2, .slice V2 mv cv2, .int .u32 (q.fl : Nat), .int .u32 (q.ex : Nat), .int .u64 (q.cs : Nat), .int .u64 (q.dl : Nat), .int .u64 (q.ni : Nat)]) ∧ Rd w' w.heap.size K2 mk ck2 q.lk ∧ Rd w' w.heap.size V2 mv cv2 q.lv ∧ Below w.heap.size w w'
def PfCop (q : RQ) (mk mv : Nat) (w : World) (e : Ending) (w' : World) : Prop := ∃ K3 ck3 V3 cv3, e = .returned (.agg #[.int .i64 q.op, .bool q.qt, .bool q.fu, .int .i64 q.bd, .int .u32 (q.oq : Nat), .slice K3 mk ck3, .slice V3 mv cv3, .int .u32 (q.fl : Nat), .int .u32 (q.ex : Nat), .int .u64 (q.cs : Nat), .int .u64 (q.dl : Nat), .int .u64 (q.ni : Nat)]) ∧ Own w' w.heap.size K3 mk ck3 q.lk ∧ Own w' w.heap.size V3 mv cv3 q.lv ∧ Below w.heap.size w w'
def PfFrO (q : RQ) (c nx bl mk mv : Nat) (lx : List UInt8) (w : World) (e : Ending) (w' : World) : Prop := ∃ X4 cx4 K4 ck4 V4 cv4, e = .returned (.tuple #[.agg #[.int .u8 128, .int .u8 (c : Nat), .int .u16 (mk : Nat), .int .u8 (nx : Nat), .int .u8 0, .int .u16 0, .int .u32 (bl : Nat), .int .u32 (q.oq : Nat), .int .u64 (q.cs : Nat), .slice X4 nx cx4, .slice K4 mk ck4, .slice V4 mv cv4], .int .i64 0]) ∧ Own w' w.heap.size X4 nx cx4 lx ∧ Own w' w.heap.size K4 mk ck4 q.lk ∧ Own w' w.heap.size V4 mv cv4 q.lv ∧ Below w.heap.size w w'
def PfRfO (q : RQ) (c nx bl mk mv : Nat) (lx : List UInt8) (w : World) (e : Ending) (w' : World) : Prop := ∃ X5 cx5 K5 ck5 V5 cv5, e = .returned (.tuple #[.agg #[.int .u8 128, .int .u8 (c : Nat), .int .u16 (mk : Nat), .int .u8 (nx : Nat), .int .u8 0, .int .u16 0, .int .u32 (bl : Nat), .int .u32 (q.oq : Nat), .int .u64 (q.cs : Nat), .slice X5 nx cx5, .slice K5 mk ck5, .slice V5 mv cv5], .bool true]) ∧ Rd w' w'.heap.size X5 nx cx5 lx ∧ Rd w' w'.heap.size K5 mk ck5 q.lk ∧ Rd w' w'.heap.size V5 mv cv5 q.lv ∧ Below w.heap.size w w'
set_option maxRecDepth 100000 in
set_option maxHeartbeats 8000000 in
theorem pframes_no (q : RQ) (K : Option Addr) (nk ck : Nat) (V : Option Addr) (nv cv mk mv cN : Nat) (cB : Bool) (w : World)
    (HFEW : Hid (∀ W, Below w.heap.size w W → Calls Try.prog 40 #[.agg #[.int .i64 q.op, .bool q.qt, .bool q.fu, .int .i64 q.bd, .int .u32 (q.oq : Nat), .slice K nk ck, .slice V nv cv, .int .u32 (q.fl : Nat), .int .u32 (q.ex : Nat), .int .u64 (q.cs : Nat), .int .u64 (q.dl : Nat), .int .u64 (q.ni : Nat)]] W (PfFew q mk mv W)))
    (HCOP : Hid (∀ W A ca Z cz, Rd W W.heap.size A mk ca q.lk → Rd W W.heap.size Z mv cz q.lv → Calls Try.prog 41 #[.agg #[.int .i64 q.op, .bool q.qt, .bool q.fu, .int .i64 q.bd, .int .u32 (q.oq : Nat), .slice A mk ca, .slice Z mv cz, .int .u32 (q.fl : Nat), .int .u32 (q.ex : Nat), .int .u64 (q.cs : Nat), .int .u64 (q.dl : Nat), .int .u64 (q.ni : Nat)]] W (PfCop q mk mv W)))
    (HCD : Hid (∀ W A ca Z cz, Calls Try.prog 43 #[.agg #[.int .i64 q.op, .bool q.qt, .bool q.fu, .int .i64 q.bd, .int .u32 (q.oq : Nat), .slice A mk ca, .slice Z mv cz, .int .u32 (q.fl : Nat), .int .u32 (q.ex : Nat), .int .u64 (q.cs : Nat), .int .u64 (q.dl : Nat), .int .u64 (q.ni : Nat)]] W fun e w' => e = .returned (.tuple #[.int .i64 (cN : Nat), .bool cB]) ∧ Below W.heap.size W w'))
    (HRC : Hid (∀ W A ca Z cz, Calls Try.prog 44 #[.agg #[.int .i64 q.op, .bool q.qt, .bool q.fu, .int .i64 q.bd, .int .u32 (q.oq : Nat), .slice A mk ca, .slice Z mv cz, .int .u32 (q.fl : Nat), .int .u32 (q.ex : Nat), .int .u64 (q.cs : Nat), .int .u64 (q.dl : Nat), .int .u64 (q.ni : Nat)]] W fun e w' => e = .returned (.tuple #[.int .i64 (cN : Nat), .bool cB]) ∧ Below W.heap.size W w'))
    (HSM : Hid (∀ W A ca Z cz A' ca' Z' cz', Rd W W.heap.size A mk ca q.lk → Rd W W.heap.size Z mv cz q.lv → Rd W W.heap.size A' mk ca' q.lk → Rd W W.heap.size Z' mv cz' q.lv → Calls Try.prog 45 #[.agg #[.int .i64 q.op, .bool q.qt, .bool q.fu, .int .i64 q.bd, .int .u32 (q.oq : Nat), .slice A mk ca, .slice Z mv cz, .int .u32 (q.fl : Nat), .int .u32 (q.ex : Nat), .int .u64 (q.cs : Nat), .int .u64 (q.dl : Nat), .int .u64 (q.ni : Nat)], .agg #[.int .i64 q.op, .bool q.qt, .bool q.fu, .int .i64 q.bd, .int .u32 (q.oq : Nat), .slice A' mk ca', .slice Z' mv cz', .int .u32 (q.fl : Nat), .int .u32 (q.ex : Nat), .int .u64 (q.cs : Nat), .int .u64 (q.dl : Nat), .int .u64 (q.ni : Nat)]] W (PSame true W)))
    (hmk : mk ≤ 600 ∧ mv ≤ 3000)
    (HFR : Hid (∀ W A ca Z cz, Rd W W.heap.size A mk ca q.lk → Rd W W.heap.size Z mv cz q.lv → Calls Try.prog 42 #[.agg #[.int .i64 q.op, .bool q.qt, .bool q.fu, .int .i64 q.bd, .int .u32 (q.oq : Nat), .slice A mk ca, .slice Z mv cz, .int .u32 (q.fl : Nat), .int .u32 (q.ex : Nat), .int .u64 (q.cs : Nat), .int .u64 (q.dl : Nat), .int .u64 (q.ni : Nat)]] W fun e w' => e = .returned (.tuple #[.agg #[.int .u8 0, .int .u8 0, .int .u16 0, .int .u8 0, .int .u8 0, .int .u16 0, .int .u32 0, .int .u32 0, .int .u64 0, .slice none 0 0, .slice none 0 0, .slice none 0 0], .int .i64 2]) ∧ Below W.heap.size W w'))
    (HRF : Hid (∀ W A ca Z cz, Rd W W.heap.size A mk ca q.lk → Rd W W.heap.size Z mv cz q.lv → Calls Try.prog 46 #[.agg #[.int .i64 q.op, .bool q.qt, .bool q.fu, .int .i64 q.bd, .int .u32 (q.oq : Nat), .slice A mk ca, .slice Z mv cz, .int .u32 (q.fl : Nat), .int .u32 (q.ex : Nat), .int .u64 (q.cs : Nat), .int .u64 (q.dl : Nat), .int .u64 (q.ni : Nat)]] W fun e w' => e = .returned (.tuple #[.agg #[.int .u8 0, .int .u8 0, .int .u16 0, .int .u8 0, .int .u8 0, .int .u16 0, .int .u32 0, .int .u32 0, .int .u64 0, .slice none 0 0, .slice none 0 0, .slice none 0 0], .bool false]) ∧ Below W.heap.size W w'))
    (HFS : Hid (∀ W, Calls Try.prog 47 #[.agg #[.int .u8 0, .int .u8 0, .int .u16 0, .int .u8 0, .int .u8 0, .int .u16 0, .int .u32 0, .int .u32 0, .int .u64 0, .slice none 0 0, .slice none 0 0, .slice none 0 0], .agg #[.int .u8 0, .int .u8 0, .int .u16 0, .int .u8 0, .int .u8 0, .int .u16 0, .int .u32 0, .int .u32 0, .int .u64 0, .slice none 0 0, .slice none 0 0, .slice none 0 0]] W (BoxQ (.bool true) W))) :
    Calls Try.prog 6 #[.agg #[.int .i64 q.op, .bool q.qt, .bool q.fu, .int .i64 q.bd, .int .u32 (q.oq : Nat), .slice K nk ck, .slice V nv cv, .int .u32 (q.fl : Nat), .int .u32 (q.ex : Nat), .int .u64 (q.cs : Nat), .int .u64 (q.dl : Nat), .int .u64 (q.ni : Nat)]] w fun e w' => e = .returned (.bool true) ∧ Below w.heap.size w w' := by
  have HM := Lib.hid hmk
  clear hmk
  have k1 := Blk.new w #[.int .i64 q.op, .bool q.qt, .bool q.fu, .int .i64 q.bd, .int .u32 (q.oq : Nat), .slice K nk ck, .slice V nv cv, .int .u32 (q.fl : Nat), .int .u32 (q.ex : Nat), .int .u64 (q.cs : Nat), .int .u64 (q.dl : Nat), .int .u64 (q.ni : Nat)] 26
  have b : Below w.heap.size w (w.alloc (.cells #[.int .i64 q.op, .bool q.qt, .bool q.fu, .int .i64 q.bd, .int .u32 (q.oq : Nat), .slice K nk ck, .slice V nv cv, .int .u32 (q.fl : Nat), .int .u32 (q.ex : Nat), .int .u64 (q.cs : Nat), .int .u64 (q.dl : Nat), .int .u64 (q.ni : Nat)] 26)) := below_a1' (Below.refl _ _) _
  go_enter Try.func6, Try.ntmps6
  go_upto_region 1 with fail
  generalize w.alloc (.cells #[.int .i64 q.op, .bool q.qt, .bool q.fu, .int .i64 q.bd, .int .u32 (q.oq : Nat), .slice K nk ck, .slice V nv cv, .int .u32 (q.fl : Nat), .int .u32 (q.ex : Nat), .int .u64 (q.cs : Nat), .int .u64 (q.dl : Nat), .int .u64 (q.ni : Nat)] 26) = W0 at k1 b ⊢
  go_wp2_with fail
  refine (wakes20 W0).mono ?_
  rintro e w1 ⟨rfl, b1⟩
  replace k1 := k1.step b1
  replace b := below_step b b1
  clear b1
  obtain ⟨a0, a1, a2, a3, a4, a5, a6, a7, a8, a9, a10, a11⟩ := box12 k1
  go_wp2_with fail
  refine (HFEW.out _ b).mono ?_
  rintro e w2 ⟨K2, ck2, V2, cv2, rfl, rK, rV, b1⟩
  replace k1 := k1.step b1
  have b2z := b1.size
  replace rK : Rd w2 w2.heap.size K2 mk ck2 q.lk := rK.more b1.size
  replace rV : Rd w2 w2.heap.size V2 mv cv2 q.lv := rV.more b1.size
  replace b := below_step b b1
  clear b1 a0 a1 a2 a3 a4 a5 a6 a7 a8 a9 a10 a11
  obtain ⟨z0, z1, z2, z3, z4, z5, z6, z7, z8, z9, z10, z11⟩ := box12 k1
  have y0 := k1.frozen 0
  have y1 := k1.frozen 1
  have y2 := k1.frozen 2
  have y3 := k1.frozen 3
  have y4 := k1.frozen 4
  have y5 := k1.frozen 5
  have y6 := k1.frozen 6
  have y7 := k1.frozen 7
  have y8 := k1.frozen 8
  have y9 := k1.frozen 9
  have y10 := k1.frozen 10
  have y11 := k1.frozen 11
  have kf := blk_set12 k1 (.int .i64 q.op) (.bool q.qt) (.bool q.fu) (.int .i64 q.bd) (.int .u32 (q.oq : Nat)) (.slice K2 mk ck2) (.slice V2 mv cv2) (.int .u32 (q.fl : Nat)) (.int .u32 (q.ex : Nat)) (.int .u64 (q.cs : Nat)) (.int .u64 (q.dl : Nat)) (.int .u64 (q.ni : Nat))
  have hg := grown_set12 w2 w.heap.size (.int .i64 q.op) (.bool q.qt) (.bool q.fu) (.int .i64 q.bd) (.int .u32 (q.oq : Nat)) (.slice K2 mk ck2) (.slice V2 mv cv2) (.int .u32 (q.fl : Nat)) (.int .u32 (q.ex : Nat)) (.int .u64 (q.cs : Nat)) (.int .u64 (q.dl : Nat)) (.int .u64 (q.ni : Nat))
  have bff := b.trans (below_grown hg (Nat.le_refl _) k1.lt)
  replace rK := rd_reqF rK k1 hg (Nat.le_refl _)
  replace rV := rd_reqF rV k1 hg (Nat.le_refl _)
  have hz3 := hg.size
  clear b hg k1
  go_upto_region 4 with fail
  clear z0 z1 z2 z3 z4 z5 z6 z7 z8 z9 z10 z11 y0 y1 y2 y3 y4 y5 y6 y7 y8 y9 y10 y11
  generalize (((((((((((w2.setCell ⟨w.heap.size, 0, none⟩ (.int .i64 q.op)).setCell ⟨w.heap.size, 1, none⟩ (.bool q.qt)).setCell ⟨w.heap.size, 2, none⟩ (.bool q.fu)).setCell ⟨w.heap.size, 3, none⟩ (.int .i64 q.bd)).setCell ⟨w.heap.size, 4, none⟩ (.int .u32 (q.oq : Nat))).setCell ⟨w.heap.size, 5, none⟩ (.slice K2 mk ck2)).setCell ⟨w.heap.size, 6, none⟩ (.slice V2 mv cv2)).setCell ⟨w.heap.size, 7, none⟩ (.int .u32 (q.fl : Nat))).setCell ⟨w.heap.size, 8, none⟩ (.int .u32 (q.ex : Nat))).setCell ⟨w.heap.size, 9, none⟩ (.int .u64 (q.cs : Nat))).setCell ⟨w.heap.size, 10, none⟩ (.int .u64 (q.dl : Nat))).setCell ⟨w.heap.size, 11, none⟩ (.int .u64 (q.ni : Nat)) = W3 at kf bff rK rV hz3 ⊢
  have k1 := kf
  have b := bff
  clear kf bff
  have rK2 : Rd W3 W3.heap.size K2 mk ck2 q.lk := rK.more hz3
  have rV2 : Rd W3 W3.heap.size V2 mv cv2 q.lv := rV.more hz3
  clear rK rV
  obtain ⟨a0, a1, a2, a3, a4, a5, a6, a7, a8, a9, a10, a11⟩ := box12 k1
  go_wp2_with fail
  refine (HCOP.out _ _ _ _ _ rK2 rV2).mono ?_
  rintro e w4 ⟨K3, ck3, V3, cv3, rfl, o3, p3, b1⟩
  replace k1 := k1.step b1
  replace rK2 := rK2.step b1
  replace rV2 := rV2.step b1
  replace b := below_step b b1
  have rK3 := o3.rd
  have rV3 := p3.rd
  clear b1 o3 p3 a0 a1 a2 a3 a4 a5 a6 a7 a8 a9 a10 a11
  go_upto_region 5 with fail
  have k3 := Blk.new w4 #[.int .i64 q.op, .bool q.qt, .bool q.fu, .int .i64 q.bd, .int .u32 (q.oq : Nat), .slice K3 mk ck3, .slice V3 mv cv3, .int .u32 (q.fl : Nat), .int .u32 (q.ex : Nat), .int .u64 (q.cs : Nat), .int .u64 (q.dl : Nat), .int .u64 (q.ni : Nat)] 26
  have ba := below_a1' (Below.refl w4.heap.size w4) (.cells #[.int .i64 q.op, .bool q.qt, .bool q.fu, .int .i64 q.bd, .int .u32 (q.oq : Nat), .slice K3 mk ck3, .slice V3 mv cv3, .int .u32 (q.fl : Nat), .int .u32 (q.ex : Nat), .int .u64 (q.cs : Nat), .int .u64 (q.dl : Nat), .int .u64 (q.ni : Nat)] 26)
  replace k1 := k1.step ba
  replace rK2 := rK2.step ba
  replace rV2 := rV2.step ba
  replace rK3 := rK3.step ba
  replace rV3 := rV3.step ba
  replace b := below_step b ba
  clear ba
  generalize w4.alloc (.cells #[.int .i64 q.op, .bool q.qt, .bool q.fu, .int .i64 q.bd, .int .u32 (q.oq : Nat), .slice K3 mk ck3, .slice V3 mv cv3, .int .u32 (q.fl : Nat), .int .u32 (q.ex : Nat), .int .u64 (q.cs : Nat), .int .u64 (q.dl : Nat), .int .u64 (q.ni : Nat)] 26) = W4 at k3 b k1 rK2 rV2 rK3 rV3 ⊢
  generalize w4.heap.size = g3 at k3 ⊢
  obtain ⟨a0, a1, a2, a3, a4, a5, a6, a7, a8, a9, a10, a11⟩ := box12 k3
  go_wp2_with fail
  refine (HFR.out _ _ _ _ _ rK3 rV3).mono ?_
  rintro e w5 ⟨rfl, b1⟩
  replace k1 := k1.step b1
  replace rK2 := rK2.step b1
  replace rV2 := rV2.step b1
  replace rK3 := rK3.step b1
  replace rV3 := rV3.step b1
  replace k3 := k3.step b1
  replace b := below_step b b1
  clear b1 a0 a1 a2 a3 a4 a5 a6 a7 a8 a9 a10 a11
  go_upto_region 6 with fail
  have k4 := Blk.new w5 #[.int .u8 0, .int .u8 0, .int .u16 0, .int .u8 0, .int .u8 0, .int .u16 0, .int .u32 0, .int .u32 0, .int .u64 0, .slice none 0 0, .slice none 0 0, .slice none 0 0] 61
  have ba := below_a1' (Below.refl w5.heap.size w5) (.cells #[.int .u8 0, .int .u8 0, .int .u16 0, .int .u8 0, .int .u8 0, .int .u16 0, .int .u32 0, .int .u32 0, .int .u64 0, .slice none 0 0, .slice none 0 0, .slice none 0 0] 61)
  replace k1 := k1.step ba
  replace rK2 := rK2.step ba
  replace rV2 := rV2.step ba
  replace rK3 := rK3.step ba
  replace rV3 := rV3.step ba
  replace k3 := k3.step ba
  replace b := below_step b ba
  clear ba
  generalize w5.alloc (.cells #[.int .u8 0, .int .u8 0, .int .u16 0, .int .u8 0, .int .u8 0, .int .u16 0, .int .u32 0, .int .u32 0, .int .u64 0, .slice none 0 0, .slice none 0 0, .slice none 0 0] 61) = W5 at k4 b k1 rK2 rV2 rK3 rV3 k3 ⊢
  generalize w5.heap.size = g4 at k4 ⊢
  obtain ⟨a0, a1, a2, a3, a4, a5, a6, a7, a8, a9, a10, a11⟩ := box12 k3
  go_wp2_with fail
  refine (HCD.out _ _ _ _ _).mono ?_
  rintro e w6 ⟨rfl, b1⟩
  replace k1 := k1.step b1
  replace rK2 := rK2.step b1
  replace rV2 := rV2.step b1
  replace rK3 := rK3.step b1
  replace rV3 := rV3.step b1
  replace k3 := k3.step b1
  replace k4 := k4.step b1
  replace b := below_step b b1
  clear b1
  clear a0 a1 a2 a3 a4 a5 a6 a7 a8 a9 a10 a11
  obtain ⟨a0, a1, a2, a3, a4, a5, a6, a7, a8, a9, a10, a11⟩ := box12 k1
  go_wp2_with fail
  refine (HRC.out _ _ _ _ _).mono ?_
  rintro e w7 ⟨rfl, b1⟩
  replace k1 := k1.step b1
  replace rK2 := rK2.step b1
  replace rV2 := rV2.step b1
  replace rK3 := rK3.step b1
  replace rV3 := rV3.step b1
  replace k3 := k3.step b1
  replace k4 := k4.step b1
  replace b := below_step b b1
  clear b1
  clear a0 a1 a2 a3 a4 a5 a6 a7 a8 a9 a10 a11
  obtain ⟨a0, a1, a2, a3, a4, a5, a6, a7, a8, a9, a10, a11⟩ := box12 k1
  obtain ⟨d0, d1, d2, d3, d4, d5, d6, d7, d8, d9, d10, d11⟩ := box12 k3
  go_wp2_with fail
  refine (HSM.out _ _ _ _ _ _ _ _ _ rK3 rV3 rK2 rV2).mono ?_
  rintro e w8 ⟨rfl, b1⟩
  replace k1 := k1.step b1
  replace rK2 := rK2.step b1
  replace rV2 := rV2.step b1
  replace rK3 := rK3.step b1
  replace rV3 := rV3.step b1
  replace k3 := k3.step b1
  replace k4 := k4.step b1
  replace b := below_step b b1
  clear b1
  clear a0 a1 a2 a3 a4 a5 a6 a7 a8 a9 a10 a11 d0 d1 d2 d3 d4 d5 d6 d7 d8 d9 d10 d11
  obtain ⟨a0, a1, a2, a3, a4, a5, a6, a7, a8, a9, a10, a11⟩ := box12 k1
  go_wp2_with fail
  refine (HRF.out _ _ _ _ _ rK2 rV2).mono ?_
  rintro e w9 ⟨rfl, b1⟩
  replace k1 := k1.step b1
  replace rK2 := rK2.step b1
  replace rV2 := rV2.step b1
  replace rK3 := rK3.step b1
  replace rV3 := rV3.step b1
  replace k3 := k3.step b1
  replace k4 := k4.step b1
  replace b := below_step b b1
  clear b1
  clear a0 a1 a2 a3 a4 a5 a6 a7 a8 a9 a10 a11
  go_upto_region 11 with fail
  have k5 := Blk.new w9 #[.int .u8 0, .int .u8 0, .int .u16 0, .int .u8 0, .int .u8 0, .int .u16 0, .int .u32 0, .int .u32 0, .int .u64 0, .slice none 0 0, .slice none 0 0, .slice none 0 0] 61
  have ba := below_a1' (Below.refl w9.heap.size w9) (.cells #[.int .u8 0, .int .u8 0, .int .u16 0, .int .u8 0, .int .u8 0, .int .u16 0, .int .u32 0, .int .u32 0, .int .u64 0, .slice none 0 0, .slice none 0 0, .slice none 0 0] 61)
  replace k1 := k1.step ba
  replace rK2 := rK2.step ba
  replace rV2 := rV2.step ba
  replace rK3 := rK3.step ba
  replace rV3 := rV3.step ba
  replace k3 := k3.step ba
  replace k4 := k4.step ba
  replace b := below_step b ba
  clear ba
  generalize w9.alloc (.cells #[.int .u8 0, .int .u8 0, .int .u16 0, .int .u8 0, .int .u8 0, .int .u16 0, .int .u32 0, .int .u32 0, .int .u64 0, .slice none 0 0, .slice none 0 0, .slice none 0 0] 61) = W9 at k5 b k1 rK2 rV2 rK3 rV3 k3 k4 ⊢
  generalize w9.heap.size = g5 at k5 ⊢
  obtain ⟨a0, a1, a2, a3, a4, a5, a6, a7, a8, a9, a10, a11⟩ := box12 k4
  go_wp2_with fail
  refine (HFS.out _).mono ?_
  rintro e w10 ⟨rfl, b1⟩
  replace b := below_step b b1
  clear b1
  go_wp2_with fail
  go_ret
  exact ⟨rfl, b⟩
set_option maxRecDepth 100000 in
set_option maxHeartbeats 8000000 in
theorem pframes_yes (q : RQ) (K : Option Addr) (nk ck : Nat) (V : Option Addr) (nv cv mk mv cN : Nat) (cB : Bool) (w : World)
    (HFEW : Hid (∀ W, Below w.heap.size w W → Calls Try.prog 40 #[.agg #[.int .i64 q.op, .bool q.qt, .bool q.fu, .int .i64 q.bd, .int .u32 (q.oq : Nat), .slice K nk ck, .slice V nv cv, .int .u32 (q.fl : Nat), .int .u32 (q.ex : Nat), .int .u64 (q.cs : Nat), .int .u64 (q.dl : Nat), .int .u64 (q.ni : Nat)]] W (PfFew q mk mv W)))
    (HCOP : Hid (∀ W A ca Z cz, Rd W W.heap.size A mk ca q.lk → Rd W W.heap.size Z mv cz q.lv → Calls Try.prog 41 #[.agg #[.int .i64 q.op, .bool q.qt, .bool q.fu, .int .i64 q.bd, .int .u32 (q.oq : Nat), .slice A mk ca, .slice Z mv cz, .int .u32 (q.fl : Nat), .int .u32 (q.ex : Nat), .int .u64 (q.cs : Nat), .int .u64 (q.dl : Nat), .int .u64 (q.ni : Nat)]] W (PfCop q mk mv W)))
    (HCD : Hid (∀ W A ca Z cz, Calls Try.prog 43 #[.agg #[.int .i64 q.op, .bool q.qt, .bool q.fu, .int .i64 q.bd, .int .u32 (q.oq : Nat), .slice A mk ca, .slice Z mv cz, .int .u32 (q.fl : Nat), .int .u32 (q.ex : Nat), .int .u64 (q.cs : Nat), .int .u64 (q.dl : Nat), .int .u64 (q.ni : Nat)]] W fun e w' => e = .returned (.tuple #[.int .i64 (cN : Nat), .bool cB]) ∧ Below W.heap.size W w'))
    (HRC : Hid (∀ W A ca Z cz, Calls Try.prog 44 #[.agg #[.int .i64 q.op, .bool q.qt, .bool q.fu, .int .i64 q.bd, .int .u32 (q.oq : Nat), .slice A mk ca, .slice Z mv cz, .int .u32 (q.fl : Nat), .int .u32 (q.ex : Nat), .int .u64 (q.cs : Nat), .int .u64 (q.dl : Nat), .int .u64 (q.ni : Nat)]] W fun e w' => e = .returned (.tuple #[.int .i64 (cN : Nat), .bool cB]) ∧ Below W.heap.size W w'))
    (HSM : Hid (∀ W A ca Z cz A' ca' Z' cz', Rd W W.heap.size A mk ca q.lk → Rd W W.heap.size Z mv cz q.lv → Rd W W.heap.size A' mk ca' q.lk → Rd W W.heap.size Z' mv cz' q.lv → Calls Try.prog 45 #[.agg #[.int .i64 q.op, .bool q.qt, .bool q.fu, .int .i64 q.bd, .int .u32 (q.oq : Nat), .slice A mk ca, .slice Z mv cz, .int .u32 (q.fl : Nat), .int .u32 (q.ex : Nat), .int .u64 (q.cs : Nat), .int .u64 (q.dl : Nat), .int .u64 (q.ni : Nat)], .agg #[.int .i64 q.op, .bool q.qt, .bool q.fu, .int .i64 q.bd, .int .u32 (q.oq : Nat), .slice A' mk ca', .slice Z' mv cz', .int .u32 (q.fl : Nat), .int .u32 (q.ex : Nat), .int .u64 (q.cs : Nat), .int .u64 (q.dl : Nat), .int .u64 (q.ni : Nat)]] W (PSame true W)))
    (hmk : mk ≤ 600 ∧ mv ≤ 3000)
    (c nx bl : Nat) (lx : List UInt8) (HFR : Hid (∀ W A ca Z cz, Rd W W.heap.size A mk ca q.lk → Rd W W.heap.size Z mv cz q.lv → Calls Try.prog 42 #[.agg #[.int .i64 q.op, .bool q.qt, .bool q.fu, .int .i64 q.bd, .int .u32 (q.oq : Nat), .slice A mk ca, .slice Z mv cz, .int .u32 (q.fl : Nat), .int .u32 (q.ex : Nat), .int .u64 (q.cs : Nat), .int .u64 (q.dl : Nat), .int .u64 (q.ni : Nat)]] W (PfFrO q c nx bl mk mv lx W)))
    (HRF : Hid (∀ W A ca Z cz, Rd W W.heap.size A mk ca q.lk → Rd W W.heap.size Z mv cz q.lv → Calls Try.prog 46 #[.agg #[.int .i64 q.op, .bool q.qt, .bool q.fu, .int .i64 q.bd, .int .u32 (q.oq : Nat), .slice A mk ca, .slice Z mv cz, .int .u32 (q.fl : Nat), .int .u32 (q.ex : Nat), .int .u64 (q.cs : Nat), .int .u64 (q.dl : Nat), .int .u64 (q.ni : Nat)]] W (PfRfO q c nx bl mk mv lx W)))
    (HFS : Hid (∀ W X4 cx4 K4 ck4 V4 cv4 X5 cx5 K5 ck5 V5 cv5, Rd W W.heap.size X4 nx cx4 lx → Rd W W.heap.size K4 mk ck4 q.lk → Rd W W.heap.size V4 mv cv4 q.lv → Rd W W.heap.size X5 nx cx5 lx → Rd W W.heap.size K5 mk ck5 q.lk → Rd W W.heap.size V5 mv cv5 q.lv → Calls Try.prog 47 #[.agg #[.int .u8 128, .int .u8 (c : Nat), .int .u16 (mk : Nat), .int .u8 (nx : Nat), .int .u8 0, .int .u16 0, .int .u32 (bl : Nat), .int .u32 (q.oq : Nat), .int .u64 (q.cs : Nat), .slice X4 nx cx4, .slice K4 mk ck4, .slice V4 mv cv4], .agg #[.int .u8 128, .int .u8 (c : Nat), .int .u16 (mk : Nat), .int .u8 (nx : Nat), .int .u8 0, .int .u16 0, .int .u32 (bl : Nat), .int .u32 (q.oq : Nat), .int .u64 (q.cs : Nat), .slice X5 nx cx5, .slice K5 mk ck5, .slice V5 mv cv5]] W (BoxQ (.bool true) W))) :
    Calls Try.prog 6 #[.agg #[.int .i64 q.op, .bool q.qt, .bool q.fu, .int .i64 q.bd, .int .u32 (q.oq : Nat), .slice K nk ck, .slice V nv cv, .int .u32 (q.fl : Nat), .int .u32 (q.ex : Nat), .int .u64 (q.cs : Nat), .int .u64 (q.dl : Nat), .int .u64 (q.ni : Nat)]] w fun e w' => e = .returned (.bool true) ∧ Below w.heap.size w w' := by
  have HM := Lib.hid hmk
  clear hmk
  have k1 := Blk.new w #[.int .i64 q.op, .bool q.qt, .bool q.fu, .int .i64 q.bd, .int .u32 (q.oq : Nat), .slice K nk ck, .slice V nv cv, .int .u32 (q.fl : Nat), .int .u32 (q.ex : Nat), .int .u64 (q.cs : Nat), .int .u64 (q.dl : Nat), .int .u64 (q.ni : Nat)] 26
  have b : Below w.heap.size w (w.alloc (.cells #[.int .i64 q.op, .bool q.qt, .bool q.fu, .int .i64 q.bd, .int .u32 (q.oq : Nat), .slice K nk ck, .slice V nv cv, .int .u32 (q.fl : Nat), .int .u32 (q.ex : Nat), .int .u64 (q.cs : Nat), .int .u64 (q.dl : Nat), .int .u64 (q.ni : Nat)] 26)) := below_a1' (Below.refl _ _) _
  go_enter Try.func6, Try.ntmps6
  go_upto_region 1 with fail
  generalize w.alloc (.cells #[.int .i64 q.op, .bool q.qt, .bool q.fu, .int .i64 q.bd, .int .u32 (q.oq : Nat), .slice K nk ck, .slice V nv cv, .int .u32 (q.fl : Nat), .int .u32 (q.ex : Nat), .int .u64 (q.cs : Nat), .int .u64 (q.dl : Nat), .int .u64 (q.ni : Nat)] 26) = W0 at k1 b ⊢
  go_wp2_with fail
  refine (wakes20 W0).mono ?_
  rintro e w1 ⟨rfl, b1⟩
  replace k1 := k1.step b1
  replace b := below_step b b1
  clear b1
  obtain ⟨a0, a1, a2, a3, a4, a5, a6, a7, a8, a9, a10, a11⟩ := box12 k1
  go_wp2_with fail
  refine (HFEW.out _ b).mono ?_
  rintro e w2 ⟨K2, ck2, V2, cv2, rfl, rK, rV, b1⟩
  replace k1 := k1.step b1
  have b2z := b1.size
  replace rK : Rd w2 w2.heap.size K2 mk ck2 q.lk := rK.more b1.size
  replace rV : Rd w2 w2.heap.size V2 mv cv2 q.lv := rV.more b1.size
  replace b := below_step b b1
  clear b1 a0 a1 a2 a3 a4 a5 a6 a7 a8 a9 a10 a11
  obtain ⟨z0, z1, z2, z3, z4, z5, z6, z7, z8, z9, z10, z11⟩ := box12 k1
  have y0 := k1.frozen 0
  have y1 := k1.frozen 1
  have y2 := k1.frozen 2
  have y3 := k1.frozen 3
  have y4 := k1.frozen 4
  have y5 := k1.frozen 5
  have y6 := k1.frozen 6
  have y7 := k1.frozen 7
  have y8 := k1.frozen 8
  have y9 := k1.frozen 9
  have y10 := k1.frozen 10
  have y11 := k1.frozen 11
  have kf := blk_set12 k1 (.int .i64 q.op) (.bool q.qt) (.bool q.fu) (.int .i64 q.bd) (.int .u32 (q.oq : Nat)) (.slice K2 mk ck2) (.slice V2 mv cv2) (.int .u32 (q.fl : Nat)) (.int .u32 (q.ex : Nat)) (.int .u64 (q.cs : Nat)) (.int .u64 (q.dl : Nat)) (.int .u64 (q.ni : Nat))
  have hg := grown_set12 w2 w.heap.size (.int .i64 q.op) (.bool q.qt) (.bool q.fu) (.int .i64 q.bd) (.int .u32 (q.oq : Nat)) (.slice K2 mk ck2) (.slice V2 mv cv2) (.int .u32 (q.fl : Nat)) (.int .u32 (q.ex : Nat)) (.int .u64 (q.cs : Nat)) (.int .u64 (q.dl : Nat)) (.int .u64 (q.ni : Nat))
  have bff := b.trans (below_grown hg (Nat.le_refl _) k1.lt)
  replace rK := rd_reqF rK k1 hg (Nat.le_refl _)
  replace rV := rd_reqF rV k1 hg (Nat.le_refl _)
  have hz3 := hg.size
  clear b hg k1
  go_upto_region 4 with fail
  clear z0 z1 z2 z3 z4 z5 z6 z7 z8 z9 z10 z11 y0 y1 y2 y3 y4 y5 y6 y7 y8 y9 y10 y11
  generalize (((((((((((w2.setCell ⟨w.heap.size, 0, none⟩ (.int .i64 q.op)).setCell ⟨w.heap.size, 1, none⟩ (.bool q.qt)).setCell ⟨w.heap.size, 2, none⟩ (.bool q.fu)).setCell ⟨w.heap.size, 3, none⟩ (.int .i64 q.bd)).setCell ⟨w.heap.size, 4, none⟩ (.int .u32 (q.oq : Nat))).setCell ⟨w.heap.size, 5, none⟩ (.slice K2 mk ck2)).setCell ⟨w.heap.size, 6, none⟩ (.slice V2 mv cv2)).setCell ⟨w.heap.size, 7, none⟩ (.int .u32 (q.fl : Nat))).setCell ⟨w.heap.size, 8, none⟩ (.int .u32 (q.ex : Nat))).setCell ⟨w.heap.size, 9, none⟩ (.int .u64 (q.cs : Nat))).setCell ⟨w.heap.size, 10, none⟩ (.int .u64 (q.dl : Nat))).setCell ⟨w.heap.size, 11, none⟩ (.int .u64 (q.ni : Nat)) = W3 at kf bff rK rV hz3 ⊢
  have k1 := kf
  have b := bff
  clear kf bff
  have rK2 : Rd W3 W3.heap.size K2 mk ck2 q.lk := rK.more hz3
  have rV2 : Rd W3 W3.heap.size V2 mv cv2 q.lv := rV.more hz3
  clear rK rV
  obtain ⟨a0, a1, a2, a3, a4, a5, a6, a7, a8, a9, a10, a11⟩ := box12 k1
  go_wp2_with fail
  refine (HCOP.out _ _ _ _ _ rK2 rV2).mono ?_
  rintro e w4 ⟨K3, ck3, V3, cv3, rfl, o3, p3, b1⟩
  replace k1 := k1.step b1
  replace rK2 := rK2.step b1
  replace rV2 := rV2.step b1
  replace b := below_step b b1
  have rK3 := o3.rd
  have rV3 := p3.rd
  clear b1 o3 p3 a0 a1 a2 a3 a4 a5 a6 a7 a8 a9 a10 a11
  go_upto_region 5 with fail
  have k3 := Blk.new w4 #[.int .i64 q.op, .bool q.qt, .bool q.fu, .int .i64 q.bd, .int .u32 (q.oq : Nat), .slice K3 mk ck3, .slice V3 mv cv3, .int .u32 (q.fl : Nat), .int .u32 (q.ex : Nat), .int .u64 (q.cs : Nat), .int .u64 (q.dl : Nat), .int .u64 (q.ni : Nat)] 26
  have ba := below_a1' (Below.refl w4.heap.size w4) (.cells #[.int .i64 q.op, .bool q.qt, .bool q.fu, .int .i64 q.bd, .int .u32 (q.oq : Nat), .slice K3 mk ck3, .slice V3 mv cv3, .int .u32 (q.fl : Nat), .int .u32 (q.ex : Nat), .int .u64 (q.cs : Nat), .int .u64 (q.dl : Nat), .int .u64 (q.ni : Nat)] 26)
  replace k1 := k1.step ba
  replace rK2 := rK2.step ba
  replace rV2 := rV2.step ba
  replace rK3 := rK3.step ba
  replace rV3 := rV3.step ba
  replace b := below_step b ba
  clear ba
  generalize w4.alloc (.cells #[.int .i64 q.op, .bool q.qt, .bool q.fu, .int .i64 q.bd, .int .u32 (q.oq : Nat), .slice K3 mk ck3, .slice V3 mv cv3, .int .u32 (q.fl : Nat), .int .u32 (q.ex : Nat), .int .u64 (q.cs : Nat), .int .u64 (q.dl : Nat), .int .u64 (q.ni : Nat)] 26) = W4 at k3 b k1 rK2 rV2 rK3 rV3 ⊢
  generalize w4.heap.size = g3 at k3 ⊢
  obtain ⟨a0, a1, a2, a3, a4, a5, a6, a7, a8, a9, a10, a11⟩ := box12 k3
  go_wp2_with fail
  have HW4 := Lib.hid (And.intro k1 (And.intro k3 (And.intro rK2 (And.intro rV2 (And.intro rK3 (And.intro rV3 b))))))
  have bB := Below.refl W4.heap.size W4
  refine (HFR.out _ _ _ _ _ rK3 rV3).mono ?_
  rintro e w5 ⟨X4, cx4, K4, ck4, V4, cv4, rfl, oX, oK, oV, b1⟩
  skip
  replace k1 := k1.step b1
  replace rK2 := rK2.step b1
  replace rV2 := rV2.step b1
  replace rK3 := rK3.step b1
  replace rV3 := rV3.step b1
  replace k3 := k3.step b1
  replace b := below_step b b1
  replace bB := below_step bB b1
  have hb5 := b1.size
  have wrK := oK.wr
  have wrV := oV.wr
  have rX4 := oX.rd
  have rK4 := oK.rd
  have rV4 := oV.rd
  clear b1 oX oK oV a0 a1 a2 a3 a4 a5 a6 a7 a8 a9 a10 a11
  go_upto_region 6 with fail
  have k4 := Blk.new w5 #[.int .u8 128, .int .u8 (c : Nat), .int .u16 (mk : Nat), .int .u8 (nx : Nat), .int .u8 0, .int .u16 0, .int .u32 (bl : Nat), .int .u32 (q.oq : Nat), .int .u64 (q.cs : Nat), .slice X4 nx cx4, .slice K4 mk ck4, .slice V4 mv cv4] 61
  have ba := below_a1' (Below.refl w5.heap.size w5) (.cells #[.int .u8 128, .int .u8 (c : Nat), .int .u16 (mk : Nat), .int .u8 (nx : Nat), .int .u8 0, .int .u16 0, .int .u32 (bl : Nat), .int .u32 (q.oq : Nat), .int .u64 (q.cs : Nat), .slice X4 nx cx4, .slice K4 mk ck4, .slice V4 mv cv4] 61)
  replace k1 := k1.step ba
  replace rK2 := rK2.step ba
  replace rV2 := rV2.step ba
  replace rK3 := rK3.step ba
  replace rV3 := rV3.step ba
  replace k3 := k3.step ba
  replace rX4 := rX4.step ba
  replace rK4 := rK4.step ba
  replace rV4 := rV4.step ba
  replace wrK := wrK.stepF ba
  replace wrV := wrV.stepF ba
  replace b := below_step b ba
  replace bB := below_step bB ba
  clear ba
  generalize w5.alloc (.cells #[.int .u8 128, .int .u8 (c : Nat), .int .u16 (mk : Nat), .int .u8 (nx : Nat), .int .u8 0, .int .u16 0, .int .u32 (bl : Nat), .int .u32 (q.oq : Nat), .int .u64 (q.cs : Nat), .slice X4 nx cx4, .slice K4 mk ck4, .slice V4 mv cv4] 61) = W5 at k4 b bB wrK wrV k1 rK2 rV2 rK3 rV3 k3 rX4 rK4 rV4 ⊢
  generalize w5.heap.size = g4 at k4 wrK wrV hb5 ⊢
  clear hb5
  obtain ⟨a0, a1, a2, a3, a4, a5, a6, a7, a8, a9, a10, a11⟩ := box12 k3
  go_wp2_with fail
  refine (HCD.out _ _ _ _ _).mono ?_
  rintro e w6 ⟨rfl, b1⟩
  replace k1 := k1.step b1
  replace rK2 := rK2.step b1
  replace rV2 := rV2.step b1
  replace rK3 := rK3.step b1
  replace rV3 := rV3.step b1
  replace k3 := k3.step b1
  replace rX4 := rX4.step b1
  replace rK4 := rK4.step b1
  replace rV4 := rV4.step b1
  replace k4 := k4.step b1
  replace wrK := wrK.stepF b1
  replace wrV := wrV.stepF b1
  replace b := below_step b b1
  replace bB := below_step bB b1
  clear b1
  clear a0 a1 a2 a3 a4 a5 a6 a7 a8 a9 a10 a11
  obtain ⟨a0, a1, a2, a3, a4, a5, a6, a7, a8, a9, a10, a11⟩ := box12 k1
  go_wp2_with fail
  refine (HRC.out _ _ _ _ _).mono ?_
  rintro e w7 ⟨rfl, b1⟩
  replace k1 := k1.step b1
  replace rK2 := rK2.step b1
  replace rV2 := rV2.step b1
  replace rK3 := rK3.step b1
  replace rV3 := rV3.step b1
  replace k3 := k3.step b1
  replace rX4 := rX4.step b1
  replace rK4 := rK4.step b1
  replace rV4 := rV4.step b1
  replace k4 := k4.step b1
  replace wrK := wrK.stepF b1
  replace wrV := wrV.stepF b1
  replace b := below_step b b1
  replace bB := below_step bB b1
  clear b1
  clear a0 a1 a2 a3 a4 a5 a6 a7 a8 a9 a10 a11
  obtain ⟨a0, a1, a2, a3, a4, a5, a6, a7, a8, a9, a10, a11⟩ := box12 k1
  obtain ⟨d0, d1, d2, d3, d4, d5, d6, d7, d8, d9, d10, d11⟩ := box12 k3
  go_wp2_with fail
  refine (HSM.out _ _ _ _ _ _ _ _ _ rK3 rV3 rK2 rV2).mono ?_
  rintro e w8 ⟨rfl, b1⟩
  replace k1 := k1.step b1
  replace rK2 := rK2.step b1
  replace rV2 := rV2.step b1
  replace rK3 := rK3.step b1
  replace rV3 := rV3.step b1
  replace k3 := k3.step b1
  replace rX4 := rX4.step b1
  replace rK4 := rK4.step b1
  replace rV4 := rV4.step b1
  replace k4 := k4.step b1
  replace wrK := wrK.stepF b1
  replace wrV := wrV.stepF b1
  replace b := below_step b b1
  replace bB := below_step bB b1
  clear b1
  clear a0 a1 a2 a3 a4 a5 a6 a7 a8 a9 a10 a11 d0 d1 d2 d3 d4 d5 d6 d7 d8 d9 d10 d11
  obtain ⟨a0, a1, a2, a3, a4, a5, a6, a7, a8, a9, a10, a11⟩ := box12 k1
  go_wp2_with fail
  refine (HRF.out _ _ _ _ _ rK2 rV2).mono ?_
  rintro e w9 ⟨X5, cx5, K5, ck5, V5, cv5, rfl, rX5, rK5, rV5, b1⟩
  replace k1 := k1.step b1
  replace rK2 := rK2.step b1
  replace rV2 := rV2.step b1
  replace rK3 := rK3.step b1
  replace rV3 := rV3.step b1
  replace k3 := k3.step b1
  replace rX4 := rX4.step b1
  replace rK4 := rK4.step b1
  replace rV4 := rV4.step b1
  replace k4 := k4.step b1
  replace wrK := wrK.stepF b1
  replace wrV := wrV.stepF b1
  replace b := below_step b b1
  replace bB := below_step bB b1
  clear b1 a0 a1 a2 a3 a4 a5 a6 a7 a8 a9 a10 a11
  go_upto_region 11 with fail
  have k5 := Blk.new w9 #[.int .u8 128, .int .u8 (c : Nat), .int .u16 (mk : Nat), .int .u8 (nx : Nat), .int .u8 0, .int .u16 0, .int .u32 (bl : Nat), .int .u32 (q.oq : Nat), .int .u64 (q.cs : Nat), .slice X5 nx cx5, .slice K5 mk ck5, .slice V5 mv cv5] 61
  have ba := below_a1' (Below.refl w9.heap.size w9) (.cells #[.int .u8 128, .int .u8 (c : Nat), .int .u16 (mk : Nat), .int .u8 (nx : Nat), .int .u8 0, .int .u16 0, .int .u32 (bl : Nat), .int .u32 (q.oq : Nat), .int .u64 (q.cs : Nat), .slice X5 nx cx5, .slice K5 mk ck5, .slice V5 mv cv5] 61)
  replace k1 := k1.step ba
  replace rK2 := rK2.step ba
  replace rV2 := rV2.step ba
  replace rK3 := rK3.step ba
  replace rV3 := rV3.step ba
  replace k3 := k3.step ba
  replace rX4 := rX4.step ba
  replace rK4 := rK4.step ba
  replace rV4 := rV4.step ba
  replace k4 := k4.step ba
  replace wrK := wrK.stepF ba
  replace wrV := wrV.stepF ba
  replace rX5 := rX5.step ba
  replace rK5 := rK5.step ba
  replace rV5 := rV5.step ba
  replace b := below_step b ba
  replace bB := below_step bB ba
  clear ba
  generalize w9.alloc (.cells #[.int .u8 128, .int .u8 (c : Nat), .int .u16 (mk : Nat), .int .u8 (nx : Nat), .int .u8 0, .int .u16 0, .int .u32 (bl : Nat), .int .u32 (q.oq : Nat), .int .u64 (q.cs : Nat), .slice X5 nx cx5, .slice K5 mk ck5, .slice V5 mv cv5] 61) = W9 at k5 b bB k1 rK2 rV2 rK3 rV3 k3 rX4 rK4 rV4 k4 wrK wrV rX5 rK5 rV5 ⊢
  generalize w9.heap.size = g5 at k5 ⊢
  obtain ⟨a0, a1, a2, a3, a4, a5, a6, a7, a8, a9, a10, a11⟩ := box12 k4
  obtain ⟨d0, d1, d2, d3, d4, d5, d6, d7, d8, d9, d10, d11⟩ := box12 k5
  go_wp2_with fail
  refine (HFS.out _ _ _ _ _ _ _ _ _ _ _ _ _ rX4 rK4 rV4 rX5 rK5 rV5).mono ?_
  rintro e w10 ⟨rfl, b1⟩
  replace k1 := k1.step b1
  replace rK2 := rK2.step b1
  replace rV2 := rV2.step b1
  replace rK3 := rK3.step b1
  replace rV3 := rV3.step b1
  replace k3 := k3.step b1
  replace rX4 := rX4.step b1
  replace rK4 := rK4.step b1
  replace rV4 := rV4.step b1
  replace k4 := k4.step b1
  replace wrK := wrK.stepF b1
  replace wrV := wrV.stepF b1
  replace rX5 := rX5.step b1
  replace rK5 := rK5.step b1
  replace rV5 := rV5.step b1
  replace k5 := k5.step b1
  replace b := below_step b b1
  replace bB := below_step bB b1
  clear b1
  clear a0 a1 a2 a3 a4 a5 a6 a7 a8 a9 a10 a11 d0 d1 d2 d3 d4 d5 d6 d7 d8 d9 d10 d11
  clear rX4 rK4 rV4 rX5 rK5 rV5 k5 k1 k3 rK2 rV2 rK3 rV3 b
  obtain ⟨a0, a1, a2, a3, a4, a5, a6, a7, a8, a9, a10, a11⟩ := box12 k4
  go_wp2_with fail
  clear a0 a1 a2 a3 a4 a5 a6 a7 a8 a9 a10 a11
  go_loopw [12, 74] (fun y i wr => ∃ j : Nat, j ≤ mk ∧ i = .int .i64 (j : Nat) ∧ Wr wr W4.heap.size g4 K4 mk ∧ Wr wr W4.heap.size g4 V4 mv ∧ Blk wr g4 #[.int .u8 128, .int .u8 (c : Nat), .int .u16 (mk : Nat), .int .u8 (nx : Nat), .int .u8 0, .int .u16 0, .int .u32 (bl : Nat), .int .u32 (q.oq : Nat), .int .u64 (q.cs : Nat), .slice X4 nx cx4, .slice K4 mk ck4, .slice V4 mv cv4] 61 ∧ Below W4.heap.size W4 wr) (fun _ i _ => mk - (intOf i).toNat)
  case atStart => exact ⟨0, Nat.zero_le _, rfl, wrK, wrV, k4, bB⟩
  case round =>
    clear wrK wrV k4 bB
    obtain ⟨j, hj, rfl, wrK, wrV, k4, bB⟩ := hrel
    obtain ⟨a0, a1, a2, a3, a4, a5, a6, a7, a8, a9, a10, a11⟩ := box12 k4
    by_cases hlt : j < mk
    · obtain ⟨g, v, hA, hBg, hU, hl, hc, hf⟩ := wrK.at_ hlt
      subst hA
      have hlt' : ((j : Int) < (mk : Int)) = True := eq_true (by omega)
      have HLT : Hid (j + 1 ≤ mk) := Lib.hid (by omega)
      have HJP : IntKind.i64.wrap ((j : Int) + 1) = (j : Int) + 1 := IntWalk.i64_in _ (by have := HM.out; omega)
      have HR := Lib.hid (And.intro (wrK.set g j (.int .u8 238)) (And.intro (wrV.set g j (.int .u8 238)) (And.intro (k4.far (p := ⟨g, j, none⟩) (show g4 ≠ g from fun e => absurd hU (by rw [e]; exact Nat.lt_irrefl _)) (.int .u8 238)) (below_set bB hBg hl j (.int .u8 238)))))
      clear hlt wrK wrV k4 bB
      go_wp2_with fail
      go_roundw
      case rel => exact ⟨j + 1, HLT.out, by first | rfl | go_num, HR.out.1, HR.out.2.1, HR.out.2.2.1, HR.out.2.2.2⟩
      case measure => have := HLT.out; simp [intOf]; omega
    · have hlt' : ((j : Int) < (mk : Int)) = False := eq_false (by omega)
      clear hlt wrK hj
      go_wp2_with fail
      clear a0 a1 a2 a3 a4 a5 a6 a7 a8 a9 a10 a11
      go_loopw [13, 85] (fun y i wr => ∃ j : Nat, j ≤ mv ∧ i = .int .i64 (j : Nat) ∧ Wr wr W4.heap.size g4 V4 mv ∧ Blk wr g4 #[.int .u8 128, .int .u8 (c : Nat), .int .u16 (mk : Nat), .int .u8 (nx : Nat), .int .u8 0, .int .u16 0, .int .u32 (bl : Nat), .int .u32 (q.oq : Nat), .int .u64 (q.cs : Nat), .slice X4 nx cx4, .slice K4 mk ck4, .slice V4 mv cv4] 61 ∧ Below W4.heap.size W4 wr) (fun _ i _ => mv - (intOf i).toNat)
      case atStart => exact ⟨0, Nat.zero_le _, rfl, wrV, k4, bB⟩
      case round =>
        clear wrV k4 bB hlt'
        obtain ⟨j2, hj2, rfl, wrV, k4, bB⟩ := hrel
        obtain ⟨a0, a1, a2, a3, a4, a5, a6, a7, a8, a9, a10, a11⟩ := box12 k4
        by_cases hlt : j2 < mv
        · obtain ⟨g, v, hA, hBg, hU, hl, hc, hf⟩ := wrV.at_ hlt
          subst hA
          have hlt' : ((j2 : Int) < (mv : Int)) = True := eq_true (by omega)
          have HLT : Hid (j2 + 1 ≤ mv) := Lib.hid (by omega)
          have HJP : IntKind.i64.wrap ((j2 : Int) + 1) = (j2 : Int) + 1 := IntWalk.i64_in _ (by have := HM.out; omega)
          have HR := Lib.hid (And.intro (wrV.set g j2 (.int .u8 238)) (And.intro (k4.far (p := ⟨g, j2, none⟩) (show g4 ≠ g from fun e => absurd hU (by rw [e]; exact Nat.lt_irrefl _)) (.int .u8 238)) (below_set bB hBg hl j2 (.int .u8 238))))
          clear hlt wrV k4 bB
          go_wp2_with fail
          go_roundw
          case rel => exact ⟨j2 + 1, HLT.out, by first | rfl | go_num, HR.out.1, HR.out.2.1, HR.out.2.2⟩
          case measure => have := HLT.out; simp [intOf]; omega
        · have hlt' : ((j2 : Int) < (mv : Int)) = False := eq_false (by omega)
          clear hlt wrV hj2 k4 a0 a1 a2 a3 a4 a5 a6 a7 a8 a9 a10 a11
          obtain ⟨k1, k3, rK2, rV2, rK3, rV3, bw⟩ := HW4.out
          replace k1 := k1.step bB
          replace k3 := k3.step bB
          replace rK2 := rK2.step bB
          replace rV2 := rV2.step bB
          replace rK3 := rK3.step bB
          replace rV3 := rV3.step bB
          have HS := Lib.hid (HSM.out _ _ _ _ _ _ _ _ _ rK3 rV3 rK2 rV2)
          have HB := Lib.hid (below_step bw bB)
          obtain ⟨a0, a1, a2, a3, a4, a5, a6, a7, a8, a9, a10, a11⟩ := box12 k1
          obtain ⟨d0, d1, d2, d3, d4, d5, d6, d7, d8, d9, d10, d11⟩ := box12 k3
          clear k1 k3 rK2 rV2 rK3 rV3 bw bB HW4
          go_wp2_with fail
          refine HS.out.mono ?_
          rintro e w11 ⟨rfl, b1⟩
          go_wp2_with fail
          go_ret
          exact ⟨rfl, below_step HB.out b1⟩
set_option maxRecDepth 100000 in
set_option maxHeartbeats 8000000 in
theorem walk_parseFrames (op : Int) (qt fu : Bool) (bd : Int) (oq fl ex cs dl ni : Nat) (K : Option Addr) (nk ck : Nat) (lk : List UInt8) (V : Option Addr) (nv cv : Nat) (lv : List UInt8) (w : World) (q1 : Rqs w w.heap.size op qt fu bd oq fl ex cs dl ni K nk ck lk V nv cv lv) (s1 : ck ≤ 140737488351232 ∧ cv ≤ 140737488351232) :
    Calls Try.prog 6 #[reqV op qt fu bd oq (.slice K nk ck) (.slice V nv cv) fl ex cs dl ni] w fun e w' => e = .returned (.bool true) ∧ Below w.heap.size w w' := by
  obtain ⟨rk, rv, h1, h2, h3, h4, h5, h6, -, -⟩ := q1
  have e1 := rk.cap
  have e2 := rv.cap
  obtain ⟨mk, hmk⟩ : ∃ x, x = min nk 600 := ⟨_, rfl⟩
  obtain ⟨mv, hmv⟩ : ∃ x, x = min nv 3000 := ⟨_, rfl⟩
  have hm1 : mk ≤ 600 := by omega
  have hm2 : mv ≤ 3000 := by omega
  obtain ⟨q, hq⟩ : ∃ q : RQ, q = ⟨op, qt, fu, bd, oq, lk.take mk, lv.take mv, fl, ex, cs, dl, ni⟩ := ⟨_, rfl⟩
  have hin : q.In := by rw [hq]; exact ⟨h1, h2, h3, h5, h6⟩
  have HFEW : Hid (∀ W, Below w.heap.size w W → Calls Try.prog 40 #[.agg #[.int .i64 q.op, .bool q.qt, .bool q.fu, .int .i64 q.bd, .int .u32 (q.oq : Nat), .slice K nk ck, .slice V nv cv, .int .u32 (q.fl : Nat), .int .u32 (q.ex : Nat), .int .u64 (q.cs : Nat), .int .u64 (q.dl : Nat), .int .u64 (q.ni : Nat)]] W (PfFew q mk mv W)) := Lib.hid (fun W b => by
    rw [hq, hmk, hmv]
    exact (few_any op qt fu bd oq fl ex cs dl ni K V nk ck nv cv lk lv W ((rk.below b).more b.size) ((rv.below b).more b.size) (by omega) (by omega)).mono fun _ _ h => h)
  have HCOP : Hid (∀ W A ca Z cz, Rd W W.heap.size A mk ca q.lk → Rd W W.heap.size Z mv cz q.lv → Calls Try.prog 41 #[.agg #[.int .i64 q.op, .bool q.qt, .bool q.fu, .int .i64 q.bd, .int .u32 (q.oq : Nat), .slice A mk ca, .slice Z mv cz, .int .u32 (q.fl : Nat), .int .u32 (q.ex : Nat), .int .u64 (q.cs : Nat), .int .u64 (q.dl : Nat), .int .u64 (q.ni : Nat)]] W (PfCop q mk mv W)) := Lib.hid (fun W A ca Z cz r1 r2 => (copied_any q.op q.qt q.fu q.bd q.oq q.fl q.ex q.cs q.dl q.ni A Z mk ca mv cz q.lk q.lv W r1 r2 (by omega) (by omega)).mono fun _ _ h => h)
  have HCD : Hid (∀ W A ca Z cz, Calls Try.prog 43 #[.agg #[.int .i64 q.op, .bool q.qt, .bool q.fu, .int .i64 q.bd, .int .u32 (q.oq : Nat), .slice A mk ca, .slice Z mv cz, .int .u32 (q.fl : Nat), .int .u32 (q.ex : Nat), .int .u64 (q.cs : Nat), .int .u64 (q.dl : Nat), .int .u64 (q.ni : Nat)]] W fun e w' => e = .returned (.tuple #[.int .i64 (((code20 q.op q.qt q.fu q.bd).getD 0 : Nat) : Int), .bool (code20 q.op q.qt q.fu q.bd).isSome]) ∧ Below W.heap.size W w') := Lib.hid (fun W A ca Z cz => by
    unfold code20
    by_cases hb : q.bd = 0
    · rw [if_pos hb, hb]
      exact code_any q.op q.qt q.fu q.oq (.slice A mk ca) (.slice Z mv cz) q.fl q.ex q.cs q.dl q.ni W
    · rw [if_neg hb]
      exact code_bad q.op q.qt q.fu q.bd hb q.oq (.slice A mk ca) (.slice Z mv cz) q.fl q.ex q.cs q.dl q.ni W)
  have HRC : Hid (∀ W A ca Z cz, Calls Try.prog 44 #[.agg #[.int .i64 q.op, .bool q.qt, .bool q.fu, .int .i64 q.bd, .int .u32 (q.oq : Nat), .slice A mk ca, .slice Z mv cz, .int .u32 (q.fl : Nat), .int .u32 (q.ex : Nat), .int .u64 (q.cs : Nat), .int .u64 (q.dl : Nat), .int .u64 (q.ni : Nat)]] W fun e w' => e = .returned (.tuple #[.int .i64 (((code20 q.op q.qt q.fu q.bd).getD 0 : Nat) : Int), .bool (code20 q.op q.qt q.fu q.bd).isSome]) ∧ Below W.heap.size W w') := Lib.hid (fun W A ca Z cz => rcode20_any q.op q.qt q.fu q.bd q.oq (.slice A mk ca) (.slice Z mv cz) q.fl q.ex q.cs q.dl q.ni W)
  have HSM : Hid (∀ W A ca Z cz A' ca' Z' cz', Rd W W.heap.size A mk ca q.lk → Rd W W.heap.size Z mv cz q.lv → Rd W W.heap.size A' mk ca' q.lk → Rd W W.heap.size Z' mv cz' q.lv → Calls Try.prog 45 #[.agg #[.int .i64 q.op, .bool q.qt, .bool q.fu, .int .i64 q.bd, .int .u32 (q.oq : Nat), .slice A mk ca, .slice Z mv cz, .int .u32 (q.fl : Nat), .int .u32 (q.ex : Nat), .int .u64 (q.cs : Nat), .int .u64 (q.dl : Nat), .int .u64 (q.ni : Nat)], .agg #[.int .i64 q.op, .bool q.qt, .bool q.fu, .int .i64 q.bd, .int .u32 (q.oq : Nat), .slice A' mk ca', .slice Z' mv cz', .int .u32 (q.fl : Nat), .int .u32 (q.ex : Nat), .int .u64 (q.cs : Nat), .int .u64 (q.dl : Nat), .int .u64 (q.ni : Nat)]] W (PSame true W)) := Lib.hid (fun W A ca Z cz A' ca' Z' cz' r1 r2 r3 r4 => by
    have h := rqsame_any q.op q.op q.bd q.bd q.qt q.qt q.fu q.fu q.oq q.oq q.fl q.fl q.ex q.ex q.cs q.cs q.dl q.dl q.ni q.ni A A' Z Z' mk ca mk ca' mv cz mv cz' q.lk q.lk q.lv q.lv W r1 r3 r2 r4
    rw [reqSame_yes ⟨rfl, rfl, rfl, rfl, rfl, rfl, rfl, rfl, rfl, rfl, rfl, rfl⟩] at h
    exact h)
  have hgoal : reqV op qt fu bd oq (.slice K nk ck) (.slice V nv cv) fl ex cs dl ni = .agg #[.int .i64 q.op, .bool q.qt, .bool q.fu, .int .i64 q.bd, .int .u32 (q.oq : Nat), .slice K nk ck, .slice V nv cv, .int .u32 (q.fl : Nat), .int .u32 (q.ex : Nat), .int .u64 (q.cs : Nat), .int .u64 (q.dl : Nat), .int .u64 (q.ni : Nat)] := by rw [hq]; rfl
  rw [hgoal]
  clear hgoal
  cases hs : sayO q with
  | none =>
    exact pframes_no q K nk ck V nv cv mk mv _ _ w HFEW HCOP HCD HRC HSM ⟨hm1, hm2⟩
      (Lib.hid fun W A ca Z cz r1 r2 => pframe_N q hin hs A Z mk ca mv cz W r1 r2 (by omega))
      (Lib.hid fun W A ca Z cz r1 r2 => (rframe_any q hin A Z mk ca mv cz W r1 r2 (by omega) (by omega)).mono fun _ _ h => h.2 hs)
      (Lib.hid fun W => fsame_yes 0 0 0 0 0 0 0 0 0 none none none none none none 0 0 0 0 0 0 0 0 0 0 0 0 [] [] [] W (Rd.nil _ _) (Rd.nil _ _) (Rd.nil _ _) (Rd.nil _ _) (Rd.nil _ _) (Rd.nil _ _))
  | some c =>
    refine pframes_yes q K nk ck V nv cv mk mv _ _ w HFEW HCOP HCD HRC HSM ⟨hm1, hm2⟩ c (frmX q).length ((frmX q).length + mk + mv) (frmX q)
      (Lib.hid fun W A ca Z cz r1 r2 => (pframe_O q hin c hs A Z mk ca mv cz W r1 r2).mono fun e w' h => ?_)
      (Lib.hid fun W A ca Z cz r1 r2 => (rframe_any q hin A Z mk ca mv cz W r1 r2 (by omega) (by omega)).mono fun e w' h => ?_)
      (Lib.hid fun W X4 cx4 K4 ck4 V4 cv4 X5 cx5 K5 ck5 V5 cv5 r1 r2 r3 r4 r5 r6 => fsame_yes 128 c mk (frmX q).length 0 0 ((frmX q).length + mk + mv) q.oq q.cs X4 K4 V4 X5 K5 V5 (frmX q).length cx4 mk ck4 mv cv4 (frmX q).length cx5 mk ck5 mv cv5 (frmX q) q.lk q.lv W r1 r2 r3 r4 r5 r6)
    · obtain ⟨X, K, V, nx, cx, ck, cv, he, rfl, o1, o2, o3, b⟩ := h
      exact ⟨X, cx, K, ck, V, cv, he, o1, o2, o3, b⟩
    · obtain ⟨X, K, V, nx, cx, ck, cv, he, rfl, o1, o2, o3, b⟩ := h.1 c hs
      exact ⟨X, cx, K, ck, V, cv, he, o1, o2, o3, b⟩


set_option maxRecDepth 100000 in
theorem lifted_parseFrames (os : Os) (started : os.Started) (H : Type) (enc : TypeId × Value → H) :
    ReturnsInHanded {} Try.checked os 6 .any (Rows.parseFramesSpec.pre6 enc Try.prog Try.f6 Rows.parseFramesRow.domain false) (Rows.parseFramesSpec.post enc Try.prog Try.f6 false true false false) := by
  refine returnsInHanded_of_change_sized (C := Try.checked) own started (by kernel_rfl) Try.func6
    (ChangeSpec.witness6 (enc := enc) (C := Try.checked) false ⟨#[], #[.agg #[.int .i64 0, .bool false, .bool false, .int .i64 0, .int .u32 0, .slice none 0 0, .slice none 0 0, .int .u32 0, .int .u32 0, .int .u64 0, .int .u64 0, .int .u64 0]], []⟩ 8 (by kernel_rfl) (by kernel_rfl) (by kernel_rfl) (by kernel_rfl)) ?_
  intro W base args ds gs before hval0 hW hcnd hsz0 _
  have hval : ∀ (j : Nat) t v, Try.f6.params[j]? = some t → args[j]? = some v → Value.okWide Try.prog W .any base t v := hval0
  have hsz : (DataW.weightsEach Try.prog (Try.f6.params.toList ++ Rows.parseFramesSpec.plain.varTypes Try.prog) (ds ++ gs)).all (· ≤ reachBytes) = true := hsz0
  have hW' := hW
  obtain ⟨p, q, hA0, hV, rfl, hfz, hnd⟩ := hW
  have hA : DataW.TrodAll enc Try.prog W 0 (fun _ => true) true Try.f6.params.toList args.toList ds p := hA0
  rw [Try.params6] at hA hval hsz
  obtain ⟨v0, vs0, d0, ds0, p0, q0, hargs, rfl, rfl, h0, t0⟩ := trodAll_cons hA
  obtain ⟨rfl, rfl, rfl⟩ := trodAll_nil t0
  obtain rfl : args = #[v0] := by cases args; simp_all
  obtain ⟨rfl, rfl⟩ := trodVars_none hV
  have k0 := h0
  obtain ⟨op0, qt0, fu0, bd0, oq0, fl0, ex0, cs0, dl0, ni0, K0, nk0, ck0, lk0, V0, nv0, cv0, lv0, rfl, r0, y0⟩ := open_req (hval 0 26 v0 rfl rfl) h0
  have s0 := y0 (weights_of hsz (j := 0) rfl rfl)
  clear hA0 hval0
  refine (walk_parseFrames op0 qt0 fu0 bd0 oq0 fl0 ex0 cs0 dl0 ni0 K0 nk0 ck0 lk0 V0 nv0 cv0 lv0 W r0 s0).mono fun e W' ⟨he, bel⟩ => ?_
  subst he
  exact ⟨_, rfl, _, _, _, [], _, [], hW', trodAll_mk1 (shut_bool Try.underlying4 _), (trodAll_cons_mk (Below.trod laidOut (by kernel_rfl) (of_decide_eq_true (by kernel_rfl)) k0 bel (trod_places k0)) trodAll_mk0), rfl, bel.frame _, fun h => by cases h⟩

theorem closed_parseFrames : joinedFacts Try.pinned.checked.prog 6 Try.f6 Rows.parseFramesSpec Rows.parseFramesRow = true := by
  unfold joinedFacts
  rw [clo_heard, clo_may, clo_lifts, clo_make]
  kernel_rfl
theorem over_parseFrames : Rows.parseFramesRow.holds Try.pinned (OpenSpec.ofChange Rows.parseFramesSpec) :=
  OpenClaim.holds_of_wide 6 Try.f6 rfl rfl rfl rfl rfl rfl rfl ⟨rfl, rfl, rfl, rfl, rfl⟩ rfl rfl rfl rfl rfl (by kernel_rfl) Try.func6 closed_parseFrames
    (of_decide_eq_true (by kernel_rfl)) (by unfold Func.isWrapper; first | (rw [if_pos (by decide +kernel)]; kernel_rfl) | (rw [if_neg (by decide +kernel)]; exact ⟨rfl, rfl⟩))
    (fun os started H enc _ => lifted_parseFrames os started H enc)

/-- The statement. -/
theorem parseFrames_holds : Rows.ParseFramesSaid := over_parseFrames
#print axioms parseFrames_holds

end Go.Proofs.Ytnghmgbmflcngaa

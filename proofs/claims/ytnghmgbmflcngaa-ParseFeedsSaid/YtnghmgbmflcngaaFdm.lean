/- Merged texts: Rfd, Spoi, Psp, Rnx, Tol, Spok, Drn, Opel, Opc, Alp. Conditions: typed in each theorem. -/
import Derived.Test.YtnghmgbmflcngaaPun
import Derived.Deep.DeepCutAuto
import Derived.Test.YtnghmgbmflcngaaRqn
import Derived.Test.YtnghmgbmflcngaaSlc
import Derived.Test.YtnghmgbmflcngaaRow
import Derived.Test.YtnghmgbmflcngaaPrs
import Derived.Test.YtnghmgbmflcngaaOpen
import Derived.Deep.Slices
namespace Go.Proofs.Ytnghmgbmflcngaa
set_option linter.unusedVariables false
section
open Go.RowKit

theorem blk_set2 {w : World} {g : Nat} {T : TypeId} {c0 c1 : Value} (h : Blk w g #[c0, c1] T) (v0 v1 : Value) : Blk ((w.setCell ⟨g, 0, none⟩ v0).setCell ⟨g, 1, none⟩ v1) g #[v0, v1] T := by
  have h0 : Blk _ g #[v0, c1] T := h.set_ 0 v0
  have h1 : Blk _ g #[v0, v1] T := h0.set_ 1 v1
  exact h1
theorem grown_set2 (w : World) (g : Nat) (v0 v1 : Value) : w.grownBy ((w.setCell ⟨g, 0, none⟩ v0).setCell ⟨g, 1, none⟩ v1) (some g) := grown_trans (rdr_grown_set w g 0 v0) (rdr_grown_set _ g 1 v1)
/-- What Feed answers: the parser as it was. -/
def RfNo (A : Option Addr) (n c : Nat) (br : Bool) (er : Int) (w : World) (e : Ending) (w' : World) : Prop := e = .returned (.tuple #[.agg #[.slice A n c, .bool br], .int .i64 er]) ∧ Below w.heap.size w w'
def RfOk (N : Nat) (l : List UInt8) (w : World) (e : Ending) (w' : World) : Prop := ∃ A' c', e = .returned (.tuple #[.agg #[.slice A' N c', .bool false], .int .i64 0]) ∧ Own w' w.heap.size A' N c' l ∧ Below w.heap.size w w'
set_option maxRecDepth 100000 in
set_option maxHeartbeats 2000000 in
theorem rfeed_broken (A : Option Addr) (n c : Nat) (A2 : Option Addr) (m c2 : Nat) (w : World) : Calls Try.prog 37 #[.agg #[.slice A n c, .bool true], .slice A2 m c2] w (RfNo A n c true 300 w) := by
  have k1 := (Blk.new w #[.slice A n c, .bool true] 47).alloc (.cells #[.slice none 0 0, .bool false] 47)
  have k2 := Blk.new (w.alloc (.cells #[.slice A n c, .bool true] 47)) #[.slice none 0 0, .bool false] 47
  have b := below_a1' (below_a1' (Below.refl w.heap.size w) (.cells #[.slice A n c, .bool true] 47)) (.cells #[.slice none 0 0, .bool false] 47)
  rw [World.size_alloc] at k2
  go_enter Try.func37, Try.ntmps37
  go_upto_region 1 with fail
  generalize (w.alloc (.cells #[.slice A n c, .bool true] 47)).alloc (.cells #[.slice none 0 0, .bool false] 47) = W0 at k1 k2 b ⊢
  obtain ⟨z0, z1⟩ := box2 k1
  obtain ⟨u0, u1⟩ := box2 k2
  have y0 := k2.frozen 0
  have y1 := k2.frozen 1
  have kf := blk_set2 k2 (.slice A n c) (.bool true)
  have gs := grown_set2 W0 (w.heap.size + 1) (.slice A n c) (.bool true)
  have bf := b.trans (below_grown gs (by omega) k2.lt)
  obtain ⟨t0, t1⟩ := box2 kf
  clear kf gs b k1 k2
  go_wp2_with fail
  refine bodyPost_ret (v := .tuple #[.agg #[.slice A n c, .bool true], .int .i64 300]) (by simp [results, Try.results37, go_sem, t0, t1]) rfl ?_
  exact ⟨rfl, bf⟩
set_option maxRecDepth 100000 in
set_option maxHeartbeats 2000000 in
theorem rfeed_long (A : Option Addr) (n c : Nat) (A2 : Option Addr) (m c2 : Nat) (w : World) (hm : 65536 < n + m) (hn : n + m ≤ 9223372036854775807) : Calls Try.prog 37 #[.agg #[.slice A n c, .bool false], .slice A2 m c2] w (RfNo A n c false 3 w) := by
  have k1 := (Blk.new w #[.slice A n c, .bool false] 47).alloc (.cells #[.slice none 0 0, .bool false] 47)
  have k2 := Blk.new (w.alloc (.cells #[.slice A n c, .bool false] 47)) #[.slice none 0 0, .bool false] 47
  have b := below_a1' (below_a1' (Below.refl w.heap.size w) (.cells #[.slice A n c, .bool false] 47)) (.cells #[.slice none 0 0, .bool false] 47)
  rw [World.size_alloc] at k2
  have e1 : IntKind.i64.wrap ((n : Int) + (m : Int)) = (n : Int) + (m : Int) := IntWalk.i64_in _ (by omega)
  have e2 : ((65536 : Int) < (n : Int) + (m : Int)) = True := eq_true (by omega)
  clear hm hn
  go_enter Try.func37, Try.ntmps37
  go_upto_region 1 with fail
  generalize (w.alloc (.cells #[.slice A n c, .bool false] 47)).alloc (.cells #[.slice none 0 0, .bool false] 47) = W0 at k1 k2 b ⊢
  obtain ⟨z0, z1⟩ := box2 k1
  obtain ⟨u0, u1⟩ := box2 k2
  have y0 := k2.frozen 0
  have y1 := k2.frozen 1
  have kf := blk_set2 k2 (.slice A n c) (.bool false)
  have gs := grown_set2 W0 (w.heap.size + 1) (.slice A n c) (.bool false)
  have bf := b.trans (below_grown gs (by omega) k2.lt)
  obtain ⟨t0, t1⟩ := box2 kf
  clear kf gs b k1 k2
  go_wp2_with fail
  refine bodyPost_ret (v := .tuple #[.agg #[.slice A n c, .bool false], .int .i64 3]) (by simp [results, Try.results37, go_sem, t0, t1]) rfl ?_
  exact ⟨rfl, bf⟩
set_option maxRecDepth 100000 in
set_option maxHeartbeats 2000000 in
theorem rfeed_ok (A : Option Addr) (n c : Nat) (l : List UInt8) (A2 : Option Addr) (m c2 : Nat) (l2 : List UInt8) (w : World) (r : Rd w w.heap.size A n c l) (r2 : Rd w w.heap.size A2 m c2 l2) (hm : n + m ≤ 65536) : Calls Try.prog 37 #[.agg #[.slice A n c, .bool false], .slice A2 m c2] w (RfOk (n + m) (l ++ l2) w) := by
  have k1 := (Blk.new w #[.slice A n c, .bool false] 47).alloc (.cells #[.slice none 0 0, .bool false] 47)
  have k2 := Blk.new (w.alloc (.cells #[.slice A n c, .bool false] 47)) #[.slice none 0 0, .bool false] 47
  have b := below_a1' (below_a1' (Below.refl w.heap.size w) (.cells #[.slice A n c, .bool false] 47)) (.cells #[.slice none 0 0, .bool false] 47)
  rw [World.size_alloc] at k2
  have e1 : IntKind.i64.wrap ((n : Int) + (m : Int)) = (n : Int) + (m : Int) := IntWalk.i64_in _ (by omega)
  have e2 : ((65536 : Int) < (n : Int) + (m : Int)) = False := eq_false (by omega)
  have HM := Lib.hid hm
  clear hm
  go_enter Try.func37, Try.ntmps37
  go_upto_region 1 with fail
  generalize (w.alloc (.cells #[.slice A n c, .bool false] 47)).alloc (.cells #[.slice none 0 0, .bool false] 47) = W0 at k1 k2 b ⊢
  obtain ⟨z0, z1⟩ := box2 k1
  go_upto_region 5 with fail
  have hw0 := k2.lt
  have z0' : (W0.alloc (.cells #[] 5)).cell? ⟨w.heap.size, 0, none⟩ = some (.slice A n c) := (box2 (k1.alloc _)).1
  have o0 : Own (W0.alloc (.cells #[] 5)) (w.heap.size + 2) (some ⟨W0.heap.size, 0, none⟩) 0 0 [] := Own.emptyK W0 _ _ rfl hw0
  have k1a := k1.alloc (.cells #[] 5)
  have k2a := k2.alloc (.cells #[] 5)
  have ba := below_a1' b (.cells #[] 5)
  have ra := (r.below ba).more ba.size
  go_wp2_with (at_builtin; refine wpList_app8 _ rfl _ _ rfl (w.heap.size + 2) (some ⟨W0.heap.size, 0, none⟩) 0 0 [] rfl o0 _ A n c l rfl ra (by have := HM.out; omega) (by rw [World.size_alloc]; omega) ?_)
  intro A3 c3 w3 o3 b3
  have k1b : Blk w3 w.heap.size #[.slice A n c, .bool false] 47 := (b3.block _ (by omega)).trans k1a
  have k2b : Blk w3 (w.heap.size + 1) #[.slice none 0 0, .bool false] 47 := (b3.block _ (by omega)).trans k2a
  have bb := ba.trans (b3.mono (by omega))
  clear k1 k1a k2 k2a ba b3 ra o0 z0 z1 z0' b
  have rb := (r2.below bb).more bb.size
  have hw3 := k2b.lt
  go_wp2_with (at_builtin; refine wpList_app8 _ rfl _ _ rfl (w.heap.size + 2) A3 n c3 l rfl o3 _ A2 m c2 l2 rfl rb (by have := HM.out; omega) (by omega) ?_)
  intro A4 c4 w4 o4 b4
  have k1 : Blk w4 w.heap.size #[.slice A n c, .bool false] 47 := (b4.block _ (by omega)).trans k1b
  have k2 : Blk w4 (w.heap.size + 1) #[.slice none 0 0, .bool false] 47 := (b4.block _ (by omega)).trans k2b
  have b := bb.trans (b4.mono (by omega))
  clear k1b k2b bb b4 o3 rb
  obtain ⟨z0, z1⟩ := box2 k1
  have x0 := k1.frozen 0
  go_upto_region 6 with fail
  have gq := rdr_grown_set w4 w.heap.size 0 (.slice A4 (n + m) c4)
  have k1' : Blk (w4.setCell ⟨w.heap.size, 0, none⟩ (.slice A4 (n + m) c4)) w.heap.size #[.slice A4 (n + m) c4, .bool false] 47 := k1.set_ 0 _
  replace k2 := k2.leftC gq (by omega)
  replace o4 := o4.kept gq (by omega)
  replace b := b.trans (below_grown gq (Nat.le_refl _) k1.lt)
  clear gq k1 z0 z1 x0
  generalize w4.setCell ⟨w.heap.size, 0, none⟩ (.slice A4 (n + m) c4) = W5 at k1' k2 o4 b ⊢
  obtain ⟨z0, z1⟩ := box2 k1'
  obtain ⟨u0, u1⟩ := box2 k2
  have y0 := k2.frozen 0
  have y1 := k2.frozen 1
  have kf := blk_set2 k2 (.slice A4 (n + m) c4) (.bool false)
  have gs := grown_set2 W5 (w.heap.size + 1) (.slice A4 (n + m) c4) (.bool false)
  have bf := b.trans (below_grown gs (by omega) k2.lt)
  have of := (o4.kept gs (by omega)).more (B' := w.heap.size) (by omega)
  obtain ⟨t0, t1⟩ := box2 kf
  clear kf gs b k1' k2 o4
  go_wp2_with fail
  refine bodyPost_ret (v := .tuple #[.agg #[.slice A4 (n + m) c4, .bool false], .int .i64 0]) (by simp [results, Try.results37, go_sem, t0, t1]) rfl ?_
  exact ⟨A4, c4, rfl, of, bf⟩
end
section
open Go.RowKit

/-- Bytes that may be written over, in a block from B on and below U. -/
def Wr (w : World) (B U : Nat) (A : Option Addr) (n : Nat) : Prop := n = 0 ∨ ∃ (g : Nat) (cs : Array Value), A = some ⟨g, 0, none⟩ ∧ B ≤ g ∧ g < U ∧ w.heap[g]? = some (.cells cs 5 (0, 0)) ∧ n ≤ cs.size
theorem Own.wr {w : World} {B n c : Nat} {A : Option Addr} {l : List UInt8} (h : Own w B A n c l) : Wr w B w.heap.size A n := by
  rcases h.2 with ⟨-, h0⟩ | ⟨g, cap, cur, hv, hg, hh, hnc, hcm, hcs, ht⟩
  · exact .inl h0
  · injection hv with e1 e2 e3
    subst e1
    exact .inr ⟨g, cur, rfl, hg, (Array.getElem?_eq_some_iff.1 hh).1, hh, by rw [hcs]; omega⟩
theorem Wr.set {w : World} {B U n : Nat} {A : Option Addr} (h : Wr w B U A n) (g' i : Nat) (u : Value) : Wr (w.setCell ⟨g', i, none⟩ u) B U A n := by
  rcases h with h | ⟨g, cs, hA, hB, hU, hh, hn⟩
  · exact .inl h
  · refine .inr ?_
    by_cases e : g = g'
    · subst e
      exact ⟨g, _, hA, hB, hU, heap_setCell_same w g i _ _ _ hh, by rw [Array.size_setIfInBounds]; exact hn⟩
    · exact ⟨g, cs, hA, hB, hU, (Below.heap_setCell w ⟨g', i, none⟩ u g e).trans hh, hn⟩
theorem Wr.alloc {w : World} {B U n : Nat} {A : Option Addr} (h : Wr w B U A n) (o : Obj) : Wr (w.alloc o) B U A n := by
  rcases h with h | ⟨g, cs, hA, hB, hU, hh, hn⟩
  · exact .inl h
  · exact .inr ⟨g, cs, hA, hB, hU, (Below.heap_alloc w o g (Array.getElem?_eq_some_iff.1 hh).1).trans hh, hn⟩
theorem Wr.at_ {w : World} {B U n : Nat} {A : Option Addr} (h : Wr w B U A n) {i : Nat} (hi : i < n) : ∃ (g : Nat) (v : Value), A = some ⟨g, 0, none⟩ ∧ B ≤ g ∧ g < U ∧ g < w.heap.size ∧ w.cell? ⟨g, i, none⟩ = some v ∧ w.frozen? ⟨g, i, none⟩ = false := by
  rcases h with h | ⟨g, cs, hA, hB, hU, hh, hn⟩
  · omega
  · exact ⟨g, cs[i]'(by omega), hA, hB, hU, (Array.getElem?_eq_some_iff.1 hh).1, by rw [cell_of_row w g i cs _ (0, 0) hh]; exact Array.getElem?_eq_getElem (by omega), frozen_of_row w g i _ _ hh⟩
theorem below_set {B : Nat} {w w' : World} (h : Below B w w') {g : Nat} (hg : B ≤ g) (hlt : g < w'.heap.size) (i : Nat) (u : Value) : Below B w (w'.setCell ⟨g, i, none⟩ u) := h.trans (below_grown (rdr_grown_set w' g i u) hg hlt)
set_option maxRecDepth 100000 in
set_option maxHeartbeats 4000000 in
theorem spoil_any (op : Int) (qt fu : Bool) (bad : Int) (oq fl ex cs dl ini : Nat) (K V : Option Addr) (nk ck nv cv : Nat) (w : World) (B : Nat) (hB : B ≤ w.heap.size) (hK : Wr w B w.heap.size K nk) (hV : Wr w B w.heap.size V nv) (hnk : nk ≤ 9223372036854775800) (hnv : nv ≤ 9223372036854775800) :
    Calls Try.prog 57 #[reqV op qt fu bad oq (.slice K nk ck) (.slice V nv cv) fl ex cs dl ini] w fun e w' => e = .returned (.tuple #[]) ∧ Below B w w' := by
  have HNK := Lib.hid hnk
  have HNV := Lib.hid hnv
  clear hnk hnv
  have k1 := Blk.new w #[.int .i64 op, .bool qt, .bool fu, .int .i64 bad, .int .u32 (oq : Nat), .slice K nk ck, .slice V nv cv, .int .u32 (fl : Nat), .int .u32 (ex : Nat), .int .u64 (cs : Nat), .int .u64 (dl : Nat), .int .u64 (ini : Nat)] 26
  have b : Below B w (w.alloc (.cells #[.int .i64 op, .bool qt, .bool fu, .int .i64 bad, .int .u32 (oq : Nat), .slice K nk ck, .slice V nv cv, .int .u32 (fl : Nat), .int .u32 (ex : Nat), .int .u64 (cs : Nat), .int .u64 (dl : Nat), .int .u64 (ini : Nat)] 26)) := below_a1 (Below.refl _ _) hB _
  have hK := hK.alloc (.cells #[.int .i64 op, .bool qt, .bool fu, .int .i64 bad, .int .u32 (oq : Nat), .slice K nk ck, .slice V nv cv, .int .u32 (fl : Nat), .int .u32 (ex : Nat), .int .u64 (cs : Nat), .int .u64 (dl : Nat), .int .u64 (ini : Nat)] 26)
  have hV := hV.alloc (.cells #[.int .i64 op, .bool qt, .bool fu, .int .i64 bad, .int .u32 (oq : Nat), .slice K nk ck, .slice V nv cv, .int .u32 (fl : Nat), .int .u32 (ex : Nat), .int .u64 (cs : Nat), .int .u64 (dl : Nat), .int .u64 (ini : Nat)] 26)
  unfold reqV
  go_enter Try.func57, Try.ntmps57
  go_upto_region 1 with fail
  generalize w.alloc (.cells #[.int .i64 op, .bool qt, .bool fu, .int .i64 bad, .int .u32 (oq : Nat), .slice K nk ck, .slice V nv cv, .int .u32 (fl : Nat), .int .u32 (ex : Nat), .int .u64 (cs : Nat), .int .u64 (dl : Nat), .int .u64 (ini : Nat)] 26) = W0 at k1 b hK hV ⊢
  generalize hg1 : w.heap.size = g1 at k1 hK hV hB ⊢
  have HG1 := Lib.hid hg1
  clear hg1
  obtain ⟨z0, z1, z2, z3, z4, z5, z6, -⟩ := box12 k1
  go_wp2_with fail
  clear z0 z1 z2 z3 z4 z5 z6
  go_loopw [2, 7] (fun y i wr => ∃ j : Nat, j ≤ nk ∧ i = .int .i64 (j : Nat) ∧ Wr wr B g1 K nk ∧ Wr wr B g1 V nv ∧ Blk wr g1 #[.int .i64 op, .bool qt, .bool fu, .int .i64 bad, .int .u32 (oq : Nat), .slice K nk ck, .slice V nv cv, .int .u32 (fl : Nat), .int .u32 (ex : Nat), .int .u64 (cs : Nat), .int .u64 (dl : Nat), .int .u64 (ini : Nat)] 26 ∧ Below B w wr) (fun _ i _ => nk - (intOf i).toNat)
  case atStart => exact ⟨0, Nat.zero_le _, rfl, hK, hV, k1, b⟩
  case round =>
    clear hK hV k1 b
    obtain ⟨j, hj, rfl, hK, hV, k1, b⟩ := hrel
    obtain ⟨z0, z1, z2, z3, z4, z5, z6, -⟩ := box12 k1
    by_cases hlt : j < nk
    · obtain ⟨g, v, hA, hBg, hU, hl, hc, hf⟩ := hK.at_ hlt
      subst hA
      have hlt' : ((j : Int) < (nk : Int)) = True := eq_true (by omega)
      have HLT : Hid (j + 1 ≤ nk) := Lib.hid (by omega)
      have HJP : IntKind.i64.wrap ((j : Int) + 1) = (j : Int) + 1 := IntWalk.i64_in _ (by have := HNK.out; omega)
      have HR := Lib.hid (And.intro (hK.set g j (.int .u8 238)) (And.intro (hV.set g j (.int .u8 238)) (And.intro (k1.far (p := ⟨g, j, none⟩) (show g1 ≠ g by omega) (.int .u8 238)) (below_set b hBg hl j (.int .u8 238)))))
      clear hlt hK hV k1 b
      go_wp2_with fail
      go_roundw
      case rel => exact ⟨j + 1, HLT.out, by first | rfl | go_num, HR.out.1, HR.out.2.1, HR.out.2.2.1, HR.out.2.2.2⟩
      case measure => have := HLT.out; simp [intOf]; omega
    · have hlt' : ((j : Int) < (nk : Int)) = False := eq_false (by omega)
      clear hlt hK
      go_wp2_with fail
      clear z0 z1 z2 z3 z4 z5 z6
      go_loopw [3, 18] (fun y i wr => ∃ j : Nat, j ≤ nv ∧ i = .int .i64 (j : Nat) ∧ Wr wr B g1 V nv ∧ Blk wr g1 #[.int .i64 op, .bool qt, .bool fu, .int .i64 bad, .int .u32 (oq : Nat), .slice K nk ck, .slice V nv cv, .int .u32 (fl : Nat), .int .u32 (ex : Nat), .int .u64 (cs : Nat), .int .u64 (dl : Nat), .int .u64 (ini : Nat)] 26 ∧ Below B w wr) (fun _ i _ => nv - (intOf i).toNat)
      case atStart => exact ⟨0, Nat.zero_le _, rfl, hV, k1, b⟩
      case round =>
        clear hV k1 b hj hlt'
        obtain ⟨j2, hj, rfl, hV, k1, b⟩ := hrel
        obtain ⟨z0, z1, z2, z3, z4, z5, z6, -⟩ := box12 k1
        by_cases hlt : j2 < nv
        · obtain ⟨g, v, hA, hBg, hU, hl, hc, hf⟩ := hV.at_ hlt
          subst hA
          have hlt' : ((j2 : Int) < (nv : Int)) = True := eq_true (by omega)
          have HLT : Hid (j2 + 1 ≤ nv) := Lib.hid (by omega)
          have HJP : IntKind.i64.wrap ((j2 : Int) + 1) = (j2 : Int) + 1 := IntWalk.i64_in _ (by have := HNV.out; omega)
          have HR := Lib.hid (And.intro (hV.set g j2 (.int .u8 238)) (And.intro (k1.far (p := ⟨g, j2, none⟩) (show g1 ≠ g by omega) (.int .u8 238)) (below_set b hBg hl j2 (.int .u8 238))))
          clear hlt hV k1 b
          go_wp2_with fail
          go_roundw
          case rel => exact ⟨j2 + 1, HLT.out, by first | rfl | go_num, HR.out.1, HR.out.2.1, HR.out.2.2⟩
          case measure => have := HLT.out; simp [intOf]; omega
        · have hlt' : ((j2 : Int) < (nv : Int)) = False := eq_false (by omega)
          clear hlt hV
          go_wp2_with fail
          go_end0
          exact ⟨rfl, b⟩
set_option maxRecDepth 100000 in
set_option maxHeartbeats 4000000 in
theorem rright20 (mg op kl el ty st bl oq cas : Nat) (hf : HdF mg op kl el ty st bl oq cas) (w : World) : Calls Try.prog 55 #[.agg #[.int .u8 (mg : Nat), .int .u8 (op : Nat), .int .u16 (kl : Nat), .int .u8 (el : Nat), .int .u8 (ty : Nat), .int .u16 (st : Nat), .int .u32 (bl : Nat), .int .u32 (oq : Nat), .int .u64 (cas : Nat)]] w (BoxQ' (.bool (rightB mg ty && (decide (kl + el ≤ bl) && decide (bl ≤ 2048)))) w) := by
  obtain ⟨f1, f2, f3, f4, f5, f6, f7, f8, f9⟩ := hf
  have k1 := Blk.new w #[.int .u8 (mg : Nat), .int .u8 (op : Nat), .int .u16 (kl : Nat), .int .u8 (el : Nat), .int .u8 (ty : Nat), .int .u16 (st : Nat), .int .u32 (bl : Nat), .int .u32 (oq : Nat), .int .u64 (cas : Nat)] 59
  have b := below_a1' (Below.refl w.heap.size w) (.cells #[.int .u8 (mg : Nat), .int .u8 (op : Nat), .int .u16 (kl : Nat), .int .u8 (el : Nat), .int .u8 (ty : Nat), .int .u16 (st : Nat), .int .u32 (bl : Nat), .int .u32 (oq : Nat), .int .u64 (cas : Nat)] 59)
  have w1 : IntKind.i64.wrap ((kl : Nat) : Int) = (kl : Nat) := IntWalk.i64_in _ (by omega)
  have w2 : IntKind.i64.wrap ((el : Nat) : Int) = (el : Nat) := IntWalk.i64_in _ (by omega)
  have w3 : IntKind.i64.wrap ((bl : Nat) : Int) = (bl : Nat) := IntWalk.i64_in _ (by omega)
  have w4 : IntKind.i64.wrap ((kl : Int) + (el : Int)) = (kl : Int) + (el : Int) := IntWalk.i64_in _ (by omega)
  have HE : Hid (∀ x, x = (rightB mg ty && (decide (kl + el ≤ bl) && decide (bl ≤ 2048))) → BoxQ' (.bool (rightB mg ty && (decide (kl + el ≤ bl) && decide (bl ≤ 2048)))) w (.returned (.bool x)) (w.alloc (.cells #[.int .u8 (mg : Nat), .int .u8 (op : Nat), .int .u16 (kl : Nat), .int .u8 (el : Nat), .int .u8 (ty : Nat), .int .u16 (st : Nat), .int .u32 (bl : Nat), .int .u32 (oq : Nat), .int .u64 (cas : Nat)] 59))) := Lib.hid fun x hx => ⟨by rw [hx], b⟩
  generalize BoxQ' (.bool (rightB mg ty && (decide (kl + el ≤ bl) && decide (bl ≤ 2048)))) w = QQ at HE ⊢
  clear f1 f2 f3 f4 f5 f6 f7 f8 f9 b
  go_enter Try.func55, Try.ntmps55
  go_upto_region 1 with fail
  generalize w.alloc (.cells #[.int .u8 (mg : Nat), .int .u8 (op : Nat), .int .u16 (kl : Nat), .int .u8 (el : Nat), .int .u8 (ty : Nat), .int .u16 (st : Nat), .int .u32 (bl : Nat), .int .u32 (oq : Nat), .int .u64 (cas : Nat)] 59) = W0 at k1 HE ⊢
  obtain ⟨z0, z1, z2, z3, z4, z5, z6, z7, z8⟩ := box9 k1
  by_cases h1 : mg = 128
  · have e1 : ((mg : Int) == 128) = true := beq_iff_eq.2 (by omega)
    by_cases h2 : ty = 0
    · have e2 : ((ty : Int) == 0) = true := beq_iff_eq.2 (by omega)
      by_cases h3 : kl + el ≤ bl
      · have e3 : ((kl : Int) + (el : Int) ≤ (bl : Int)) = True := eq_true (by omega)
        have HX : Hid (decide ((bl : Int) ≤ 2048) = (rightB mg ty && (decide (kl + el ≤ bl) && decide (bl ≤ 2048)))) := Lib.hid (by
          have e : decide ((bl : Int) ≤ 2048) = decide (bl ≤ 2048) := decide_eq_decide.2 (by omega)
          rw [e, decide_eq_true h3, h1, h2]
          unfold rightB
          simp)
        clear h1 h2 h3
        go_wp2_with fail
        exact HE.out _ HX.out
      · have e3 : ((kl : Int) + (el : Int) ≤ (bl : Int)) = False := eq_false (by omega)
        have HX : Hid (false = (rightB mg ty && (decide (kl + el ≤ bl) && decide (bl ≤ 2048)))) := Lib.hid (by rw [decide_eq_false h3, Bool.false_and, Bool.and_false])
        clear h1 h2 h3
        go_wp2_with fail
        exact HE.out _ HX.out
    · have e2 : ((ty : Int) == 0) = false := beq_eq_false_iff_ne.2 (by omega)
      have HX : Hid (false = (rightB mg ty && (decide (kl + el ≤ bl) && decide (bl ≤ 2048)))) := Lib.hid (by unfold rightB; rw [beq_eq_false_iff_ne.2 h2, Bool.and_false, Bool.false_and])
      clear h1 h2
      go_wp2_with fail
      exact HE.out _ HX.out
  · have e1 : ((mg : Int) == 128) = false := beq_eq_false_iff_ne.2 (by omega)
    have HX : Hid (false = (rightB mg ty && (decide (kl + el ≤ bl) && decide (bl ≤ 2048)))) := Lib.hid (by unfold rightB; rw [beq_eq_false_iff_ne.2 h1, Bool.false_and, Bool.false_and])
    clear h1
    go_wp2_with fail
    exact HE.out _ HX.out
end
section
open Go.RowKit

/-- What Next does: none, it breaks; some none, it waits; else a request, and how many bytes it takes. -/
def nxt (l : List UInt8) : Option (Option (RQ × Nat)) :=
  if needE l = 9 then some none
  else if needE l ≠ 0 ∨ rightB (fld l 0 1) (fld l 5 1) = false then none
  else if l.length < needN l then some none
  else some (some (reqO (fld l 1 1) (fld l 12 4) (fld l 16 8) (fxB l) (fkB l) (fvB l), needN l))
theorem nxt_no {l : List UInt8} (h : nxt l = some none) : needE l = 9 ∨ (needE l = 0 ∧ rightB (fld l 0 1) (fld l 5 1) = true ∧ l.length < needN l) := by
  unfold nxt at h
  split at h
  · exact .inl (by assumption)
  · split at h
    · cases h
    · rename_i h1 h2
      rw [not_or] at h2
      split at h
      · rename_i h3
        exact .inr ⟨by simpa using h2.1, by simpa using h2.2, h3⟩
      · cases h
theorem nxt_bad {l : List UInt8} (h : nxt l = none) : needE l = 290 ∨ needE l = 3 ∨ (needE l = 0 ∧ rightB (fld l 0 1) (fld l 5 1) = false) := by
  unfold nxt at h
  split at h
  · cases h
  · split at h
    · rename_i h1 h2
      rcases needE_cases l with h' | h' | h' | h'
      · exact absurd h' h1
      · exact .inl h'
      · exact .inr (.inl h')
      · rcases h2 with h2 | h2
        · exact absurd h' h2
        · exact .inr (.inr ⟨h', h2⟩)
    · split at h <;> cases h
theorem nxt_yes {l : List UInt8} {q : RQ} {N : Nat} (h : nxt l = some (some (q, N))) : needE l = 0 ∧ rightB (fld l 0 1) (fld l 5 1) = true ∧ needN l ≤ l.length ∧ q = reqO (fld l 1 1) (fld l 12 4) (fld l 16 8) (fxB l) (fkB l) (fvB l) ∧ N = needN l := by
  unfold nxt at h
  split at h
  · cases h
  · split at h
    · cases h
    · rename_i h1 h2
      rw [not_or] at h2
      split at h
      · cases h
      · rename_i h3
        injection h with h
        injection h with h
        injection h with h4 h5
        exact ⟨by simpa using h2.1, by simpa using h2.2, by omega, h4.symm, h5.symm⟩
theorem nxt_yes' {l : List UInt8} (h1 : needE l = 0) (h2 : rightB (fld l 0 1) (fld l 5 1) = true) (h3 : needN l ≤ l.length) : nxt l = some (some (reqO (fld l 1 1) (fld l 12 4) (fld l 16 8) (fxB l) (fkB l) (fvB l), needN l)) := by
  unfold nxt
  rw [if_neg (by rw [h1]; decide), if_neg (by rw [h1, h2]; simp), if_neg (by omega)]
theorem nxt_bad' {l : List UInt8} (h : needE l = 290 ∨ needE l = 3 ∨ (needE l = 0 ∧ rightB (fld l 0 1) (fld l 5 1) = false)) : nxt l = none := by
  unfold nxt
  rcases h with h | h | ⟨h, h'⟩
  · rw [if_neg (by rw [h]; decide), if_pos (.inl (by rw [h]; decide))]
  · rw [if_neg (by rw [h]; decide), if_pos (.inl (by rw [h]; decide))]
  · rw [if_neg (by rw [h]; decide), if_pos (.inr h')]
theorem need_00 {l : List UInt8} (h : needE l = 0) : 24 ≤ l.length ∧ mayB (fld l 0 1) (fld l 2 2) (fld l 4 1) (fld l 8 4) = true ∧ fld l 8 4 ≤ 2048 := by
  unfold needE at h
  split at h
  · cases h
  · rename_i h1
    split at h
    · rename_i h2
      split at h
      · cases h
      · exact ⟨by omega, h2, by omega⟩
    · cases h
theorem need_24 {l : List UInt8} (h : needE l ≠ 9) : 24 ≤ l.length := by
  rcases needE_cases l with h' | h' | h' | h'
  · exact absurd h' h
  · exact (need_290 h').1
  · exact (need_3 h').1
  · exact (need_00 h').1
theorem app_take (l x : List UInt8) : (l ++ x).take l.length = l := List.take_left
theorem fld_app {l : List UInt8} (x : List UInt8) {o k : Nat} (h : o + k ≤ l.length) : fld (l ++ x) o k = fld l o k := by
  have := fld_take (l := l ++ x) h
  rw [app_take] at this
  exact this.symm
theorem needE_app {l : List UInt8} (x : List UInt8) (h : 24 ≤ l.length) : needE (l ++ x) = needE l := by
  have := needE_take (l := l ++ x) (N := l.length) h (by rw [List.length_append]; omega)
  rw [app_take] at this
  exact this.symm
theorem mayB_sum {mg kl el bl : Nat} (h : mayB mg kl el bl = true) : kl + el ≤ bl := by
  unfold mayB at h
  exact of_decide_eq_true (Bool.and_eq_true_iff.1 h).2
theorem nxt_app {l : List UInt8} {q : RQ} {N : Nat} (h : nxt l = some (some (q, N))) (x : List UInt8) : nxt (l ++ x) = some (some (q, N)) := by
  obtain ⟨h1, h2, h3, rfl, rfl⟩ := nxt_yes h
  obtain ⟨h4, h5, h6⟩ := need_00 h1
  have e1 : needE (l ++ x) = 0 := by rw [needE_app x h4, h1]
  have eN : needN l = 24 + fld l 8 4 := needN_of h1
  have eN' : needN (l ++ x) = needN l := by rw [needN_of e1, eN, fld_app x (by omega)]
  have hs := mayB_sum h5
  have t1 := lists_take (l := l) (N := needN l) eN hs
  have t2 := lists_take (l := l ++ x) (N := needN l) (by rw [eN, fld_app x (by omega)]) (by rw [fld_app x (by omega), fld_app x (by omega), fld_app x (by omega)]; exact hs)
  have et : (l ++ x).take (needN l) = l.take (needN l) := List.take_append_of_le_length h3
  rw [et] at t2
  rw [nxt_yes' e1 (by rw [fld_app x (by omega), fld_app x (by omega)]; exact h2) (by rw [eN', List.length_append]; omega)]
  rw [eN', fld_app x (by omega), fld_app x (by omega), fld_app x (by omega), ← t2.1, ← t2.2.1, ← t2.2.2, t1.1, t1.2.1, t1.2.2]
theorem nxt_app_bad {l : List UInt8} (h : nxt l = none) (x : List UInt8) : nxt (l ++ x) = none := by
  have h' := nxt_bad h
  have h4 : 24 ≤ l.length := need_24 (by
    rcases h' with h | h | h
    · rw [h]; decide
    · rw [h]; decide
    · rw [h.1]; decide)
  refine nxt_bad' ?_
  rw [needE_app x h4, fld_app x (by omega), fld_app x (by omega)]
  exact h'
theorem nxt_step {l : List UInt8} {q : RQ} {N : Nat} (h : nxt l = some (some (q, N))) : 24 ≤ N ∧ N ≤ l.length := by
  obtain ⟨h1, h2, h3, rfl, rfl⟩ := nxt_yes h
  have := needN_of h1
  omega
/-- All that is told: the requests, what is left, and whether it broke. -/
def tellF : Nat → List UInt8 → List RQ × List UInt8 × Bool
  | 0, l => ([], l, false)
  | k + 1, l => match nxt l with
    | none => ([], [], true)
    | some none => ([], l, false)
    | some (some p) => (p.1 :: (tellF k (l.drop p.2)).1, (tellF k (l.drop p.2)).2)
def tell (l : List UInt8) : List RQ × List UInt8 × Bool := tellF l.length l
theorem nxt_nil : nxt [] = some none := by
  unfold nxt
  rw [if_pos (by rfl)]
theorem tellF_len : ∀ (k : Nat) (l : List UInt8), l.length ≤ k → tellF k l = tell l
  | k, l, h => by
    unfold tell
    generalize hn : l.length = n at h
    induction n using Nat.strongRecOn generalizing k l with
    | ind n ih =>
      match k, n, h with
      | 0, 0, _ => rfl
      | k + 1, 0, _ =>
        have e : l = [] := List.eq_nil_of_length_eq_zero hn
        subst e
        unfold tellF
        rw [nxt_nil]
      | k + 1, m + 1, h =>
        unfold tellF
        cases hx : nxt l with
        | none => rfl
        | some o =>
          cases o with
          | none => rfl
          | some p =>
            obtain ⟨q, N⟩ := p
            have hs := nxt_step hx
            have hd : (l.drop N).length = l.length - N := List.length_drop
            simp only
            rw [ih (l.length - N) (by omega) k (l.drop N) hd (by omega), ih (l.length - N) (by omega) m (l.drop N) hd (by omega)]
theorem tell_no {l : List UInt8} (h : nxt l = some none) : tell l = ([], l, false) := by
  rw [← tellF_len (l.length + 1) l (by omega)]
  unfold tellF
  rw [h]
theorem tell_bad {l : List UInt8} (h : nxt l = none) : tell l = ([], [], true) := by
  rw [← tellF_len (l.length + 1) l (by omega)]
  unfold tellF
  rw [h]
theorem tell_yes {l : List UInt8} {q : RQ} {N : Nat} (h : nxt l = some (some (q, N))) : tell l = (q :: (tell (l.drop N)).1, (tell (l.drop N)).2) := by
  rw [← tellF_len (l.length + 1) l (by omega)]
  unfold tellF
  rw [h]
  simp only
  rw [tellF_len l.length (l.drop N) (by rw [List.length_drop]; omega)]
theorem tell_app {l : List UInt8} (h : (tell l).2.2 = false) (x : List UInt8) : tell (l ++ x) = ((tell l).1 ++ (tell ((tell l).2.1 ++ x)).1, (tell ((tell l).2.1 ++ x)).2) := by
  generalize hn : l.length = n
  induction n using Nat.strongRecOn generalizing l with
  | ind n ih =>
    cases hx : nxt l with
    | none => rw [tell_bad hx] at h; cases h
    | some o =>
      cases o with
      | none => rw [tell_no hx]; rfl
      | some p =>
        obtain ⟨q, N⟩ := p
        have hs := nxt_step hx
        rw [tell_yes hx] at h ⊢
        rw [tell_yes (nxt_app hx x), List.drop_append_of_le_length hs.2]
        have hi := ih (l.length - N) (by omega) (l := l.drop N) h List.length_drop
        rw [hi]
        rfl
theorem tell_app_bad {l : List UInt8} (h : (tell l).2.2 = true) (x : List UInt8) : tell (l ++ x) = tell l := by
  generalize hn : l.length = n
  induction n using Nat.strongRecOn generalizing l with
  | ind n ih =>
    cases hx : nxt l with
    | none => rw [tell_bad hx, tell_bad (nxt_app_bad hx x)]
    | some o =>
      cases o with
      | none => rw [tell_no hx] at h; cases h
      | some p =>
        obtain ⟨q, N⟩ := p
        have hs := nxt_step hx
        rw [tell_yes hx] at h ⊢
        rw [tell_yes (nxt_app hx x), List.drop_append_of_le_length hs.2]
        have hi := ih (l.length - N) (by omega) (l := l.drop N) h List.length_drop
        rw [hi]
theorem tell_broke {l : List UInt8} (h : (tell l).2.2 = true) : (tell l).2.1 = [] := by
  generalize hn : l.length = n
  induction n using Nat.strongRecOn generalizing l with
  | ind n ih =>
    cases hx : nxt l with
    | none => rw [tell_bad hx]
    | some o =>
      cases o with
      | none => rw [tell_no hx] at h; cases h
      | some p =>
        obtain ⟨q, N⟩ := p
        have hs := nxt_step hx
        rw [tell_yes hx] at h ⊢
        exact ih (l.length - N) (by omega) (l := l.drop N) h List.length_drop
/-- Next, by what it does. -/
def NextYes (g N n : Nat) (A : Option Addr) (l : List UInt8) (q : RQ) (w : World) (e : Ending) (w' : World) : Prop := NextOk g N n A l q.op q.qt q.fu q.bd q.oq q.lk q.lv q.fl q.ex q.cs q.dl q.ni w e w'
theorem next_wait' (g n c : Nat) (A : Option Addr) (l : List UInt8) (w : World) (h : PrsA w g A n c l false) (hx : nxt l = some none) : Calls Try.prog 49 #[.pointer (some ⟨g, 0, none⟩)] w (NextNo 0 w) := by
  rcases nxt_no hx with h1 | ⟨h1, h2, h3⟩
  · exact next_short g n c A l w h h1
  · exact next_wait g n c A l w h h1 h2 (by rw [← h.2.len]; exact h3)
theorem next_bad' (g n c : Nat) (A : Option Addr) (l : List UInt8) (w : World) (h : PrsA w g A n c l false) (hx : nxt l = none) : Calls Try.prog 49 #[.pointer (some ⟨g, 0, none⟩)] w (NextBad g w) := by
  rcases nxt_bad hx with h1 | h1 | ⟨h1, h2⟩
  · exact next_bad_m g n c A l w h h1
  · exact next_bad_l g n c A l w h h1
  · exact next_bad_r g n c A l w h h1 h2
theorem next_yes' (g n c : Nat) (A : Option Addr) (l : List UInt8) (w : World) (h : PrsA w g A n c l false) (q : RQ) (N : Nat) (hx : nxt l = some (some (q, N))) : Calls Try.prog 49 #[.pointer (some ⟨g, 0, none⟩)] w (NextYes g N n A l q w) := by
  obtain ⟨h1, h2, h3, rfl, rfl⟩ := nxt_yes hx
  refine next_ok g n c A l w h h1 h2 (by rw [← h.2.len]; exact h3) _ _ _ _ _ _ _ _ _ _ _ _ (fun W X K V cx ck cv rX rK rV => ?_)
  exact preq_any _ (fld l 1 1) _ _ _ _ _ _ _ X K V _ cx _ ck _ cv _ _ _ W rX rK rV (fld_lt l 1 1)
end
section
open Go.RowKit

/-- What Next answers where it tells no request. -/
def RnNo (A : Option Addr) (n c : Nat) (br : Bool) (er : Int) (w : World) (e : Ending) (w' : World) : Prop := e = .returned (.tuple #[.agg #[.slice A n c, .bool br], .agg #[.int .i64 0, .bool false, .bool false, .int .i64 0, .int .u32 0, .slice none 0 0, .slice none 0 0, .int .u32 0, .int .u32 0, .int .u64 0, .int .u64 0, .int .u64 0], .bool false, .int .i64 er]) ∧ Below w.heap.size w w'
def RnYes (N n : Nat) (l : List UInt8) (q : RQ) (w : World) (e : Ending) (w' : World) : Prop := ∃ (K2 V2 : Option Addr) (nk2 ck2 nv2 cv2 : Nat) (X3 : Option Addr) (cx3 : Nat), e = .returned (.tuple #[.agg #[.slice X3 (n - N) cx3, .bool false], .agg #[.int .i64 q.op, .bool q.qt, .bool q.fu, .int .i64 q.bd, .int .u32 (q.oq : Nat), .slice K2 nk2 ck2, .slice V2 nv2 cv2, .int .u32 (q.fl : Nat), .int .u32 (q.ex : Nat), .int .u64 (q.cs : Nat), .int .u64 (q.dl : Nat), .int .u64 (q.ni : Nat)], .bool true, .int .i64 0]) ∧ Own w' w.heap.size X3 (n - N) cx3 (l.drop N) ∧ Own w' w.heap.size K2 nk2 ck2 q.lk ∧ Own w' w.heap.size V2 nv2 cv2 q.lv ∧ Below w.heap.size w w'
/-- Is a header right by the document? -/
def rgtV (l : List UInt8) : Bool := rightB (fld l 0 1) (fld l 5 1) && (decide (fld l 2 2 + fld l 4 1 ≤ fld l 8 4) && decide (fld l 8 4 ≤ 2048))
theorem rgt_yes {l : List UInt8} : rgtV l = true ↔ rightB (fld l 0 1) (fld l 5 1) = true ∧ fld l 2 2 + fld l 4 1 ≤ fld l 8 4 ∧ fld l 8 4 ≤ 2048 := by
  unfold rgtV
  rw [Bool.and_eq_true, Bool.and_eq_true, decide_eq_true_eq, decide_eq_true_eq]
theorem rgt_may {l : List UInt8} (h : rgtV l = true) : mayB (fld l 0 1) (fld l 2 2) (fld l 4 1) (fld l 8 4) = true := by
  obtain ⟨h1, h2, h3⟩ := rgt_yes.1 h
  unfold rightB at h1
  unfold mayB
  rw [(Bool.and_eq_true_iff.1 h1).1, Bool.true_or, Bool.true_and]
  exact decide_eq_true h2
theorem nx_none {l : List UInt8} (h : nxt l = none) : 24 ≤ l.length ∧ rgtV l = false := by
  have h24 : 24 ≤ l.length := need_24 (by
    rcases nxt_bad h with h | h | h
    · rw [h]; decide
    · rw [h]; decide
    · rw [h.1]; decide)
  refine ⟨h24, ?_⟩
  cases hr : rgtV l with
  | false => rfl
  | true =>
    exfalso
    have hm := rgt_may hr
    obtain ⟨h1, h2, h3⟩ := rgt_yes.1 hr
    have he : needE l = 0 := by unfold needE; rw [if_neg (by omega), if_pos hm, if_neg (by omega)]
    rcases nxt_bad h with h | h | h
    · rw [he] at h; cases h
    · rw [he] at h; cases h
    · rw [h1] at h; cases h.2
theorem nx_wait {l : List UInt8} (h : nxt l = some none) : l.length < 24 ∨ (24 ≤ l.length ∧ rgtV l = true ∧ l.length < 24 + fld l 8 4) := by
  rcases nxt_no h with h | ⟨h1, h2, h3⟩
  · left
    by_cases hl : l.length < 24
    · exact hl
    · exfalso
      unfold needE at h
      rw [if_neg hl] at h
      split at h
      · split at h <;> cases h
      · cases h
  · right
    obtain ⟨h4, h5, h6⟩ := need_00 h1
    exact ⟨h4, rgt_yes.2 ⟨h2, mayB_sum h5, h6⟩, by rw [← needN_of h1]; exact h3⟩
theorem nx_yes {l : List UInt8} {q : RQ} {N : Nat} (h : nxt l = some (some (q, N))) : 24 ≤ l.length ∧ rgtV l = true ∧ N = 24 + fld l 8 4 ∧ N ≤ l.length ∧ q = reqO (fld l 1 1) (fld l 12 4) (fld l 16 8) (fxB l) (fkB l) (fvB l) := by
  obtain ⟨h1, h2, h3, hq, hN⟩ := nxt_yes h
  obtain ⟨h4, h5, h6⟩ := need_00 h1
  exact ⟨h4, rgt_yes.2 ⟨h2, mayB_sum h5, h6⟩, by rw [hN, needN_of h1], by omega, hq⟩
/-- What the document's Request gives, written out. -/
def ReqN20 (q : RQ) (w : World) (e : Ending) (w' : World) : Prop := ∃ (K2 V2 : Option Addr) (nk2 ck2 nv2 cv2 : Nat), e = .returned (.agg #[.int .i64 q.op, .bool q.qt, .bool q.fu, .int .i64 q.bd, .int .u32 (q.oq : Nat), .slice K2 nk2 ck2, .slice V2 nv2 cv2, .int .u32 (q.fl : Nat), .int .u32 (q.ex : Nat), .int .u64 (q.cs : Nat), .int .u64 (q.dl : Nat), .int .u64 (q.ni : Nat)]) ∧ Own w' w.heap.size K2 nk2 ck2 q.lk ∧ Own w' w.heap.size V2 nv2 cv2 q.lv ∧ Below w.heap.size w w'
set_option maxRecDepth 100000 in
set_option maxHeartbeats 8000000 in
theorem rnext_broken (A : Option Addr) (n c : Nat) (w : World) : Calls Try.prog 84 #[.agg #[.slice A n c, .bool true]] w (RnNo A n c true 300 w) := by
  have k1 := ((Blk.new w #[.slice A n c, .bool true] 47).alloc (.cells #[.slice none 0 0, .bool false] 47)).alloc (.cells #[.int .i64 0, .bool false, .bool false, .int .i64 0, .int .u32 0, .slice none 0 0, .slice none 0 0, .int .u32 0, .int .u32 0, .int .u64 0, .int .u64 0, .int .u64 0] 26)
  have k2 := (Blk.new (w.alloc (.cells #[.slice A n c, .bool true] 47)) #[.slice none 0 0, .bool false] 47).alloc (.cells #[.int .i64 0, .bool false, .bool false, .int .i64 0, .int .u32 0, .slice none 0 0, .slice none 0 0, .int .u32 0, .int .u32 0, .int .u64 0, .int .u64 0, .int .u64 0] 26)
  have k3 := Blk.new ((w.alloc (.cells #[.slice A n c, .bool true] 47)).alloc (.cells #[.slice none 0 0, .bool false] 47)) #[.int .i64 0, .bool false, .bool false, .int .i64 0, .int .u32 0, .slice none 0 0, .slice none 0 0, .int .u32 0, .int .u32 0, .int .u64 0, .int .u64 0, .int .u64 0] 26
  have b := below_a1' (below_a1' (below_a1' (Below.refl w.heap.size w) (.cells #[.slice A n c, .bool true] 47)) (.cells #[.slice none 0 0, .bool false] 47)) (.cells #[.int .i64 0, .bool false, .bool false, .int .i64 0, .int .u32 0, .slice none 0 0, .slice none 0 0, .int .u32 0, .int .u32 0, .int .u64 0, .int .u64 0, .int .u64 0] 26)
  simp only [World.size_alloc] at k2 k3
  go_enter Try.func84, Try.ntmps84
  go_upto_region 1 with fail
  generalize ((w.alloc (.cells #[.slice A n c, .bool true] 47)).alloc (.cells #[.slice none 0 0, .bool false] 47)).alloc (.cells #[.int .i64 0, .bool false, .bool false, .int .i64 0, .int .u32 0, .slice none 0 0, .slice none 0 0, .int .u32 0, .int .u32 0, .int .u64 0, .int .u64 0, .int .u64 0] 26) = W0 at k1 k2 k3 b ⊢
  obtain ⟨p0, p1⟩ := box2 k1
  obtain ⟨u0, u1⟩ := box2 k2
  have y0 := k2.frozen 0
  have y1 := k2.frozen 1
  have kf2 := blk_set2 k2 (.slice A n c) (.bool true)
  have gs2 := grown_set2 W0 (w.heap.size + 1) (.slice A n c) (.bool true)
  have k3' := k3.leftC gs2 (by omega)
  obtain ⟨v0, v1, v2, v3, v4, v5, v6, v7, v8, v9, v10, v11⟩ := box12 k3'
  have x0 := k3'.frozen 0
  have x1 := k3'.frozen 1
  have x2 := k3'.frozen 2
  have x3 := k3'.frozen 3
  have x4 := k3'.frozen 4
  have x5 := k3'.frozen 5
  have x6 := k3'.frozen 6
  have x7 := k3'.frozen 7
  have x8 := k3'.frozen 8
  have x9 := k3'.frozen 9
  have x10 := k3'.frozen 10
  have x11 := k3'.frozen 11
  have kf3 := blk_set12 k3' (.int .i64 0) (.bool false) (.bool false) (.int .i64 0) (.int .u32 0) (.slice none 0 0) (.slice none 0 0) (.int .u32 0) (.int .u32 0) (.int .u64 0) (.int .u64 0) (.int .u64 0)
  have gs3 := grown_set12 ((W0.setCell ⟨w.heap.size + 1, 0, none⟩ (.slice A n c)).setCell ⟨w.heap.size + 1, 1, none⟩ (.bool true)) (w.heap.size + 2) (.int .i64 0) (.bool false) (.bool false) (.int .i64 0) (.int .u32 0) (.slice none 0 0) (.slice none 0 0) (.int .u32 0) (.int .u32 0) (.int .u64 0) (.int .u64 0) (.int .u64 0)
  have kf2' := kf2.leftC gs3 (by omega)
  have bf := (b.trans (below_grown gs2 (by omega) k2.lt)).trans (below_grown gs3 (by omega) k3'.lt)
  obtain ⟨t0, t1⟩ := box2 kf2'
  obtain ⟨s0, s1, s2, s3, s4, s5, s6, s7, s8, s9, s10, s11⟩ := box12 kf3
  clear kf2 gs2 k3' kf3 gs3 kf2' b k1 k2 k3
  go_wp2_with fail
  refine bodyPost_ret (v := .tuple #[.agg #[.slice A n c, .bool true], .agg #[.int .i64 0, .bool false, .bool false, .int .i64 0, .int .u32 0, .slice none 0 0, .slice none 0 0, .int .u32 0, .int .u32 0, .int .u64 0, .int .u64 0, .int .u64 0], .bool false, .int .i64 300]) (by simp [results, Try.results84, go_sem, t0, t1, s0, s1, s2, s3, s4, s5, s6, s7, s8, s9, s10, s11]) rfl ?_
  exact ⟨rfl, bf⟩
set_option maxRecDepth 100000 in
set_option maxHeartbeats 8000000 in
theorem rnext_short (A : Option Addr) (n c : Nat) (w : World) (hn : n < 24) : Calls Try.prog 84 #[.agg #[.slice A n c, .bool false]] w (RnNo A n c false 0 w) := by
  have e1 : ((n : Int) < 24) = True := eq_true (by omega)
  clear hn
  have k1 := ((Blk.new w #[.slice A n c, .bool false] 47).alloc (.cells #[.slice none 0 0, .bool false] 47)).alloc (.cells #[.int .i64 0, .bool false, .bool false, .int .i64 0, .int .u32 0, .slice none 0 0, .slice none 0 0, .int .u32 0, .int .u32 0, .int .u64 0, .int .u64 0, .int .u64 0] 26)
  have k2 := (Blk.new (w.alloc (.cells #[.slice A n c, .bool false] 47)) #[.slice none 0 0, .bool false] 47).alloc (.cells #[.int .i64 0, .bool false, .bool false, .int .i64 0, .int .u32 0, .slice none 0 0, .slice none 0 0, .int .u32 0, .int .u32 0, .int .u64 0, .int .u64 0, .int .u64 0] 26)
  have k3 := Blk.new ((w.alloc (.cells #[.slice A n c, .bool false] 47)).alloc (.cells #[.slice none 0 0, .bool false] 47)) #[.int .i64 0, .bool false, .bool false, .int .i64 0, .int .u32 0, .slice none 0 0, .slice none 0 0, .int .u32 0, .int .u32 0, .int .u64 0, .int .u64 0, .int .u64 0] 26
  have b := below_a1' (below_a1' (below_a1' (Below.refl w.heap.size w) (.cells #[.slice A n c, .bool false] 47)) (.cells #[.slice none 0 0, .bool false] 47)) (.cells #[.int .i64 0, .bool false, .bool false, .int .i64 0, .int .u32 0, .slice none 0 0, .slice none 0 0, .int .u32 0, .int .u32 0, .int .u64 0, .int .u64 0, .int .u64 0] 26)
  simp only [World.size_alloc] at k2 k3
  go_enter Try.func84, Try.ntmps84
  go_upto_region 1 with fail
  generalize ((w.alloc (.cells #[.slice A n c, .bool false] 47)).alloc (.cells #[.slice none 0 0, .bool false] 47)).alloc (.cells #[.int .i64 0, .bool false, .bool false, .int .i64 0, .int .u32 0, .slice none 0 0, .slice none 0 0, .int .u32 0, .int .u32 0, .int .u64 0, .int .u64 0, .int .u64 0] 26) = W0 at k1 k2 k3 b ⊢
  obtain ⟨p0, p1⟩ := box2 k1
  obtain ⟨u0, u1⟩ := box2 k2
  have y0 := k2.frozen 0
  have y1 := k2.frozen 1
  have kf2 := blk_set2 k2 (.slice A n c) (.bool false)
  have gs2 := grown_set2 W0 (w.heap.size + 1) (.slice A n c) (.bool false)
  have k3' := k3.leftC gs2 (by omega)
  obtain ⟨v0, v1, v2, v3, v4, v5, v6, v7, v8, v9, v10, v11⟩ := box12 k3'
  have x0 := k3'.frozen 0
  have x1 := k3'.frozen 1
  have x2 := k3'.frozen 2
  have x3 := k3'.frozen 3
  have x4 := k3'.frozen 4
  have x5 := k3'.frozen 5
  have x6 := k3'.frozen 6
  have x7 := k3'.frozen 7
  have x8 := k3'.frozen 8
  have x9 := k3'.frozen 9
  have x10 := k3'.frozen 10
  have x11 := k3'.frozen 11
  have kf3 := blk_set12 k3' (.int .i64 0) (.bool false) (.bool false) (.int .i64 0) (.int .u32 0) (.slice none 0 0) (.slice none 0 0) (.int .u32 0) (.int .u32 0) (.int .u64 0) (.int .u64 0) (.int .u64 0)
  have gs3 := grown_set12 ((W0.setCell ⟨w.heap.size + 1, 0, none⟩ (.slice A n c)).setCell ⟨w.heap.size + 1, 1, none⟩ (.bool false)) (w.heap.size + 2) (.int .i64 0) (.bool false) (.bool false) (.int .i64 0) (.int .u32 0) (.slice none 0 0) (.slice none 0 0) (.int .u32 0) (.int .u32 0) (.int .u64 0) (.int .u64 0) (.int .u64 0)
  have kf2' := kf2.leftC gs3 (by omega)
  have bf := (b.trans (below_grown gs2 (by omega) k2.lt)).trans (below_grown gs3 (by omega) k3'.lt)
  obtain ⟨t0, t1⟩ := box2 kf2'
  obtain ⟨s0, s1, s2, s3, s4, s5, s6, s7, s8, s9, s10, s11⟩ := box12 kf3
  clear kf2 gs2 k3' kf3 gs3 kf2' b k1 k2 k3
  go_wp2_with fail
  refine bodyPost_ret (v := .tuple #[.agg #[.slice A n c, .bool false], .agg #[.int .i64 0, .bool false, .bool false, .int .i64 0, .int .u32 0, .slice none 0 0, .slice none 0 0, .int .u32 0, .int .u32 0, .int .u64 0, .int .u64 0, .int .u64 0], .bool false, .int .i64 0]) (by simp [results, Try.results84, go_sem, t0, t1, s0, s1, s2, s3, s4, s5, s6, s7, s8, s9, s10, s11]) rfl ?_
  exact ⟨rfl, bf⟩
set_option maxRecDepth 100000 in
set_option maxHeartbeats 8000000 in
theorem rnext_bad (A : Option Addr) (n c : Nat) (l : List UInt8) (w : World) (r : Rd w w.heap.size A n c l) (hn : 24 ≤ n) (hr : rgtV l = false) : Calls Try.prog 84 #[.agg #[.slice A n c, .bool false]] w (RnNo none 0 0 true 300 w) := by
  have e24 : ((n : Int) < 24) = False := eq_false (by omega)
  have hF := hdF_of l
  unfold rgtV at hr
  obtain ⟨mg, hmg⟩ : ∃ x, x = fld l 0 1 := ⟨_, rfl⟩
  obtain ⟨op, hop⟩ : ∃ x, x = fld l 1 1 := ⟨_, rfl⟩
  obtain ⟨kl, hkl⟩ : ∃ x, x = fld l 2 2 := ⟨_, rfl⟩
  obtain ⟨el, hel⟩ : ∃ x, x = fld l 4 1 := ⟨_, rfl⟩
  obtain ⟨ty, hty⟩ : ∃ x, x = fld l 5 1 := ⟨_, rfl⟩
  obtain ⟨st, hst⟩ : ∃ x, x = fld l 6 2 := ⟨_, rfl⟩
  obtain ⟨bl, hbl⟩ : ∃ x, x = fld l 8 4 := ⟨_, rfl⟩
  obtain ⟨oq, hoq⟩ : ∃ x, x = fld l 12 4 := ⟨_, rfl⟩
  obtain ⟨cas, hcas⟩ : ∃ x, x = fld l 16 8 := ⟨_, rfl⟩
  rw [← hmg, ← hop, ← hkl, ← hel, ← hty, ← hst, ← hbl, ← hoq, ← hcas] at hF
  rw [← hmg, ← hkl, ← hel, ← hty, ← hbl] at hr
  have HRD : Hid (∀ W, Below w.heap.size w W → Calls Try.prog 118 #[.slice A n c] W (BoxQ (.agg #[.int .u8 (mg : Nat), .int .u8 (op : Nat), .int .u16 (kl : Nat), .int .u8 (el : Nat), .int .u8 (ty : Nat), .int .u16 (st : Nat), .int .u32 (bl : Nat), .int .u32 (oq : Nat), .int .u64 (cas : Nat)]) W)) := Lib.hid (fun W b => by have h := read19_any A n c l W ((r.below b).more b.size) hn; rw [← hmg, ← hop, ← hkl, ← hel, ← hty, ← hst, ← hbl, ← hoq, ← hcas] at h; exact h)
  have HRG : Hid (∀ W, Calls Try.prog 55 #[.agg #[.int .u8 (mg : Nat), .int .u8 (op : Nat), .int .u16 (kl : Nat), .int .u8 (el : Nat), .int .u8 (ty : Nat), .int .u16 (st : Nat), .int .u32 (bl : Nat), .int .u32 (oq : Nat), .int .u64 (cas : Nat)]] W (BoxQ' (.bool false) W)) := Lib.hid (fun W => by have h := rright20 mg op kl el ty st bl oq cas hF W; rw [hr] at h; exact h)
  have HBL := Lib.hid hbl
  clear hr hF hmg hop hkl hel hty hst hbl hoq hcas hn
  have k1 := ((Blk.new w #[.slice A n c, .bool false] 47).alloc (.cells #[.slice none 0 0, .bool false] 47)).alloc (.cells #[.int .i64 0, .bool false, .bool false, .int .i64 0, .int .u32 0, .slice none 0 0, .slice none 0 0, .int .u32 0, .int .u32 0, .int .u64 0, .int .u64 0, .int .u64 0] 26)
  have k2 := (Blk.new (w.alloc (.cells #[.slice A n c, .bool false] 47)) #[.slice none 0 0, .bool false] 47).alloc (.cells #[.int .i64 0, .bool false, .bool false, .int .i64 0, .int .u32 0, .slice none 0 0, .slice none 0 0, .int .u32 0, .int .u32 0, .int .u64 0, .int .u64 0, .int .u64 0] 26)
  have k3 := Blk.new ((w.alloc (.cells #[.slice A n c, .bool false] 47)).alloc (.cells #[.slice none 0 0, .bool false] 47)) #[.int .i64 0, .bool false, .bool false, .int .i64 0, .int .u32 0, .slice none 0 0, .slice none 0 0, .int .u32 0, .int .u32 0, .int .u64 0, .int .u64 0, .int .u64 0] 26
  have b := below_a1' (below_a1' (below_a1' (Below.refl w.heap.size w) (.cells #[.slice A n c, .bool false] 47)) (.cells #[.slice none 0 0, .bool false] 47)) (.cells #[.int .i64 0, .bool false, .bool false, .int .i64 0, .int .u32 0, .slice none 0 0, .slice none 0 0, .int .u32 0, .int .u32 0, .int .u64 0, .int .u64 0, .int .u64 0] 26)
  simp only [World.size_alloc] at k2 k3
  go_enter Try.func84, Try.ntmps84
  go_upto_region 1 with fail
  generalize ((w.alloc (.cells #[.slice A n c, .bool false] 47)).alloc (.cells #[.slice none 0 0, .bool false] 47)).alloc (.cells #[.int .i64 0, .bool false, .bool false, .int .i64 0, .int .u32 0, .slice none 0 0, .slice none 0 0, .int .u32 0, .int .u32 0, .int .u64 0, .int .u64 0, .int .u64 0] 26) = W0 at k1 k2 k3 b ⊢
  obtain ⟨p0, p1⟩ := box2 k1
  go_wp2_with fail
  refine (HRD.out W0 b).mono ?_
  rintro e w1 ⟨rfl, b1⟩
  replace k1 := k1.step b1
  replace k2 := k2.step b1
  replace k3 := k3.step b1
  replace b := below_step b b1
  clear b1 p0 p1
  go_upto_region 6 with fail
  have k6 := Blk.new w1 #[.int .u8 (mg : Nat), .int .u8 (op : Nat), .int .u16 (kl : Nat), .int .u8 (el : Nat), .int .u8 (ty : Nat), .int .u16 (st : Nat), .int .u32 (bl : Nat), .int .u32 (oq : Nat), .int .u64 (cas : Nat)] 59
  have ba := below_a1' (Below.refl w1.heap.size w1) (.cells #[.int .u8 (mg : Nat), .int .u8 (op : Nat), .int .u16 (kl : Nat), .int .u8 (el : Nat), .int .u8 (ty : Nat), .int .u16 (st : Nat), .int .u32 (bl : Nat), .int .u32 (oq : Nat), .int .u64 (cas : Nat)] 59)
  have hg6 := k3.lt
  replace k1 := k1.step ba
  replace k2 := k2.step ba
  replace k3 := k3.step ba
  replace b := below_step b ba
  clear ba
  generalize w1.alloc (.cells #[.int .u8 (mg : Nat), .int .u8 (op : Nat), .int .u16 (kl : Nat), .int .u8 (el : Nat), .int .u8 (ty : Nat), .int .u16 (st : Nat), .int .u32 (bl : Nat), .int .u32 (oq : Nat), .int .u64 (cas : Nat)] 59) = W2 at k1 k2 k3 k6 b ⊢
  generalize w1.heap.size = g6 at k6 hg6 ⊢
  obtain ⟨h0, h1, h2, h3, h4, h5, h6, h7, h8⟩ := box9 k6
  go_wp2_with fail
  refine (HRG.out W2).mono ?_
  rintro e w3 ⟨rfl, b1⟩
  replace k1 := k1.step b1
  replace k2 := k2.step b1
  replace k3 := k3.step b1
  replace k6 := k6.step b1
  replace b := below_step b b1
  clear b1 h0 h1 h2 h3 h4 h5 h6 h7 h8
  clear k6
  obtain ⟨u0, u1⟩ := box2 k2
  have y0 := k2.frozen 0
  have y1 := k2.frozen 1
  have kf2 := blk_set2 k2 (.slice none 0 0) (.bool true)
  have gs2 := grown_set2 w3 (w.heap.size + 1) (.slice none 0 0) (.bool true)
  have k3' := k3.leftC gs2 (by omega)
  obtain ⟨v0, v1, v2, v3, v4, v5, v6, v7, v8, v9, v10, v11⟩ := box12 k3'
  have x0 := k3'.frozen 0
  have x1 := k3'.frozen 1
  have x2 := k3'.frozen 2
  have x3 := k3'.frozen 3
  have x4 := k3'.frozen 4
  have x5 := k3'.frozen 5
  have x6 := k3'.frozen 6
  have x7 := k3'.frozen 7
  have x8 := k3'.frozen 8
  have x9 := k3'.frozen 9
  have x10 := k3'.frozen 10
  have x11 := k3'.frozen 11
  have kf3 := blk_set12 k3' (.int .i64 0) (.bool false) (.bool false) (.int .i64 0) (.int .u32 0) (.slice none 0 0) (.slice none 0 0) (.int .u32 0) (.int .u32 0) (.int .u64 0) (.int .u64 0) (.int .u64 0)
  have gs3 := grown_set12 ((w3.setCell ⟨w.heap.size + 1, 0, none⟩ (.slice none 0 0)).setCell ⟨w.heap.size + 1, 1, none⟩ (.bool true)) (w.heap.size + 2) (.int .i64 0) (.bool false) (.bool false) (.int .i64 0) (.int .u32 0) (.slice none 0 0) (.slice none 0 0) (.int .u32 0) (.int .u32 0) (.int .u64 0) (.int .u64 0) (.int .u64 0)
  have kf2' := kf2.leftC gs3 (by omega)
  have bf := (b.trans (below_grown gs2 (by omega) k2.lt)).trans (below_grown gs3 (by omega) k3'.lt)
  obtain ⟨t0, t1⟩ := box2 kf2'
  obtain ⟨s0, s1, s2, s3, s4, s5, s6, s7, s8, s9, s10, s11⟩ := box12 kf3
  clear kf2 gs2 k3' kf3 gs3 kf2' b k1 k2 k3
  go_wp2_with fail
  refine bodyPost_ret (v := .tuple #[.agg #[.slice none 0 0, .bool true], .agg #[.int .i64 0, .bool false, .bool false, .int .i64 0, .int .u32 0, .slice none 0 0, .slice none 0 0, .int .u32 0, .int .u32 0, .int .u64 0, .int .u64 0, .int .u64 0], .bool false, .int .i64 300]) (by simp [results, Try.results84, go_sem, t0, t1, s0, s1, s2, s3, s4, s5, s6, s7, s8, s9, s10, s11]) rfl ?_
  exact ⟨rfl, bf⟩
set_option maxRecDepth 100000 in
set_option maxHeartbeats 8000000 in
theorem rnext_wait (A : Option Addr) (n c : Nat) (l : List UInt8) (w : World) (r : Rd w w.heap.size A n c l) (hn : 24 ≤ n) (hr : rgtV l = true) (hN : n < 24 + fld l 8 4) : Calls Try.prog 84 #[.agg #[.slice A n c, .bool false]] w (RnNo A n c false 0 w) := by
  have e24 : ((n : Int) < 24) = False := eq_false (by omega)
  have hF := hdF_of l
  unfold rgtV at hr
  obtain ⟨mg, hmg⟩ : ∃ x, x = fld l 0 1 := ⟨_, rfl⟩
  obtain ⟨op, hop⟩ : ∃ x, x = fld l 1 1 := ⟨_, rfl⟩
  obtain ⟨kl, hkl⟩ : ∃ x, x = fld l 2 2 := ⟨_, rfl⟩
  obtain ⟨el, hel⟩ : ∃ x, x = fld l 4 1 := ⟨_, rfl⟩
  obtain ⟨ty, hty⟩ : ∃ x, x = fld l 5 1 := ⟨_, rfl⟩
  obtain ⟨st, hst⟩ : ∃ x, x = fld l 6 2 := ⟨_, rfl⟩
  obtain ⟨bl, hbl⟩ : ∃ x, x = fld l 8 4 := ⟨_, rfl⟩
  obtain ⟨oq, hoq⟩ : ∃ x, x = fld l 12 4 := ⟨_, rfl⟩
  obtain ⟨cas, hcas⟩ : ∃ x, x = fld l 16 8 := ⟨_, rfl⟩
  rw [← hmg, ← hop, ← hkl, ← hel, ← hty, ← hst, ← hbl, ← hoq, ← hcas] at hF
  rw [← hmg, ← hkl, ← hel, ← hty, ← hbl] at hr
  have HRD : Hid (∀ W, Below w.heap.size w W → Calls Try.prog 118 #[.slice A n c] W (BoxQ (.agg #[.int .u8 (mg : Nat), .int .u8 (op : Nat), .int .u16 (kl : Nat), .int .u8 (el : Nat), .int .u8 (ty : Nat), .int .u16 (st : Nat), .int .u32 (bl : Nat), .int .u32 (oq : Nat), .int .u64 (cas : Nat)]) W)) := Lib.hid (fun W b => by have h := read19_any A n c l W ((r.below b).more b.size) hn; rw [← hmg, ← hop, ← hkl, ← hel, ← hty, ← hst, ← hbl, ← hoq, ← hcas] at h; exact h)
  have HRG : Hid (∀ W, Calls Try.prog 55 #[.agg #[.int .u8 (mg : Nat), .int .u8 (op : Nat), .int .u16 (kl : Nat), .int .u8 (el : Nat), .int .u8 (ty : Nat), .int .u16 (st : Nat), .int .u32 (bl : Nat), .int .u32 (oq : Nat), .int .u64 (cas : Nat)]] W (BoxQ' (.bool true) W)) := Lib.hid (fun W => by have h := rright20 mg op kl el ty st bl oq cas hF W; rw [hr] at h; exact h)
  have f2 : bl < 4294967296 := hF.2.2.2.2.2.2.1
  have wb : IntKind.i64.wrap ((bl : Nat) : Int) = (bl : Nat) := IntWalk.i64_in _ (by omega)
  have wb2 : IntKind.i64.wrap ((24 : Int) + (bl : Int)) = (24 : Int) + (bl : Int) := IntWalk.i64_in _ (by omega)
  have eN : ((n : Int) < (24 : Int) + (bl : Int)) = True := eq_true (by omega)
  clear f2 hN
  have HBL := Lib.hid hbl
  clear hr hF hmg hop hkl hel hty hst hbl hoq hcas hn
  have k1 := ((Blk.new w #[.slice A n c, .bool false] 47).alloc (.cells #[.slice none 0 0, .bool false] 47)).alloc (.cells #[.int .i64 0, .bool false, .bool false, .int .i64 0, .int .u32 0, .slice none 0 0, .slice none 0 0, .int .u32 0, .int .u32 0, .int .u64 0, .int .u64 0, .int .u64 0] 26)
  have k2 := (Blk.new (w.alloc (.cells #[.slice A n c, .bool false] 47)) #[.slice none 0 0, .bool false] 47).alloc (.cells #[.int .i64 0, .bool false, .bool false, .int .i64 0, .int .u32 0, .slice none 0 0, .slice none 0 0, .int .u32 0, .int .u32 0, .int .u64 0, .int .u64 0, .int .u64 0] 26)
  have k3 := Blk.new ((w.alloc (.cells #[.slice A n c, .bool false] 47)).alloc (.cells #[.slice none 0 0, .bool false] 47)) #[.int .i64 0, .bool false, .bool false, .int .i64 0, .int .u32 0, .slice none 0 0, .slice none 0 0, .int .u32 0, .int .u32 0, .int .u64 0, .int .u64 0, .int .u64 0] 26
  have b := below_a1' (below_a1' (below_a1' (Below.refl w.heap.size w) (.cells #[.slice A n c, .bool false] 47)) (.cells #[.slice none 0 0, .bool false] 47)) (.cells #[.int .i64 0, .bool false, .bool false, .int .i64 0, .int .u32 0, .slice none 0 0, .slice none 0 0, .int .u32 0, .int .u32 0, .int .u64 0, .int .u64 0, .int .u64 0] 26)
  simp only [World.size_alloc] at k2 k3
  go_enter Try.func84, Try.ntmps84
  go_upto_region 1 with fail
  generalize ((w.alloc (.cells #[.slice A n c, .bool false] 47)).alloc (.cells #[.slice none 0 0, .bool false] 47)).alloc (.cells #[.int .i64 0, .bool false, .bool false, .int .i64 0, .int .u32 0, .slice none 0 0, .slice none 0 0, .int .u32 0, .int .u32 0, .int .u64 0, .int .u64 0, .int .u64 0] 26) = W0 at k1 k2 k3 b ⊢
  obtain ⟨p0, p1⟩ := box2 k1
  go_wp2_with fail
  refine (HRD.out W0 b).mono ?_
  rintro e w1 ⟨rfl, b1⟩
  replace k1 := k1.step b1
  replace k2 := k2.step b1
  replace k3 := k3.step b1
  replace b := below_step b b1
  clear b1 p0 p1
  go_upto_region 6 with fail
  have k6 := Blk.new w1 #[.int .u8 (mg : Nat), .int .u8 (op : Nat), .int .u16 (kl : Nat), .int .u8 (el : Nat), .int .u8 (ty : Nat), .int .u16 (st : Nat), .int .u32 (bl : Nat), .int .u32 (oq : Nat), .int .u64 (cas : Nat)] 59
  have ba := below_a1' (Below.refl w1.heap.size w1) (.cells #[.int .u8 (mg : Nat), .int .u8 (op : Nat), .int .u16 (kl : Nat), .int .u8 (el : Nat), .int .u8 (ty : Nat), .int .u16 (st : Nat), .int .u32 (bl : Nat), .int .u32 (oq : Nat), .int .u64 (cas : Nat)] 59)
  have hg6 := k3.lt
  replace k1 := k1.step ba
  replace k2 := k2.step ba
  replace k3 := k3.step ba
  replace b := below_step b ba
  clear ba
  generalize w1.alloc (.cells #[.int .u8 (mg : Nat), .int .u8 (op : Nat), .int .u16 (kl : Nat), .int .u8 (el : Nat), .int .u8 (ty : Nat), .int .u16 (st : Nat), .int .u32 (bl : Nat), .int .u32 (oq : Nat), .int .u64 (cas : Nat)] 59) = W2 at k1 k2 k3 k6 b ⊢
  generalize w1.heap.size = g6 at k6 hg6 ⊢
  obtain ⟨h0, h1, h2, h3, h4, h5, h6, h7, h8⟩ := box9 k6
  go_wp2_with fail
  refine (HRG.out W2).mono ?_
  rintro e w3 ⟨rfl, b1⟩
  replace k1 := k1.step b1
  replace k2 := k2.step b1
  replace k3 := k3.step b1
  replace k6 := k6.step b1
  replace b := below_step b b1
  clear b1 h0 h1 h2 h3 h4 h5 h6 h7 h8
  obtain ⟨h0, h1, h2, h3, h4, h5, h6, h7, h8⟩ := box9 k6
  obtain ⟨p0, p1⟩ := box2 k1
  obtain ⟨u0, u1⟩ := box2 k2
  have y0 := k2.frozen 0
  have y1 := k2.frozen 1
  have kf2 := blk_set2 k2 (.slice A n c) (.bool false)
  have gs2 := grown_set2 w3 (w.heap.size + 1) (.slice A n c) (.bool false)
  have k3' := k3.leftC gs2 (by omega)
  obtain ⟨v0, v1, v2, v3, v4, v5, v6, v7, v8, v9, v10, v11⟩ := box12 k3'
  have x0 := k3'.frozen 0
  have x1 := k3'.frozen 1
  have x2 := k3'.frozen 2
  have x3 := k3'.frozen 3
  have x4 := k3'.frozen 4
  have x5 := k3'.frozen 5
  have x6 := k3'.frozen 6
  have x7 := k3'.frozen 7
  have x8 := k3'.frozen 8
  have x9 := k3'.frozen 9
  have x10 := k3'.frozen 10
  have x11 := k3'.frozen 11
  have kf3 := blk_set12 k3' (.int .i64 0) (.bool false) (.bool false) (.int .i64 0) (.int .u32 0) (.slice none 0 0) (.slice none 0 0) (.int .u32 0) (.int .u32 0) (.int .u64 0) (.int .u64 0) (.int .u64 0)
  have gs3 := grown_set12 ((w3.setCell ⟨w.heap.size + 1, 0, none⟩ (.slice A n c)).setCell ⟨w.heap.size + 1, 1, none⟩ (.bool false)) (w.heap.size + 2) (.int .i64 0) (.bool false) (.bool false) (.int .i64 0) (.int .u32 0) (.slice none 0 0) (.slice none 0 0) (.int .u32 0) (.int .u32 0) (.int .u64 0) (.int .u64 0) (.int .u64 0)
  have kf2' := kf2.leftC gs3 (by omega)
  have bf := (b.trans (below_grown gs2 (by omega) k2.lt)).trans (below_grown gs3 (by omega) k3'.lt)
  obtain ⟨t0, t1⟩ := box2 kf2'
  obtain ⟨s0, s1, s2, s3, s4, s5, s6, s7, s8, s9, s10, s11⟩ := box12 kf3
  clear k6
  clear kf2 gs2 k3' kf3 gs3 kf2' b k1 k2 k3
  go_wp2_with fail
  refine bodyPost_ret (v := .tuple #[.agg #[.slice A n c, .bool false], .agg #[.int .i64 0, .bool false, .bool false, .int .i64 0, .int .u32 0, .slice none 0 0, .slice none 0 0, .int .u32 0, .int .u32 0, .int .u64 0, .int .u64 0, .int .u64 0], .bool false, .int .i64 0]) (by simp [results, Try.results84, go_sem, t0, t1, s0, s1, s2, s3, s4, s5, s6, s7, s8, s9, s10, s11]) rfl ?_
  exact ⟨rfl, bf⟩
set_option maxRecDepth 100000 in
set_option maxHeartbeats 8000000 in
theorem rnext_yes (A : Option Addr) (n c : Nat) (l : List UInt8) (w : World) (r : Rd w w.heap.size A n c l) (hn : 24 ≤ n) (hr : rgtV l = true) (hN : 24 + fld l 8 4 ≤ n) (hn2 : n ≤ 65536) (q : RQ) (hq : q = reqO (fld l 1 1) (fld l 12 4) (fld l 16 8) (fxB l) (fkB l) (fvB l)) : Calls Try.prog 84 #[.agg #[.slice A n c, .bool false]] w (RnYes (24 + fld l 8 4) n l q w) := by
  have HLN := Lib.hid hn2
  have HQ := Lib.hid hq
  clear hq hn2
  obtain ⟨hr1, hr2, hr3⟩ := rgt_yes.1 hr
  have e24 : ((n : Int) < 24) = False := eq_false (by omega)
  have hF := hdF_of l
  unfold rgtV at hr
  obtain ⟨mg, hmg⟩ : ∃ x, x = fld l 0 1 := ⟨_, rfl⟩
  obtain ⟨op, hop⟩ : ∃ x, x = fld l 1 1 := ⟨_, rfl⟩
  obtain ⟨kl, hkl⟩ : ∃ x, x = fld l 2 2 := ⟨_, rfl⟩
  obtain ⟨el, hel⟩ : ∃ x, x = fld l 4 1 := ⟨_, rfl⟩
  obtain ⟨ty, hty⟩ : ∃ x, x = fld l 5 1 := ⟨_, rfl⟩
  obtain ⟨st, hst⟩ : ∃ x, x = fld l 6 2 := ⟨_, rfl⟩
  obtain ⟨bl, hbl⟩ : ∃ x, x = fld l 8 4 := ⟨_, rfl⟩
  obtain ⟨oq, hoq⟩ : ∃ x, x = fld l 12 4 := ⟨_, rfl⟩
  obtain ⟨cas, hcas⟩ : ∃ x, x = fld l 16 8 := ⟨_, rfl⟩
  rw [← hmg, ← hop, ← hkl, ← hel, ← hty, ← hst, ← hbl, ← hoq, ← hcas] at hF
  rw [← hmg, ← hkl, ← hel, ← hty, ← hbl] at hr
  have HRD : Hid (∀ W, Below w.heap.size w W → Calls Try.prog 118 #[.slice A n c] W (BoxQ (.agg #[.int .u8 (mg : Nat), .int .u8 (op : Nat), .int .u16 (kl : Nat), .int .u8 (el : Nat), .int .u8 (ty : Nat), .int .u16 (st : Nat), .int .u32 (bl : Nat), .int .u32 (oq : Nat), .int .u64 (cas : Nat)]) W)) := Lib.hid (fun W b => by have h := read19_any A n c l W ((r.below b).more b.size) hn; rw [← hmg, ← hop, ← hkl, ← hel, ← hty, ← hst, ← hbl, ← hoq, ← hcas] at h; exact h)
  have HRG : Hid (∀ W, Calls Try.prog 55 #[.agg #[.int .u8 (mg : Nat), .int .u8 (op : Nat), .int .u16 (kl : Nat), .int .u8 (el : Nat), .int .u8 (ty : Nat), .int .u16 (st : Nat), .int .u32 (bl : Nat), .int .u32 (oq : Nat), .int .u64 (cas : Nat)]] W (BoxQ' (.bool true) W)) := Lib.hid (fun W => by have h := rright20 mg op kl el ty st bl oq cas hF W; rw [hr] at h; exact h)
  rw [← hkl, ← hel, ← hbl] at hr2
  rw [← hbl] at hr3
  have hNl := hN
  have f2 : bl < 4294967296 := hF.2.2.2.2.2.2.1
  have wb : IntKind.i64.wrap ((bl : Nat) : Int) = (bl : Nat) := IntWalk.i64_in _ (by omega)
  have wb2 : IntKind.i64.wrap ((24 : Int) + (bl : Int)) = (24 : Int) + (bl : Int) := IntWalk.i64_in _ (by omega)
  have f3 : el < 256 := hF.2.2.2.1
  have f4 : kl < 65536 := hF.2.2.1
  have we : IntKind.i64.wrap ((el : Nat) : Int) = (el : Nat) := IntWalk.i64_in _ (by omega)
  have we2 : IntKind.i64.wrap ((24 : Int) + (el : Int)) = (24 : Int) + (el : Int) := IntWalk.i64_in _ (by omega)
  have wk : IntKind.i64.wrap ((kl : Nat) : Int) = (kl : Nat) := IntWalk.i64_in _ (by omega)
  have wk2 : IntKind.i64.wrap ((24 : Int) + (el : Int) + (kl : Int)) = (24 : Int) + (el : Int) + (kl : Int) := IntWalk.i64_in _ (by omega)
  have hn2 := HLN.out
  have eN : ((n : Int) < (24 : Int) + (bl : Int)) = False := eq_false (by omega)
  obtain ⟨X, cx, HX, hX⟩ := slc_lh r 24 (24 + el) 24 ((24 : Int) + (el : Int)) rfl (by omega) (by omega) (by omega)
  obtain ⟨K, ck, HK, hK⟩ := slc_lh r (24 + el) (24 + el + kl) ((24 : Int) + (el : Int)) ((24 : Int) + (el : Int) + (kl : Int)) (by omega) (by omega) (by omega) (by omega)
  obtain ⟨V, cv, HV, hV⟩ := slc_lh r (24 + el + kl) (24 + bl) ((24 : Int) + (el : Int) + (kl : Int)) ((24 : Int) + (bl : Int)) (by omega) (by omega) (by omega) (by omega)
  obtain ⟨nv, hnv⟩ : ∃ nv, nv = 24 + bl - (24 + el + kl) := ⟨_, rfl⟩
  rw [← hnv] at HV hV
  rw [Nat.add_sub_cancel_left] at HX hX HK hK
  obtain ⟨Y, cy, HY, hY⟩ := slc_l r (24 + bl) ((24 : Int) + (bl : Int)) (by omega) (by omega)
  rw [show (l.take (24 + el)).drop 24 = fxB l from by unfold fxB; rw [List.drop_take, Nat.add_sub_cancel_left, hel]] at hX
  rw [show (l.take (24 + el + kl)).drop (24 + el) = fkB l from by unfold fkB; rw [List.drop_take, Nat.add_sub_cancel_left, List.drop_drop, ← hel, ← hkl]] at hK
  rw [show (l.take (24 + bl)).drop (24 + el + kl) = fvB l from by unfold fvB; rw [← hel, ← hkl, ← hbl, List.drop_take, List.drop_take, List.drop_drop, Nat.add_assoc, show 24 + bl - (24 + (el + kl)) = bl - (el + kl) from by omega]] at hV
  have HRQ : Hid (∀ W, Below w.heap.size w W → Calls Try.prog 56 #[.agg #[.int .u8 (mg : Nat), .int .u8 (op : Nat), .int .u16 (kl : Nat), .int .u8 (el : Nat), .int .u8 (ty : Nat), .int .u16 (st : Nat), .int .u32 (bl : Nat), .int .u32 (oq : Nat), .int .u64 (cas : Nat), .slice X el cx, .slice K kl ck, .slice V nv cv]] W (ReqN20 q W)) := Lib.hid (fun W bW => by have h := rqn_any mg op kl el ty st bl oq cas X K V el cx kl ck nv cv (fxB l) (fkB l) (fvB l) W ((hX _ _ (r.below bW)).more bW.size) ((hK _ _ (r.below bW)).more bW.size) ((hV _ _ (r.below bW)).more bW.size) (by rw [hop]; exact fld_lt l 1 1); rw [hop, hoq, hcas, ← HQ.out] at h; rw [← hop, ← hoq, ← hcas] at h; exact h)
  have HYR := Lib.hid (fun W (bW : Below w.heap.size w W) => (hY _ _ (r.below bW)).more bW.size)
  clear f2 f3 f4 hnv hX hK hV hY hn2
  clear hr1 hr2 hr3 hNl
  have HBL := Lib.hid hbl
  clear hr hF hmg hop hkl hel hty hst hbl hoq hcas hn
  have k1 := ((Blk.new w #[.slice A n c, .bool false] 47).alloc (.cells #[.slice none 0 0, .bool false] 47)).alloc (.cells #[.int .i64 0, .bool false, .bool false, .int .i64 0, .int .u32 0, .slice none 0 0, .slice none 0 0, .int .u32 0, .int .u32 0, .int .u64 0, .int .u64 0, .int .u64 0] 26)
  have k2 := (Blk.new (w.alloc (.cells #[.slice A n c, .bool false] 47)) #[.slice none 0 0, .bool false] 47).alloc (.cells #[.int .i64 0, .bool false, .bool false, .int .i64 0, .int .u32 0, .slice none 0 0, .slice none 0 0, .int .u32 0, .int .u32 0, .int .u64 0, .int .u64 0, .int .u64 0] 26)
  have k3 := Blk.new ((w.alloc (.cells #[.slice A n c, .bool false] 47)).alloc (.cells #[.slice none 0 0, .bool false] 47)) #[.int .i64 0, .bool false, .bool false, .int .i64 0, .int .u32 0, .slice none 0 0, .slice none 0 0, .int .u32 0, .int .u32 0, .int .u64 0, .int .u64 0, .int .u64 0] 26
  have b := below_a1' (below_a1' (below_a1' (Below.refl w.heap.size w) (.cells #[.slice A n c, .bool false] 47)) (.cells #[.slice none 0 0, .bool false] 47)) (.cells #[.int .i64 0, .bool false, .bool false, .int .i64 0, .int .u32 0, .slice none 0 0, .slice none 0 0, .int .u32 0, .int .u32 0, .int .u64 0, .int .u64 0, .int .u64 0] 26)
  simp only [World.size_alloc] at k2 k3
  go_enter Try.func84, Try.ntmps84
  go_upto_region 1 with fail
  generalize ((w.alloc (.cells #[.slice A n c, .bool false] 47)).alloc (.cells #[.slice none 0 0, .bool false] 47)).alloc (.cells #[.int .i64 0, .bool false, .bool false, .int .i64 0, .int .u32 0, .slice none 0 0, .slice none 0 0, .int .u32 0, .int .u32 0, .int .u64 0, .int .u64 0, .int .u64 0] 26) = W0 at k1 k2 k3 b ⊢
  obtain ⟨p0, p1⟩ := box2 k1
  go_wp2_with fail
  refine (HRD.out W0 b).mono ?_
  rintro e w1 ⟨rfl, b1⟩
  replace k1 := k1.step b1
  replace k2 := k2.step b1
  replace k3 := k3.step b1
  replace b := below_step b b1
  clear b1 p0 p1
  go_upto_region 6 with fail
  have k6 := Blk.new w1 #[.int .u8 (mg : Nat), .int .u8 (op : Nat), .int .u16 (kl : Nat), .int .u8 (el : Nat), .int .u8 (ty : Nat), .int .u16 (st : Nat), .int .u32 (bl : Nat), .int .u32 (oq : Nat), .int .u64 (cas : Nat)] 59
  have ba := below_a1' (Below.refl w1.heap.size w1) (.cells #[.int .u8 (mg : Nat), .int .u8 (op : Nat), .int .u16 (kl : Nat), .int .u8 (el : Nat), .int .u8 (ty : Nat), .int .u16 (st : Nat), .int .u32 (bl : Nat), .int .u32 (oq : Nat), .int .u64 (cas : Nat)] 59)
  have hg6 := k3.lt
  replace k1 := k1.step ba
  replace k2 := k2.step ba
  replace k3 := k3.step ba
  replace b := below_step b ba
  clear ba
  generalize w1.alloc (.cells #[.int .u8 (mg : Nat), .int .u8 (op : Nat), .int .u16 (kl : Nat), .int .u8 (el : Nat), .int .u8 (ty : Nat), .int .u16 (st : Nat), .int .u32 (bl : Nat), .int .u32 (oq : Nat), .int .u64 (cas : Nat)] 59) = W2 at k1 k2 k3 k6 b ⊢
  generalize w1.heap.size = g6 at k6 hg6 ⊢
  obtain ⟨h0, h1, h2, h3, h4, h5, h6, h7, h8⟩ := box9 k6
  go_wp2_with fail
  refine (HRG.out W2).mono ?_
  rintro e w3 ⟨rfl, b1⟩
  replace k1 := k1.step b1
  replace k2 := k2.step b1
  replace k3 := k3.step b1
  replace k6 := k6.step b1
  replace b := below_step b b1
  clear b1 h0 h1 h2 h3 h4 h5 h6 h7 h8
  obtain ⟨h0, h1, h2, h3, h4, h5, h6, h7, h8⟩ := box9 k6
  obtain ⟨p0, p1⟩ := box2 k1
  go_upto_region 13 with fail
  clear h0 h1 h2 h3 h4 h5 h6 h7 h8 p0 p1
  refine wp_region_noPanic ?_
  refine region_T (fun wx => Blk wx w.heap.size #[.slice A n c, .bool false] 47 ∧ Blk wx g6 #[.int .u8 (mg : Nat), .int .u8 (op : Nat), .int .u16 (kl : Nat), .int .u8 (el : Nat), .int .u8 (ty : Nat), .int .u16 (st : Nat), .int .u32 (bl : Nat), .int .u32 (oq : Nat), .int .u64 (cas : Nat)] 59) 18 (by kernel_rfl) ?_
  have bD : Below w3.heap.size w3 w3.drew := (Below.refl _ _).drew
  replace k1 := k1.step bD
  replace k2 := k2.step bD
  replace k3 := k3.step bD
  replace k6 := k6.step bD
  replace b := below_step b bD
  clear bD
  have hHeld := And.intro k1 k6
  generalize w3.drew = Y0 at b k1 k2 k3 k6 hHeld ⊢
  refine takeT (i := 0) (v := ?_) rfl (by kernel_rfl) (by kernel_rfl) (by decide) (by kernel_rfl) (by kernel_rfl) (fun _ _ _ h => h) (Or.inl ⟨by rfl, ?_⟩) hHeld ?_
  rotate_left
  · (intro wx hSw; obtain ⟨sa, sb⟩ := hSw; obtain ⟨i0, i1⟩ := box2 sa; obtain ⟨a0, a1, a2, a3, a4, a5, a6, a7, a8⟩ := box9 sb; go_simp; try (with_reducible rfl))
  try simp only [Act.put, List.setIfInBounds_toArray, List.set_cons_zero, List.set_cons_succ]
  refine takeT (i := 1) (v := ?_) rfl (by kernel_rfl) (by kernel_rfl) (by decide) (by kernel_rfl) (by kernel_rfl) (fun _ _ _ h => h) (Or.inl ⟨by rfl, ?_⟩) hHeld ?_
  rotate_left
  · (intro wx hSw; obtain ⟨sa, sb⟩ := hSw; obtain ⟨i0, i1⟩ := box2 sa; obtain ⟨a0, a1, a2, a3, a4, a5, a6, a7, a8⟩ := box9 sb; go_simp; try (with_reducible rfl))
  try simp only [Act.put, List.setIfInBounds_toArray, List.set_cons_zero, List.set_cons_succ]
  refine takeT (i := 2) (v := ?_) rfl (by kernel_rfl) (by kernel_rfl) (by decide) (by kernel_rfl) (by kernel_rfl) (fun _ _ _ h => h) (Or.inl ⟨by rfl, ?_⟩) hHeld ?_
  rotate_left
  · (intro wx hSw; obtain ⟨sa, sb⟩ := hSw; obtain ⟨i0, i1⟩ := box2 sa; obtain ⟨a0, a1, a2, a3, a4, a5, a6, a7, a8⟩ := box9 sb; go_simp; try (with_reducible rfl))
  try simp only [Act.put, List.setIfInBounds_toArray, List.set_cons_zero, List.set_cons_succ]
  refine takeT (i := 3) (v := ?_) rfl (by kernel_rfl) (by kernel_rfl) (by decide) (by kernel_rfl) (by kernel_rfl) (fun _ _ _ h => h) (Or.inl ⟨by rfl, ?_⟩) hHeld ?_
  rotate_left
  · (intro wx hSw; obtain ⟨sa, sb⟩ := hSw; obtain ⟨i0, i1⟩ := box2 sa; obtain ⟨a0, a1, a2, a3, a4, a5, a6, a7, a8⟩ := box9 sb; go_simp; try (with_reducible rfl))
  try simp only [Act.put, List.setIfInBounds_toArray, List.set_cons_zero, List.set_cons_succ]
  refine takeT (i := 4) (v := ?_) rfl (by kernel_rfl) (by kernel_rfl) (by decide) (by kernel_rfl) (by kernel_rfl) (fun _ _ _ h => h) (Or.inl ⟨by rfl, ?_⟩) hHeld ?_
  rotate_left
  · (intro wx hSw; obtain ⟨sa, sb⟩ := hSw; obtain ⟨i0, i1⟩ := box2 sa; obtain ⟨a0, a1, a2, a3, a4, a5, a6, a7, a8⟩ := box9 sb; go_simp; try (with_reducible rfl))
  try simp only [Act.put, List.setIfInBounds_toArray, List.set_cons_zero, List.set_cons_succ]
  refine takeT (i := 5) (v := ?_) rfl (by kernel_rfl) (by kernel_rfl) (by decide) (by kernel_rfl) (by kernel_rfl) (fun _ _ _ h => h) (Or.inl ⟨by rfl, ?_⟩) hHeld ?_
  rotate_left
  · (intro wx hSw; obtain ⟨sa, sb⟩ := hSw; obtain ⟨i0, i1⟩ := box2 sa; obtain ⟨a0, a1, a2, a3, a4, a5, a6, a7, a8⟩ := box9 sb; go_simp; try (with_reducible rfl))
  try simp only [Act.put, List.setIfInBounds_toArray, List.set_cons_zero, List.set_cons_succ]
  refine takeT (i := 6) (v := ?_) rfl (by kernel_rfl) (by kernel_rfl) (by decide) (by kernel_rfl) (by kernel_rfl) (fun _ _ _ h => h) (Or.inl ⟨by rfl, ?_⟩) hHeld ?_
  rotate_left
  · (intro wx hSw; obtain ⟨sa, sb⟩ := hSw; obtain ⟨i0, i1⟩ := box2 sa; obtain ⟨a0, a1, a2, a3, a4, a5, a6, a7, a8⟩ := box9 sb; go_simp; try (with_reducible rfl))
  try simp only [Act.put, List.setIfInBounds_toArray, List.set_cons_zero, List.set_cons_succ]
  refine takeT (i := 7) (v := ?_) rfl (by kernel_rfl) (by kernel_rfl) (by decide) (by kernel_rfl) (by kernel_rfl) (fun _ _ _ h => h) (Or.inl ⟨by rfl, ?_⟩) hHeld ?_
  rotate_left
  · (intro wx hSw; obtain ⟨sa, sb⟩ := hSw; obtain ⟨i0, i1⟩ := box2 sa; obtain ⟨a0, a1, a2, a3, a4, a5, a6, a7, a8⟩ := box9 sb; go_simp; try (with_reducible rfl))
  try simp only [Act.put, List.setIfInBounds_toArray, List.set_cons_zero, List.set_cons_succ]
  refine takeT (i := 8) (v := ?_) rfl (by kernel_rfl) (by kernel_rfl) (by decide) (by kernel_rfl) (by kernel_rfl) (fun _ _ _ h => h) (Or.inl ⟨by rfl, ?_⟩) hHeld ?_
  rotate_left
  · (intro wx hSw; obtain ⟨sa, sb⟩ := hSw; obtain ⟨i0, i1⟩ := box2 sa; obtain ⟨a0, a1, a2, a3, a4, a5, a6, a7, a8⟩ := box9 sb; go_simp; try (with_reducible rfl))
  try simp only [Act.put, List.setIfInBounds_toArray, List.set_cons_zero, List.set_cons_succ]
  refine takeT (i := 9) (v := ?_) rfl (by kernel_rfl) (by kernel_rfl) (by decide) (by kernel_rfl) (by kernel_rfl) (fun _ _ _ h => h) (Or.inl ⟨by rfl, ?_⟩) hHeld ?_
  rotate_left
  · (intro wx hSw; obtain ⟨sa, sb⟩ := hSw; obtain ⟨i0, i1⟩ := box2 sa; obtain ⟨a0, a1, a2, a3, a4, a5, a6, a7, a8⟩ := box9 sb; go_simp; try (with_reducible rfl))
  try simp only [Act.put, List.setIfInBounds_toArray, List.set_cons_zero, List.set_cons_succ]
  refine takeT (i := 10) (v := ?_) rfl (by kernel_rfl) (by kernel_rfl) (by decide) (by kernel_rfl) (by kernel_rfl) (fun _ _ _ h => h) (Or.inl ⟨by rfl, ?_⟩) hHeld ?_
  rotate_left
  · (intro wx hSw; obtain ⟨sa, sb⟩ := hSw; obtain ⟨i0, i1⟩ := box2 sa; obtain ⟨a0, a1, a2, a3, a4, a5, a6, a7, a8⟩ := box9 sb; go_simp; try (with_reducible rfl))
  try simp only [Act.put, List.setIfInBounds_toArray, List.set_cons_zero, List.set_cons_succ]
  refine takeT (i := 11) (v := ?_) rfl (by kernel_rfl) (by kernel_rfl) (by decide) (by kernel_rfl) (by kernel_rfl) (fun _ _ _ h => h) (Or.inl ⟨by rfl, ?_⟩) hHeld ?_
  rotate_left
  · (intro wx hSw; obtain ⟨sa, sb⟩ := hSw; obtain ⟨i0, i1⟩ := box2 sa; obtain ⟨a0, a1, a2, a3, a4, a5, a6, a7, a8⟩ := box9 sb; go_simp; try (with_reducible rfl))
  try simp only [Act.put, List.setIfInBounds_toArray, List.set_cons_zero, List.set_cons_succ]
  refine takeT (i := 12) (v := ?_) rfl (by kernel_rfl) (by kernel_rfl) (by decide) (by kernel_rfl) (by kernel_rfl) (fun _ _ _ h => h) (Or.inl ⟨by rfl, ?_⟩) hHeld ?_
  rotate_left
  · (intro wx hSw; obtain ⟨sa, sb⟩ := hSw; obtain ⟨i0, i1⟩ := box2 sa; obtain ⟨a0, a1, a2, a3, a4, a5, a6, a7, a8⟩ := box9 sb; go_simp; try (with_reducible rfl))
  try simp only [Act.put, List.setIfInBounds_toArray, List.set_cons_zero, List.set_cons_succ]
  refine takeT (i := 13) (v := ?_) rfl (by kernel_rfl) (by kernel_rfl) (by decide) (by kernel_rfl) (by kernel_rfl) (fun _ _ _ h => h) (Or.inl ⟨by rfl, ?_⟩) hHeld ?_
  rotate_left
  · (intro wx hSw; obtain ⟨sa, sb⟩ := hSw; obtain ⟨i0, i1⟩ := box2 sa; obtain ⟨a0, a1, a2, a3, a4, a5, a6, a7, a8⟩ := box9 sb; go_simp; try (with_reducible rfl))
  try simp only [Act.put, List.setIfInBounds_toArray, List.set_cons_zero, List.set_cons_succ]
  refine takeT (i := 14) (v := ?_) rfl (by kernel_rfl) (by kernel_rfl) (by decide) (by kernel_rfl) (by kernel_rfl) (fun _ _ _ h => h) (Or.inl ⟨by rfl, ?_⟩) hHeld ?_
  rotate_left
  · (intro wx hSw; obtain ⟨sa, sb⟩ := hSw; obtain ⟨i0, i1⟩ := box2 sa; obtain ⟨a0, a1, a2, a3, a4, a5, a6, a7, a8⟩ := box9 sb; go_simp; try (with_reducible rfl))
  try simp only [Act.put, List.setIfInBounds_toArray, List.set_cons_zero, List.set_cons_succ]
  refine takeT (i := 15) (v := ?_) rfl (by kernel_rfl) (by kernel_rfl) (by decide) (by kernel_rfl) (by kernel_rfl) (fun _ _ _ h => h) (Or.inl ⟨by rfl, ?_⟩) hHeld ?_
  rotate_left
  · (intro wx hSw; obtain ⟨sa, sb⟩ := hSw; obtain ⟨i0, i1⟩ := box2 sa; obtain ⟨a0, a1, a2, a3, a4, a5, a6, a7, a8⟩ := box9 sb; go_simp; try (with_reducible rfl))
  try simp only [Act.put, List.setIfInBounds_toArray, List.set_cons_zero, List.set_cons_succ]
  refine oneT (i := 16) rfl (by kernel_rfl) (fun KK hK => ?_)
  go_simp
  have ba := below_a1' (Below.refl Y0.heap.size Y0) (.cells #[.int .u8 0, .int .u8 0, .int .u16 0, .int .u8 0, .int .u8 0, .int .u16 0, .int .u32 0, .int .u32 0, .int .u64 0, .slice none 0 0, .slice none 0 0, .slice none 0 0] 61)
  have k10 := Blk.new Y0 #[.int .u8 0, .int .u8 0, .int .u16 0, .int .u8 0, .int .u8 0, .int .u16 0, .int .u32 0, .int .u32 0, .int .u64 0, .slice none 0 0, .slice none 0 0, .slice none 0 0] 61
  have hg10 := k6.lt
  have hg10' := k3.lt
  replace k1 := k1.step ba
  replace k2 := k2.step ba
  replace k3 := k3.step ba
  replace k6 := k6.step ba
  replace b := below_step b ba
  clear ba hHeld
  generalize Y0.alloc (.cells #[.int .u8 0, .int .u8 0, .int .u16 0, .int .u8 0, .int .u8 0, .int .u16 0, .int .u32 0, .int .u32 0, .int .u64 0, .slice none 0 0, .slice none 0 0, .slice none 0 0] 61) = Y1 at b k1 k2 k3 k6 k10 ⊢
  generalize Y0.heap.size = g10 at k10 hg10 hg10' ⊢
  refine hK.out _ _ (fun _ => ⟨k1, k6⟩) ?_
  clear hK KK
  try simp only [Act.put, List.setIfInBounds_toArray, List.set_cons_zero, List.set_cons_succ]
  obtain ⟨u0, u1, u2, u3, u4, u5, u6, u7, u8, u9, u10, u11⟩ := box12 k10
  have y0 := k10.frozen 0
  have y1 := k10.frozen 1
  have y2 := k10.frozen 2
  have y3 := k10.frozen 3
  have y4 := k10.frozen 4
  have y5 := k10.frozen 5
  have y6 := k10.frozen 6
  have y7 := k10.frozen 7
  have y8 := k10.frozen 8
  have y9 := k10.frozen 9
  have y10 := k10.frozen 10
  have y11 := k10.frozen 11
  refine oneT (i := 17) rfl (by kernel_rfl) (fun KK hK => ?_)
  go_simp
  have gs := grown_set12 Y1 g10 (.int .u8 (mg : Nat)) (.int .u8 (op : Nat)) (.int .u16 (kl : Nat)) (.int .u8 (el : Nat)) (.int .u8 (ty : Nat)) (.int .u16 (st : Nat)) (.int .u32 (bl : Nat)) (.int .u32 (oq : Nat)) (.int .u64 (cas : Nat)) (.slice X el cx) (.slice K kl ck) (.slice V nv cv)
  have kf := blk_set12 k10 (.int .u8 (mg : Nat)) (.int .u8 (op : Nat)) (.int .u16 (kl : Nat)) (.int .u8 (el : Nat)) (.int .u8 (ty : Nat)) (.int .u16 (st : Nat)) (.int .u32 (bl : Nat)) (.int .u32 (oq : Nat)) (.int .u64 (cas : Nat)) (.slice X el cx) (.slice K kl ck) (.slice V nv cv)
  replace k1 := k1.leftC gs (by omega)
  replace k2 := k2.leftC gs (by omega)
  replace k3 := k3.leftC gs (by omega)
  replace k6 := k6.leftC gs (by omega)
  replace b := b.trans (below_grown gs (by omega) k10.lt)
  clear gs k10 u0 u1 u2 u3 u4 u5 u6 u7 u8 u9 u10 u11 y0 y1 y2 y3 y4 y5 y6 y7 y8 y9 y10 y11
  generalize (((((((((((Y1.setCell ⟨g10, 0, none⟩ (.int .u8 (mg : Nat))).setCell ⟨g10, 1, none⟩ (.int .u8 (op : Nat))).setCell ⟨g10, 2, none⟩ (.int .u16 (kl : Nat))).setCell ⟨g10, 3, none⟩ (.int .u8 (el : Nat))).setCell ⟨g10, 4, none⟩ (.int .u8 (ty : Nat))).setCell ⟨g10, 5, none⟩ (.int .u16 (st : Nat))).setCell ⟨g10, 6, none⟩ (.int .u32 (bl : Nat))).setCell ⟨g10, 7, none⟩ (.int .u32 (oq : Nat))).setCell ⟨g10, 8, none⟩ (.int .u64 (cas : Nat))).setCell ⟨g10, 9, none⟩ (.slice X el cx)).setCell ⟨g10, 10, none⟩ (.slice K kl ck)).setCell ⟨g10, 11, none⟩ (.slice V nv cv) = Y2 at b k1 k2 k3 k6 kf ⊢
  refine hK.out _ _ (fun _ => ⟨k1, k6⟩) ?_
  clear hK KK
  try simp only [Act.put, List.setIfInBounds_toArray, List.set_cons_zero, List.set_cons_succ]
  refine doneT (by kernel_rfl) ?_ _
  refine NoPanic.normal ?_
  clear k6
  obtain ⟨h0, h1, h2, h3, h4, h5, h6, h7, h8, h9, h10, h11⟩ := box12 kf
  go_wp2_with fail
  refine (HRQ.out Y2 b).mono ?_
  rintro e w5 ⟨K2, V2, nk2, ck2, nv2, cv2, rfl, oK, oV, b1⟩
  have hB5 : w.heap.size + 3 ≤ Y2.heap.size := k3.lt
  replace k1 := k1.step b1
  replace k2 := k2.step b1
  replace k3 := k3.step b1
  replace b := below_step b b1
  replace oK := oK.more hB5
  replace oV := oV.more hB5
  clear b1 hB5 kf h0 h1 h2 h3 h4 h5 h6 h7 h8 h9 h10 h11
  go_upto_region 15 with fail
  have k11 := Blk.new w5 #[.int .i64 q.op, .bool q.qt, .bool q.fu, .int .i64 q.bd, .int .u32 (q.oq : Nat), .slice K2 nk2 ck2, .slice V2 nv2 cv2, .int .u32 (q.fl : Nat), .int .u32 (q.ex : Nat), .int .u64 (q.cs : Nat), .int .u64 (q.dl : Nat), .int .u64 (q.ni : Nat)] 26
  have bw := below_a1' (Below.refl w5.heap.size w5) (.cells #[.int .i64 q.op, .bool q.qt, .bool q.fu, .int .i64 q.bd, .int .u32 (q.oq : Nat), .slice K2 nk2 ck2, .slice V2 nv2 cv2, .int .u32 (q.fl : Nat), .int .u32 (q.ex : Nat), .int .u64 (q.cs : Nat), .int .u64 (q.dl : Nat), .int .u64 (q.ni : Nat)] 26)
  have hg11 := k3.lt
  replace k1 := k1.step bw
  replace k2 := k2.step bw
  replace k3 := k3.step bw
  replace b := below_step b bw
  generalize w5.alloc (.cells #[.int .i64 q.op, .bool q.qt, .bool q.fu, .int .i64 q.bd, .int .u32 (q.oq : Nat), .slice K2 nk2 ck2, .slice V2 nv2 cv2, .int .u32 (q.fl : Nat), .int .u32 (q.ex : Nat), .int .u64 (q.cs : Nat), .int .u64 (q.dl : Nat), .int .u64 (q.ni : Nat)] 26) = W6 at b k1 k2 k3 k11 bw ⊢
  have z0' : (W6.alloc (.cells #[] 5)).cell? ⟨w.heap.size, 0, none⟩ = some (.slice A n c) := (box2 (k1.alloc _)).1
  have lt11 := k11.lt
  have o0 : Own (W6.alloc (.cells #[] 5)) (w5.heap.size + 1) (some ⟨W6.heap.size, 0, none⟩) 0 0 [] := Own.emptyK W6 _ _ rfl lt11
  have k1a := k1.alloc (.cells #[] 5)
  have k2a := k2.alloc (.cells #[] 5)
  have k3a := k3.alloc (.cells #[] 5)
  have k11a := k11.alloc (.cells #[] 5)
  have ba := below_a1' b (.cells #[] 5)
  have bwa := below_a1 bw (Nat.le_refl _) (.cells #[] 5)
  have ra := HYR.out _ ba
  have lb := HLN.out
  go_wp2_with (at_builtin; refine wpList_app8 _ rfl _ _ rfl (w5.heap.size + 1) (some ⟨W6.heap.size, 0, none⟩) 0 0 [] rfl o0 _ Y (n - (24 + bl)) cy (l.drop (24 + bl)) rfl ra (by omega) (by rw [World.size_alloc]; omega) ?_)
  intro A3 c3 w7 o3 b3
  clear z0' o0 ra
  replace k1 : Blk w7 w.heap.size #[.slice A n c, .bool false] 47 := (b3.block _ (by omega)).trans k1a
  replace k2 : Blk w7 (w.heap.size + 1) #[.slice none 0 0, .bool false] 47 := (b3.block _ (by omega)).trans k2a
  replace k3 : Blk w7 (w.heap.size + 2) #[.int .i64 0, .bool false, .bool false, .int .i64 0, .int .u32 0, .slice none 0 0, .slice none 0 0, .int .u32 0, .int .u32 0, .int .u64 0, .int .u64 0, .int .u64 0] 26 := (b3.block _ (by omega)).trans k3a
  replace k11 : Blk w7 w5.heap.size #[.int .i64 q.op, .bool q.qt, .bool q.fu, .int .i64 q.bd, .int .u32 (q.oq : Nat), .slice K2 nk2 ck2, .slice V2 nv2 cv2, .int .u32 (q.fl : Nat), .int .u32 (q.ex : Nat), .int .u64 (q.cs : Nat), .int .u64 (q.dl : Nat), .int .u64 (q.ni : Nat)] 26 := (b3.block _ (by omega)).trans k11a
  replace oK := Own.below oK (bwa.trans (b3.mono (by omega)))
  replace oV := Own.below oV (bwa.trans (b3.mono (by omega)))
  replace b := ba.trans (b3.mono (by omega))
  clear k1a k2a k3a k11a bw bwa ba b3 lt11
  obtain ⟨z0, z1⟩ := box2 k1
  have x0 := k1.frozen 0
  go_upto_region 16 with fail
  have gq := rdr_grown_set w7 w.heap.size 0 (.slice A3 (n - (24 + bl)) c3)
  replace b := b.trans (below_grown gq (Nat.le_refl _) k1.lt)
  replace k1 : Blk (w7.setCell ⟨w.heap.size, 0, none⟩ (.slice A3 (n - (24 + bl)) c3)) w.heap.size #[.slice A3 (n - (24 + bl)) c3, .bool false] 47 := k1.set_ 0 _
  replace k2 := k2.leftC gq (by omega)
  replace k3 := k3.leftC gq (by omega)
  replace k11 := k11.leftC gq (by omega)
  replace o3 := o3.kept gq (by omega)
  replace oK := oK.kept gq (by omega)
  replace oV := oV.kept gq (by omega)
  clear gq z0 z1 x0
  generalize w7.setCell ⟨w.heap.size, 0, none⟩ (.slice A3 (n - (24 + bl)) c3) = W8 at k1 k2 k3 k11 o3 oK oV b ⊢
  refine wp_region_noPanic ?_
  refine region_T (fun wx => Blk wx w.heap.size #[.slice A3 (n - (24 + bl)) c3, .bool false] 47 ∧ Blk wx w5.heap.size #[.int .i64 q.op, .bool q.qt, .bool q.fu, .int .i64 q.bd, .int .u32 (q.oq : Nat), .slice K2 nk2 ck2, .slice V2 nv2 cv2, .int .u32 (q.fl : Nat), .int .u32 (q.ex : Nat), .int .u64 (q.cs : Nat), .int .u64 (q.dl : Nat), .int .u64 (q.ni : Nat)] 26) 6 (by kernel_rfl) ?_
  have bD : Below W8.heap.size W8 W8.drew := (Below.refl _ _).drew
  replace k1 := k1.step bD
  replace k2 := k2.step bD
  replace k3 := k3.step bD
  replace k11 := k11.step bD
  replace o3 := Own.step o3 bD
  replace oK := Own.step oK bD
  replace oV := Own.step oV bD
  replace b := below_step b bD
  clear bD
  have hHeld := And.intro k1 k11
  generalize W8.drew = Y0' at b k1 k2 k3 k11 o3 oK oV hHeld ⊢
  refine takeT (i := 0) (v := ?_) rfl (by kernel_rfl) (by kernel_rfl) (by decide) (by kernel_rfl) (by kernel_rfl) (fun _ _ _ h => h) (Or.inl ⟨by rfl, ?_⟩) hHeld ?_
  rotate_left
  · (intro wx hSw; obtain ⟨sa, sb⟩ := hSw; obtain ⟨i0, i1⟩ := box2 sa; obtain ⟨a0, a1, a2, a3, a4, a5, a6, a7, a8, a9, a10, a11⟩ := box12 sb; go_simp; try (with_reducible rfl))
  try simp only [Act.put, List.setIfInBounds_toArray, List.set_cons_zero, List.set_cons_succ]
  refine takeT (i := 1) (v := ?_) rfl (by kernel_rfl) (by kernel_rfl) (by decide) (by kernel_rfl) (by kernel_rfl) (fun _ _ _ h => h) (Or.inl ⟨by rfl, ?_⟩) hHeld ?_
  rotate_left
  · (intro wx hSw; obtain ⟨sa, sb⟩ := hSw; obtain ⟨i0, i1⟩ := box2 sa; obtain ⟨a0, a1, a2, a3, a4, a5, a6, a7, a8, a9, a10, a11⟩ := box12 sb; go_simp; try (with_reducible rfl))
  try simp only [Act.put, List.setIfInBounds_toArray, List.set_cons_zero, List.set_cons_succ]
  obtain ⟨u0, u1⟩ := box2 k2
  have y0 := k2.frozen 0
  have y1 := k2.frozen 1
  refine oneT (i := 2) rfl (by kernel_rfl) (fun KK hK => ?_)
  go_simp
  have gs := grown_set2 Y0' (w.heap.size + 1) (.slice A3 (n - (24 + bl)) c3) (.bool false)
  replace b := b.trans (below_grown gs (by omega) k2.lt)
  replace k2 := blk_set2 k2 (.slice A3 (n - (24 + bl)) c3) (.bool false)
  replace k1 := k1.leftC gs (by omega)
  replace k3 := k3.leftC gs (by omega)
  replace k11 := k11.leftC gs (by omega)
  replace o3 := o3.kept gs (by omega)
  replace oK := oK.kept gs (by omega)
  replace oV := oV.kept gs (by omega)
  clear gs u0 u1 y0 y1 hHeld
  generalize (Y0'.setCell ⟨w.heap.size + 1, 0, none⟩ (.slice A3 (n - (24 + bl)) c3)).setCell ⟨w.heap.size + 1, 1, none⟩ (.bool false) = Y1' at b k1 k2 k3 k11 o3 oK oV ⊢
  have hHeld := And.intro k1 k11
  refine hK.out _ _ (fun _ => hHeld) ?_
  clear hK KK
  try simp only [Act.put, List.setIfInBounds_toArray, List.set_cons_zero, List.set_cons_succ]
  obtain ⟨u0, u1, u2, u3, u4, u5, u6, u7, u8, u9, u10, u11⟩ := box12 k3
  have y0 := k3.frozen 0
  have y1 := k3.frozen 1
  have y2 := k3.frozen 2
  have y3 := k3.frozen 3
  have y4 := k3.frozen 4
  have y5 := k3.frozen 5
  have y6 := k3.frozen 6
  have y7 := k3.frozen 7
  have y8 := k3.frozen 8
  have y9 := k3.frozen 9
  have y10 := k3.frozen 10
  have y11 := k3.frozen 11
  refine oneT (i := 3) rfl (by kernel_rfl) (fun KK hK => ?_)
  go_simp
  have gs := grown_set12 Y1' (w.heap.size + 2) (.int .i64 q.op) (.bool q.qt) (.bool q.fu) (.int .i64 q.bd) (.int .u32 (q.oq : Nat)) (.slice K2 nk2 ck2) (.slice V2 nv2 cv2) (.int .u32 (q.fl : Nat)) (.int .u32 (q.ex : Nat)) (.int .u64 (q.cs : Nat)) (.int .u64 (q.dl : Nat)) (.int .u64 (q.ni : Nat))
  replace b := b.trans (below_grown gs (by omega) k3.lt)
  replace k3 := blk_set12 k3 (.int .i64 q.op) (.bool q.qt) (.bool q.fu) (.int .i64 q.bd) (.int .u32 (q.oq : Nat)) (.slice K2 nk2 ck2) (.slice V2 nv2 cv2) (.int .u32 (q.fl : Nat)) (.int .u32 (q.ex : Nat)) (.int .u64 (q.cs : Nat)) (.int .u64 (q.dl : Nat)) (.int .u64 (q.ni : Nat))
  replace k1 := k1.leftC gs (by omega)
  replace k2 := k2.leftC gs (by omega)
  replace k11 := k11.leftC gs (by omega)
  replace o3 := o3.kept gs (by omega)
  replace oK := oK.kept gs (by omega)
  replace oV := oV.kept gs (by omega)
  clear gs hHeld u0 u1 u2 u3 u4 u5 u6 u7 u8 u9 u10 u11 y0 y1 y2 y3 y4 y5 y6 y7 y8 y9 y10 y11
  generalize (((((((((((Y1'.setCell ⟨w.heap.size + 2, 0, none⟩ (.int .i64 q.op)).setCell ⟨w.heap.size + 2, 1, none⟩ (.bool q.qt)).setCell ⟨w.heap.size + 2, 2, none⟩ (.bool q.fu)).setCell ⟨w.heap.size + 2, 3, none⟩ (.int .i64 q.bd)).setCell ⟨w.heap.size + 2, 4, none⟩ (.int .u32 (q.oq : Nat))).setCell ⟨w.heap.size + 2, 5, none⟩ (.slice K2 nk2 ck2)).setCell ⟨w.heap.size + 2, 6, none⟩ (.slice V2 nv2 cv2)).setCell ⟨w.heap.size + 2, 7, none⟩ (.int .u32 (q.fl : Nat))).setCell ⟨w.heap.size + 2, 8, none⟩ (.int .u32 (q.ex : Nat))).setCell ⟨w.heap.size + 2, 9, none⟩ (.int .u64 (q.cs : Nat))).setCell ⟨w.heap.size + 2, 10, none⟩ (.int .u64 (q.dl : Nat))).setCell ⟨w.heap.size + 2, 11, none⟩ (.int .u64 (q.ni : Nat)) = Y2' at b k1 k2 k3 k11 o3 oK oV ⊢
  have hHeld := And.intro k1 k11
  refine hK.out _ _ (fun _ => hHeld) ?_
  clear hK KK
  try simp only [Act.put, List.setIfInBounds_toArray, List.set_cons_zero, List.set_cons_succ]
  refine oneT (i := 4) rfl (by kernel_rfl) (fun KK hK => ?_)
  go_simp
  refine hK.out _ _ (fun _ => hHeld) ?_
  clear hK KK
  try simp only [Act.put, List.setIfInBounds_toArray, List.set_cons_zero, List.set_cons_succ]
  refine oneT (i := 5) rfl (by kernel_rfl) (fun KK hK => ?_)
  go_simp
  refine hK.out _ _ (fun _ => hHeld) ?_
  clear hK KK
  try simp only [Act.put, List.setIfInBounds_toArray, List.set_cons_zero, List.set_cons_succ]
  refine doneT (by kernel_rfl) ?_ _
  refine NoPanic.normal ?_
  obtain ⟨t0, t1⟩ := box2 k2
  obtain ⟨s0, s1, s2, s3, s4, s5, s6, s7, s8, s9, s10, s11⟩ := box12 k3
  clear hHeld k1 k2 k3 k11
  replace o3 := o3.more (B' := w.heap.size) (by omega)
  replace oK := oK.more (B' := w.heap.size) (by omega)
  replace oV := oV.more (B' := w.heap.size) (by omega)
  go_wp2_with fail
  refine bodyPost_ret (v := .tuple #[.agg #[.slice A3 (n - (24 + bl)) c3, .bool false], .agg #[.int .i64 q.op, .bool q.qt, .bool q.fu, .int .i64 q.bd, .int .u32 (q.oq : Nat), .slice K2 nk2 ck2, .slice V2 nv2 cv2, .int .u32 (q.fl : Nat), .int .u32 (q.ex : Nat), .int .u64 (q.cs : Nat), .int .u64 (q.dl : Nat), .int .u64 (q.ni : Nat)], .bool true, .int .i64 0]) (by simp [results, Try.results84, go_sem, t0, t1, s0, s1, s2, s3, s4, s5, s6, s7, s8, s9, s10, s11]) rfl ?_
  unfold RnYes
  rw [← HBL.out]
  exact ⟨K2, V2, nk2, ck2, nv2, cv2, A3, c3, rfl, o3, oK, oV, b⟩
end
section
open Go.RowKit

/-- The owner of a slice's memory. -/
def obk (A : Option Addr) : Option Nat := A.map (·.block)
theorem obk_eq (A : Option Addr) (n c : Nat) : (Value.slice A n c).ownBlock = obk A := by cases A <;> rfl
/-- All blocks but those of F are as they were. -/
structure Kp (w w' : World) (F : Nat → Prop) : Prop where
  os : w'.os = w.os
  tape : w'.tape = w.tape
  output : w'.output = w.output
  size : w.heap.size ≤ w'.heap.size
  block : ∀ k, k < w.heap.size → ¬ F k → w'.heap[k]? = w.heap[k]?
theorem Kp.of_grown {w w' : World} {g : Nat} (h : w.grownBy w' (some g)) : Kp w w' (fun k => k = g) := ⟨h.os, h.tape, h.output, h.size, fun k hk hg => h.block k hk (fun e => hg (by injection e))⟩
theorem Kp.of_row {w w' : World} {r : Option Nat} (h : w.grownBy w' r) : Kp w w' (fun k => some k = r) := ⟨h.os, h.tape, h.output, h.size, fun k hk hg => h.block k hk hg⟩
theorem Kp.of_two {w w' : World} {g : Nat} {r : Option Nat} (h : TwoK w w' g r) : Kp w w' (fun k => k = g ∨ some k = r) := ⟨h.os, h.tape, h.output, h.size, fun k hk hg => h.block k hk (fun e => hg (.inl e)) (fun e => hg (.inr e))⟩
theorem Kp.of_below {w w' : World} (h : Below w.heap.size w w') (F : Nat → Prop) : Kp w w' F := ⟨h.os, h.tape, h.output, h.size, fun k hk _ => h.block k hk⟩
theorem Kp.below {w w' : World} {F : Nat → Prop} {B : Nat} (h : Kp w w' F) (hF : ∀ k, F k → B ≤ k) (hB : B ≤ w.heap.size) : Below B w w' :=
  ⟨h.os, h.tape, h.output, h.size, fun k hk => h.block k (by omega) (fun hf => by have := hF k hf; omega)⟩
theorem Kp.blk {w w' : World} {F : Nat → Prop} {g : Nat} {cs : Array Value} {T : TypeId} (h : Kp w w' F) (hb : Blk w g cs T) (hg : ¬ F g) : Blk w' g cs T := (h.block g hb.lt hg).trans hb
/-- Bytes that stand outside of F. -/
def RdF (w : World) (F : Nat → Prop) (A : Option Addr) (n c : Nat) (l : List UInt8) : Prop := Rd w w.heap.size A n c l ∧ ∀ k, obk A = some k → k < w.heap.size ∧ ¬ F k
theorem RdF.kp {w w' : World} {F F' : Nat → Prop} {A : Option Addr} {n c : Nat} {l : List UInt8} (r : RdF w F A n c l) {G : Nat → Prop} (h : Kp w w' G) (hG : ∀ k, k < w.heap.size → G k → F k) (hF : ∀ k, k < w.heap.size → F' k → F k) : RdF w' F' A n c l := by
  obtain ⟨⟨a1, a2, a3, a4, a5, a6⟩, r2⟩ := r
  refine ⟨⟨a1, a2, a3, a4, fun ad hA hn => Nat.lt_of_lt_of_le (a5 ad hA hn) h.size, fun ad j v hA hu => ?_⟩, fun k hk => ?_⟩
  · subst hA
    obtain ⟨b1, b2⟩ := r2 ad.block rfl
    rw [World.cell?_of_block (w := w) (h.block _ (by rw [block_add]; exact b1) (by rw [block_add]; exact fun hg => b2 (hG _ b1 hg)))]
    exact a6 ad j v rfl hu
  · obtain ⟨b1, b2⟩ := r2 k hk
    exact ⟨Nat.lt_of_lt_of_le b1 h.size, fun hf => b2 (hF k b1 hf)⟩
theorem RdF.weak {w : World} {F F' : Nat → Prop} {A : Option Addr} {n c : Nat} {l : List UInt8} (r : RdF w F A n c l) (hF : ∀ k, k < w.heap.size → F' k → F k) : RdF w F' A n c l := ⟨r.1, fun k hk => ⟨(r.2 k hk).1, fun hf => (r.2 k hk).2 (hF k (r.2 k hk).1 hf)⟩⟩
theorem Own.rdF {w : World} {B : Nat} {A : Option Addr} {n c : Nat} {l : List UInt8} (o : Own w B A n c l) {F : Nat → Prop} (hF : ∀ k, F k → k < B) : RdF w F A n c l := by
  refine ⟨o.rd, fun k hk => ?_⟩
  obtain ⟨h1, h2⟩ := World.ownsRow.lt o k (by rw [obk_eq]; exact hk)
  exact ⟨h2, fun hf => by have := hF k hf; omega⟩
/-- A request's cells. -/
def reqL (q : RQ) (K : Option Addr) (nk ck : Nat) (V : Option Addr) (nv cv : Nat) : List Value := [.int .i64 q.op, .bool q.qt, .bool q.fu, .int .i64 q.bd, .int .u32 (q.oq : Nat), .slice K nk ck, .slice V nv cv, .int .u32 (q.fl : Nat), .int .u32 (q.ex : Nat), .int .u64 (q.cs : Nat), .int .u64 (q.dl : Nat), .int .u64 (q.ni : Nat)]
def TCell (w : World) (F : Nat → Prop) (q : RQ) (cs : List Value) : Prop := ∃ K nk ck V nv cv, cs = reqL q K nk ck V nv cv ∧ RdF w F K nk ck q.lk ∧ RdF w F V nv cv q.lv
theorem TCell.len {w : World} {F : Nat → Prop} {q : RQ} {cs : List Value} (h : TCell w F q cs) : cs.length = 12 := by
  obtain ⟨K, nk, ck, V, nv, cv, rfl, -, -⟩ := h; rfl
theorem TCell.kp {w w' : World} {F F' : Nat → Prop} {q : RQ} {cs : List Value} (r : TCell w F q cs) {G : Nat → Prop} (h : Kp w w' G) (hG : ∀ k, k < w.heap.size → G k → F k) (hF : ∀ k, k < w.heap.size → F' k → F k) : TCell w' F' q cs := by
  obtain ⟨K, nk, ck, V, nv, cv, e, r1, r2⟩ := r
  exact ⟨K, nk, ck, V, nv, cv, e, r1.kp h hG hF, r2.kp h hG hF⟩
/-- A row of them. -/
def TRow (w : World) (F : Nat → Prop) (qs : List RQ) (L : List (List Value)) : Prop := L.length = qs.length ∧ ∀ (j : Nat) (q : RQ) (cs : List Value), qs[j]? = some q → L[j]? = some cs → TCell w F q cs
theorem TRow.nil (w : World) (F : Nat → Prop) : TRow w F [] [] := ⟨rfl, fun j q cs h => by simp at h⟩
theorem TRow.kp {w w' : World} {F F' : Nat → Prop} {qs : List RQ} {L : List (List Value)} (r : TRow w F qs L) {G : Nat → Prop} (h : Kp w w' G) (hG : ∀ k, k < w.heap.size → G k → F k) (hF : ∀ k, k < w.heap.size → F' k → F k) : TRow w' F' qs L := ⟨r.1, fun j q cs h1 h2 => (r.2 j q cs h1 h2).kp h hG hF⟩
theorem TRow.below {w w' : World} {F : Nat → Prop} {qs : List RQ} {L : List (List Value)} (r : TRow w F qs L) (h : Below w.heap.size w w') (hF : ∀ k, F k → k < w.heap.size) : TRow w' F qs L := r.kp (Kp.of_below h (fun _ => False)) (fun _ _ h => h.elim) (fun _ _ h => h)
theorem TRow.weak {w : World} {F F' : Nat → Prop} {qs : List RQ} {L : List (List Value)} (r : TRow w F qs L) (hF : ∀ k, k < w.heap.size → F' k → F k) : TRow w F' qs L := r.kp (Kp.of_below (Below.refl _ _) (fun _ => False)) (fun _ _ h => h.elim) hF
theorem TRow.snoc {w : World} {F : Nat → Prop} {qs : List RQ} {L : List (List Value)} (r : TRow w F qs L) {q : RQ} {cs : List Value} (h : TCell w F q cs) : TRow w F (qs ++ [q]) (L ++ [cs]) := by
  refine ⟨by rw [List.length_append, List.length_append, r.1]; rfl, fun j q' cs' h1 h2 => ?_⟩
  rw [List.getElem?_append] at h1 h2
  rw [r.1] at h2
  split at h1
  · rename_i hj
    rw [if_pos hj] at h2
    exact r.2 j q' cs' h1 h2
  · rename_i hj
    rw [if_neg hj] at h2
    have e : j - qs.length = 0 := by
      have := (List.getElem?_eq_some_iff.1 h1).1
      simp at this
      omega
    rw [e] at h1 h2
    simp at h1 h2
    subst h1 h2
    exact h
theorem TRow.lens {w : World} {F : Nat → Prop} {qs : List RQ} {L : List (List Value)} (r : TRow w F qs L) : ∀ x ∈ L, x.length = 12 := by
  intro x hx
  obtain ⟨j, hj, rfl⟩ := List.mem_iff_getElem.1 hx
  have hj' : j < qs.length := by rw [← r.1]; exact hj
  exact (r.2 j qs[j] L[j] (List.getElem?_eq_getElem hj') (List.getElem?_eq_getElem hj)).len
theorem TRow.ones {w : World} {F : Nat → Prop} {q : RQ} {cs : List Value} (h : TCell w F q cs) : ∀ u ∈ cs, u.oneCell' = true := by
  obtain ⟨K, nk, ck, V, nv, cv, rfl, -, -⟩ := h
  unfold reqL
  intro u hu
  simp only [List.mem_cons, List.not_mem_nil, or_false] at hu
  rcases hu with rfl | rfl | rfl | rfl | rfl | rfl | rfl | rfl | rfl | rfl | rfl | rfl <;> rfl
end
section
open Go.RowKit

theorem Kp.weak {w w' : World} {F F' : Nat → Prop} (h : Kp w w' F) (hF : ∀ k, F k → F' k) : Kp w w' F' := ⟨h.os, h.tape, h.output, h.size, fun k hk hn => h.block k hk (fun hf => hn (hF k hf))⟩
theorem Kp.after {w w1 w2 : World} {F G : Nat → Prop} (h : Kp w w1 F) (h2 : Kp w1 w2 G) (hG : ∀ k, k < w.heap.size → G k → F k) : Kp w w2 F := ⟨h2.os.trans h.os, h2.tape.trans h.tape, h2.output.trans h.output, Nat.le_trans h.size h2.size, fun k hk hn => (h2.block k (Nat.lt_of_lt_of_le hk h.size) (fun hg => hn (hG k hk hg))).trans (h.block k hk hn)⟩
theorem Kp.trans {w w1 w2 : World} {F : Nat → Prop} (h : Kp w w1 F) (h2 : Kp w1 w2 F) : Kp w w2 F := h.after h2 (fun _ _ h => h)
theorem Kp.refl (w : World) (F : Nat → Prop) : Kp w w F := ⟨rfl, rfl, rfl, Nat.le_refl _, fun _ _ _ => rfl⟩
theorem kp_set {w w' : World} {F : Nat → Prop} (h : Kp w w' F) {g : Nat} (hg : F g) (hl : g < w'.heap.size) (i : Nat) (u : Value) : Kp w (w'.setCell ⟨g, i, none⟩ u) F :=
  h.after (Kp.of_grown (rdr_grown_set w' g i u)) (fun k _ (e : k = g) => by rw [e]; exact hg)
set_option maxRecDepth 100000 in
set_option maxHeartbeats 4000000 in
theorem spoil_kp (op : Int) (qt fu : Bool) (bad : Int) (oq fl ex cs dl ini : Nat) (K V : Option Addr) (nk ck nv cv : Nat) (w : World) (B U : Nat) (hUw : U ≤ w.heap.size) (hK : Wr w B U K nk) (hV : Wr w B U V nv) (hnk : nk ≤ 9223372036854775807) (hnv : nv ≤ 9223372036854775807) :
    Calls Try.prog 57 #[reqV op qt fu bad oq (.slice K nk ck) (.slice V nv cv) fl ex cs dl ini] w fun e w' => e = .returned (.tuple #[]) ∧ Kp w w' (fun k => B ≤ k ∧ k < U) := by
  have HNK := Lib.hid hnk
  have HNV := Lib.hid hnv
  clear hnk hnv
  have k1 := Blk.new w #[.int .i64 op, .bool qt, .bool fu, .int .i64 bad, .int .u32 (oq : Nat), .slice K nk ck, .slice V nv cv, .int .u32 (fl : Nat), .int .u32 (ex : Nat), .int .u64 (cs : Nat), .int .u64 (dl : Nat), .int .u64 (ini : Nat)] 26
  have b : Kp w (w.alloc (.cells #[.int .i64 op, .bool qt, .bool fu, .int .i64 bad, .int .u32 (oq : Nat), .slice K nk ck, .slice V nv cv, .int .u32 (fl : Nat), .int .u32 (ex : Nat), .int .u64 (cs : Nat), .int .u64 (dl : Nat), .int .u64 (ini : Nat)] 26)) (fun k => B ≤ k ∧ k < U) := Kp.of_below (below_a1' (Below.refl _ _) _) _
  have hK := hK.alloc (.cells #[.int .i64 op, .bool qt, .bool fu, .int .i64 bad, .int .u32 (oq : Nat), .slice K nk ck, .slice V nv cv, .int .u32 (fl : Nat), .int .u32 (ex : Nat), .int .u64 (cs : Nat), .int .u64 (dl : Nat), .int .u64 (ini : Nat)] 26)
  have hV := hV.alloc (.cells #[.int .i64 op, .bool qt, .bool fu, .int .i64 bad, .int .u32 (oq : Nat), .slice K nk ck, .slice V nv cv, .int .u32 (fl : Nat), .int .u32 (ex : Nat), .int .u64 (cs : Nat), .int .u64 (dl : Nat), .int .u64 (ini : Nat)] 26)
  unfold reqV
  go_enter Try.func57, Try.ntmps57
  go_upto_region 1 with fail
  generalize w.alloc (.cells #[.int .i64 op, .bool qt, .bool fu, .int .i64 bad, .int .u32 (oq : Nat), .slice K nk ck, .slice V nv cv, .int .u32 (fl : Nat), .int .u32 (ex : Nat), .int .u64 (cs : Nat), .int .u64 (dl : Nat), .int .u64 (ini : Nat)] 26) = W0 at k1 b hK hV ⊢
  generalize hg1 : w.heap.size = g1 at k1 hUw ⊢
  have HG1 := Lib.hid hg1
  clear hg1
  obtain ⟨z0, z1, z2, z3, z4, z5, z6, -⟩ := box12 k1
  go_wp2_with fail
  clear z0 z1 z2 z3 z4 z5 z6
  go_loopw [2, 7] (fun y i wr => ∃ j : Nat, j ≤ nk ∧ i = .int .i64 (j : Nat) ∧ Wr wr B U K nk ∧ Wr wr B U V nv ∧ Blk wr g1 #[.int .i64 op, .bool qt, .bool fu, .int .i64 bad, .int .u32 (oq : Nat), .slice K nk ck, .slice V nv cv, .int .u32 (fl : Nat), .int .u32 (ex : Nat), .int .u64 (cs : Nat), .int .u64 (dl : Nat), .int .u64 (ini : Nat)] 26 ∧ Kp w wr (fun k => B ≤ k ∧ k < U)) (fun _ i _ => nk - (intOf i).toNat)
  case atStart => exact ⟨0, Nat.zero_le _, rfl, hK, hV, k1, b⟩
  case round =>
    clear hK hV k1 b
    obtain ⟨j, hj, rfl, hK, hV, k1, b⟩ := hrel
    obtain ⟨z0, z1, z2, z3, z4, z5, z6, -⟩ := box12 k1
    by_cases hlt : j < nk
    · obtain ⟨g, v, hA, hBg, hU, hl, hc, hf⟩ := hK.at_ hlt
      subst hA
      have hlt' : ((j : Int) < (nk : Int)) = True := eq_true (by omega)
      have HLT : Hid (j + 1 ≤ nk) := Lib.hid (by omega)
      have HJP : IntKind.i64.wrap ((j : Int) + 1) = (j : Int) + 1 := IntWalk.i64_in _ (by have := HNK.out; omega)
      have HR := Lib.hid (And.intro (hK.set g j (.int .u8 238)) (And.intro (hV.set g j (.int .u8 238)) (And.intro (k1.far (p := ⟨g, j, none⟩) (show g1 ≠ g by omega) (.int .u8 238)) (kp_set b ⟨hBg, hU⟩ hl j (.int .u8 238)))))
      clear hlt hK hV k1 b
      go_wp2_with fail
      go_roundw
      case rel => exact ⟨j + 1, HLT.out, by first | rfl | go_num, HR.out.1, HR.out.2.1, HR.out.2.2.1, HR.out.2.2.2⟩
      case measure => have := HLT.out; simp [intOf]; omega
    · have hlt' : ((j : Int) < (nk : Int)) = False := eq_false (by omega)
      clear hlt hK
      go_wp2_with fail
      clear z0 z1 z2 z3 z4 z5 z6
      go_loopw [3, 18] (fun y i wr => ∃ j : Nat, j ≤ nv ∧ i = .int .i64 (j : Nat) ∧ Wr wr B U V nv ∧ Blk wr g1 #[.int .i64 op, .bool qt, .bool fu, .int .i64 bad, .int .u32 (oq : Nat), .slice K nk ck, .slice V nv cv, .int .u32 (fl : Nat), .int .u32 (ex : Nat), .int .u64 (cs : Nat), .int .u64 (dl : Nat), .int .u64 (ini : Nat)] 26 ∧ Kp w wr (fun k => B ≤ k ∧ k < U)) (fun _ i _ => nv - (intOf i).toNat)
      case atStart => exact ⟨0, Nat.zero_le _, rfl, hV, k1, b⟩
      case round =>
        clear hV k1 b hj hlt'
        obtain ⟨j2, hj, rfl, hV, k1, b⟩ := hrel
        obtain ⟨z0, z1, z2, z3, z4, z5, z6, -⟩ := box12 k1
        by_cases hlt : j2 < nv
        · obtain ⟨g, v, hA, hBg, hU, hl, hc, hf⟩ := hV.at_ hlt
          subst hA
          have hlt' : ((j2 : Int) < (nv : Int)) = True := eq_true (by omega)
          have HLT : Hid (j2 + 1 ≤ nv) := Lib.hid (by omega)
          have HJP : IntKind.i64.wrap ((j2 : Int) + 1) = (j2 : Int) + 1 := IntWalk.i64_in _ (by have := HNV.out; omega)
          have HR := Lib.hid (And.intro (hV.set g j2 (.int .u8 238)) (And.intro (k1.far (p := ⟨g, j2, none⟩) (show g1 ≠ g by omega) (.int .u8 238)) (kp_set b ⟨hBg, hU⟩ hl j2 (.int .u8 238))))
          clear hlt hV k1 b
          go_wp2_with fail
          go_roundw
          case rel => exact ⟨j2 + 1, HLT.out, by first | rfl | go_num, HR.out.1, HR.out.2.1, HR.out.2.2⟩
          case measure => have := HLT.out; simp [intOf]; omega
        · have hlt' : ((j2 : Int) < (nv : Int)) = False := eq_false (by omega)
          clear hlt hV
          go_wp2_with fail
          go_end0
          exact ⟨rfl, b⟩
end
section
open Go.RowKit

theorem rsame_self (q : RQ) (K1 V1 K2 V2 : Option Addr) (nk1 ck1 nv1 cv1 nk2 ck2 nv2 cv2 : Nat) (w : World) (h1 : Rd w w.heap.size K1 nk1 ck1 q.lk) (h2 : Rd w w.heap.size V1 nv1 cv1 q.lv) (h3 : Rd w w.heap.size K2 nk2 ck2 q.lk) (h4 : Rd w w.heap.size V2 nv2 cv2 q.lv) :
    Calls Try.prog 45 #[.agg #[.int .i64 q.op, .bool q.qt, .bool q.fu, .int .i64 q.bd, .int .u32 (q.oq : Nat), .slice K1 nk1 ck1, .slice V1 nv1 cv1, .int .u32 (q.fl : Nat), .int .u32 (q.ex : Nat), .int .u64 (q.cs : Nat), .int .u64 (q.dl : Nat), .int .u64 (q.ni : Nat)], .agg #[.int .i64 q.op, .bool q.qt, .bool q.fu, .int .i64 q.bd, .int .u32 (q.oq : Nat), .slice K2 nk2 ck2, .slice V2 nv2 cv2, .int .u32 (q.fl : Nat), .int .u32 (q.ex : Nat), .int .u64 (q.cs : Nat), .int .u64 (q.dl : Nat), .int .u64 (q.ni : Nat)]] w fun e w' => e = .returned (.bool true) ∧ Below w.heap.size w w' := by
  have h := rqsame_any q.op q.op q.bd q.bd q.qt q.qt q.fu q.fu q.oq q.oq q.fl q.fl q.ex q.ex q.cs q.cs q.dl q.dl q.ni q.ni K1 K2 V1 V2 nk1 ck1 nk2 ck2 nv1 cv1 nv2 cv2 q.lk q.lk q.lv q.lv w h1 h3 h2 h4
  rw [reqSame_yes ⟨rfl, rfl, rfl, rfl, rfl, rfl, rfl, rfl, rfl, rfl, rfl, rfl⟩] at h
  exact h
theorem rsame_zero (w : World) : Calls Try.prog 45 #[.agg #[.int .i64 0, .bool false, .bool false, .int .i64 0, .int .u32 0, .slice none 0 0, .slice none 0 0, .int .u32 0, .int .u32 0, .int .u64 0, .int .u64 0, .int .u64 0], .agg #[.int .i64 0, .bool false, .bool false, .int .i64 0, .int .u32 0, .slice none 0 0, .slice none 0 0, .int .u32 0, .int .u32 0, .int .u64 0, .int .u64 0, .int .u64 0]] w fun e w' => e = .returned (.bool true) ∧ Below w.heap.size w w' := by
  have h := rsame_self ⟨0, false, false, 0, 0, [], [], 0, 0, 0, 0, 0⟩ none none none none 0 0 0 0 0 0 0 0 w (Rd.nil _ _) (Rd.nil _ _) (Rd.nil _ _) (Rd.nil _ _)
  exact h
/-- The document's Next, where it tells no request and waits. -/
theorem rn_wait (A : Option Addr) (n c : Nat) (l : List UInt8) (w : World) (r : Rd w w.heap.size A n c l) (hx : nxt l = some none) : Calls Try.prog 84 #[.agg #[.slice A n c, .bool false]] w (RnNo A n c false 0 w) := by
  have hl := r.len
  rcases nx_wait hx with h | ⟨h1, h2, h3⟩
  · exact rnext_short A n c w (by omega)
  · exact rnext_wait A n c l w r (by omega) h2 (by omega)
theorem rn_bad (A : Option Addr) (n c : Nat) (l : List UInt8) (w : World) (r : Rd w w.heap.size A n c l) (hx : nxt l = none) : Calls Try.prog 84 #[.agg #[.slice A n c, .bool false]] w (RnNo none 0 0 true 300 w) := by
  have hl := r.len
  obtain ⟨h1, h2⟩ := nx_none hx
  exact rnext_bad A n c l w r (by omega) h2
theorem rn_yes (A : Option Addr) (n c : Nat) (l : List UInt8) (w : World) (r : Rd w w.heap.size A n c l) (hn : n ≤ 65536) (q : RQ) (N : Nat) (hx : nxt l = some (some (q, N))) : Calls Try.prog 84 #[.agg #[.slice A n c, .bool false]] w (RnYes N n l q w) := by
  have hl := r.len
  obtain ⟨h1, h2, h3, h4, h5⟩ := nx_yes hx
  rw [h3]
  exact rnext_yes A n c l w r (by omega) h2 (by omega) hn q h5
/-- The program's parser and the document's, side by side. -/
def FD (g gy : Nat) (A : Option Addr) : Nat → Prop := fun k => k = g ∨ k = gy ∨ obk A = some k
def DrS (g gy : Nat) (A YA : Option Addr) (n c yc : Nat) (u : List UInt8) (br : Bool) (w : World) : Prop :=
  PrsA w g A n c u br ∧ Blk w gy #[.slice YA n yc, .bool br] 47 ∧ RdF w (FD g gy A) YA n yc u ∧ obk A ≠ some gy
/-- The program's Next where it tells a request, written out. -/
def DxY (g N n : Nat) (A : Option Addr) (l : List UInt8) (q : RQ) (w : World) (e : Ending) (w' : World) : Prop :=
  ∃ (K2 V2 : Option Addr) (nk2 ck2 nv2 cv2 : Nat) (X3 : Option Addr) (cx3 : Nat), e = .returned (.tuple #[.agg #[.int .i64 q.op, .bool q.qt, .bool q.fu, .int .i64 q.bd, .int .u32 (q.oq : Nat), .slice K2 nk2 ck2, .slice V2 nv2 cv2, .int .u32 (q.fl : Nat), .int .u32 (q.ex : Nat), .int .u64 (q.cs : Nat), .int .u64 (q.dl : Nat), .int .u64 (q.ni : Nat)], .bool true, .int .i64 0]) ∧ PrsA w' g X3 (n - N) cx3 (l.drop N) false ∧
    Own w' w.heap.size K2 nk2 ck2 q.lk ∧ Own w' w.heap.size V2 nv2 cv2 q.lv ∧ w.grownBy w' (some g) ∧ (Value.slice X3 0 0).ownBlock = (Value.slice A 0 0).ownBlock
/-- How many bytes a parser's box holds. -/
def nOf (w : World) (g : Nat) : Nat := match w.heap[g]? with
  | some (Obj.cells cs _ _) => (match cs[0]? with | some (Value.slice _ n _) => n | _ => 0)
  | _ => 0
theorem nOf_prs {w : World} {g n c : Nat} {A : Option Addr} {l : List UInt8} {br : Bool} (h : PrsA w g A n c l br) : nOf w g = n := by
  unfold nOf
  rw [show w.heap[g]? = _ from h.1]
  rfl
/-- The two boxes. -/
def FG (g gy : Nat) : Nat → Prop := fun k => k = g ∨ k = gy
theorem fdLt {w : World} {g gy n c : Nat} {A : Option Addr} {l : List UInt8} {br : Bool} {cs : Array Value} {T : TypeId} (hp : PrsA w g A n c l br) (ky : Blk w gy cs T) : ∀ k, FD g gy A k → k < w.heap.size := by
  rintro k (rfl | rfl | hk)
  · exact hp.lt
  · exact ky.lt
  · exact (hp.2.owner k (by rw [obk_eq]; exact hk)).2
theorem PrsA.offy {w w' : World} {g gy n c : Nat} {A : Option Addr} {l : List UInt8} {br : Bool} (hp : PrsA w g A n c l br) (gs : w.grownBy w' (some gy)) (hne : gy ≠ g) (hA : obk A ≠ some gy) : PrsA w' g A n c l br :=
  ⟨hp.1.leftC gs (fun e => hne e.symm), hp.2.keptO gs (fun k h1 h2 => by rw [obk_eq] at h1; injection h2 with h2; subst h2; exact hA h1)⟩
theorem PrsA.kp {w w' : World} {g n c : Nat} {A : Option Addr} {l : List UInt8} {br : Bool} (hp : PrsA w g A n c l br) {G : Nat → Prop} (hk : Kp w w' G) (hg : ¬ G g) (hG : ∀ k, obk A = some k → ¬ G k) : PrsA w' g A n c l br := by
  refine ⟨hk.blk hp.1 hg, hp.2.1, ?_⟩
  rcases hp.2.2 with h' | ⟨g2, i, cur, hv, hgb, hh, r⟩
  · exact .inl h'
  · exact .inr ⟨g2, i, cur, hv, hgb, (hk.block g2 (Array.getElem?_eq_some_iff.1 hh).1 (hG g2 (by rw [hv]; rfl))).trans hh, r⟩
theorem Wr.low {w w' : World} {B B' U U' n : Nat} {A : Option Addr} (h : Wr w B U A n) (h' : Wr w' B' U' A n) : Wr w' B' U A n := by
  rcases h with h | ⟨g, cs, hA, hB, hU, hh, hn⟩
  · exact .inl h
  · rcases h' with h | ⟨g', cs', hA', hB', hU', hh', hn'⟩
    · exact .inl h
    · rw [hA] at hA'
      injection hA' with e
      injection e with e
      subst e
      exact .inr ⟨g, cs', hA, hB', hU, hh', hn'⟩
theorem DrS.nofd {w : World} {F : Nat → Prop} : RdF w F none 0 0 [] := ⟨Rd.nil _ _, fun k h => by cases h⟩
def DrQ (g gy : Nat) (QB : Nat → Prop) (w : World) (e : Ending) (w' : World) : Prop := e = .returned (.bool true) ∧ ∃ (A YA : Option Addr) (n c yc : Nat) (u : List UInt8) (br : Bool), DrS g gy A YA n c yc u br w' ∧ Kp w w' (FG g gy) ∧ n ≤ 65536 ∧ ∀ k, obk A = some k → QB k
set_option maxRecDepth 100000 in
set_option maxHeartbeats 8000000 in
theorem drain_any (g gy : Nat) (A YA : Option Addr) (n c yc : Nat) (u : List UInt8) (br : Bool) (w : World) (h : DrS g gy A YA n c yc u br w) (hn : n ≤ 65536) (hne : gy ≠ g) (QB : Nat → Prop) (hQ : ∀ k, obk A = some k → QB k) :
    Calls Try.prog 39 #[.pointer (some ⟨g, 0, none⟩), .pointer (some ⟨gy, 0, none⟩)] w (DrQ g gy QB w) := by
  have HNE := Lib.hid hne
  have HNA := Lib.hid hn
  clear hne hn
  go_enter Try.func39, Try.ntmps39
  go_wp2_with fail
  go_loopw [5, 6, 7, 8, 9, 10, 11] (fun x5 x6 x7 x8 x9 x10 x11 wr => ∃ (A YA : Option Addr) (n c yc : Nat) (u : List UInt8) (br : Bool), nOf wr g = n ∧ DrS g gy A YA n c yc u br wr ∧ Kp w wr (FG g gy) ∧ n ≤ 65536 ∧ ∀ k, obk A = some k → QB k) (fun _ _ _ _ _ _ _ wr => nOf wr g)
  case atStart => exact ⟨A, YA, n, c, yc, u, br, nOf_prs h.1, h, Kp.refl _ _, HNA.out, hQ⟩
  case round =>
    clear h HNA hQ
    obtain ⟨A, YA, n, c, yc, u, br, hnO, ⟨hp, ky, rY, hA⟩, hK0, hn, hQ⟩ := hrel
    have HQB := Lib.hid hQ
    clear hQ
    have HN := Lib.hid hn
    have HNO := Lib.hid hnO
    clear hn hnO
    cases br with
    | true =>
      go_wp2_with fail
      refine (next_broken g n c A u wr hp).mono ?_
      rintro e w1 ⟨rfl, b1⟩
      replace hp := hp.step b1
      replace ky := ky.step b1
      replace rY := rY.kp (Kp.of_below b1 (fun _ => False)) (fun _ _ h => h.elim) (fun _ _ h => h)
      have hK1 := Kp.of_below b1 (FG g gy)
      clear b1
      have hly5 := ky.lt
      go_upto_region 2 with fail
      have k5 := Blk.new w1 #[.int .i64 0, .bool false, .bool false, .int .i64 0, .int .u32 0, .slice none 0 0, .slice none 0 0, .int .u32 0, .int .u32 0, .int .u64 0, .int .u64 0, .int .u64 0] 26
      have ba := below_a1' (Below.refl w1.heap.size w1) (.cells #[.int .i64 0, .bool false, .bool false, .int .i64 0, .int .u32 0, .slice none 0 0, .slice none 0 0, .int .u32 0, .int .u32 0, .int .u64 0, .int .u64 0, .int .u64 0] 26)
      replace hp := hp.step ba
      replace ky := ky.step ba
      replace rY := rY.kp (Kp.of_below ba (fun _ => False)) (fun _ _ h => h.elim) (fun _ _ h => h)
      replace hK1 := hK1.trans (Kp.of_below ba (FG g gy))
      clear ba
      generalize w1.alloc (.cells #[.int .i64 0, .bool false, .bool false, .int .i64 0, .int .u32 0, .slice none 0 0, .slice none 0 0, .int .u32 0, .int .u32 0, .int .u64 0, .int .u64 0, .int .u64 0] 26) = W1 at hp ky rY hK1 k5 ⊢
      generalize w1.heap.size = g5 at k5 hly5 ⊢
      have HY5 := Lib.hid (show g5 ≠ gy by omega)
      clear hly5
      obtain ⟨z0, z1⟩ := box2 ky
      go_wp2_with fail
      refine (rnext_broken YA n yc W1).mono ?_
      rintro e w2 ⟨rfl, b2⟩
      replace hp := hp.step b2
      replace ky := ky.step b2
      replace k5 := k5.step b2
      replace rY := rY.kp (Kp.of_below b2 (fun _ => False)) (fun _ _ h => h.elim) (fun _ _ h => h)
      replace hK1 := hK1.trans (Kp.of_below b2 (FG g gy))
      clear b2 z0 z1
      have hly8 := ky.lt
      go_upto_region 3 with fail
      have k8 := (Blk.new w2 #[.slice YA n yc, .bool true] 47).alloc (.cells #[.int .i64 0, .bool false, .bool false, .int .i64 0, .int .u32 0, .slice none 0 0, .slice none 0 0, .int .u32 0, .int .u32 0, .int .u64 0, .int .u64 0, .int .u64 0] 26)
      have k9 := Blk.new (w2.alloc (.cells #[.slice YA n yc, .bool true] 47)) #[.int .i64 0, .bool false, .bool false, .int .i64 0, .int .u32 0, .slice none 0 0, .slice none 0 0, .int .u32 0, .int .u32 0, .int .u64 0, .int .u64 0, .int .u64 0] 26
      rw [World.size_alloc] at k9
      have ba := below_a1' (below_a1' (Below.refl w2.heap.size w2) (.cells #[.slice YA n yc, .bool true] 47)) (.cells #[.int .i64 0, .bool false, .bool false, .int .i64 0, .int .u32 0, .slice none 0 0, .slice none 0 0, .int .u32 0, .int .u32 0, .int .u64 0, .int .u64 0, .int .u64 0] 26)
      replace hp := hp.step ba
      replace ky := ky.step ba
      replace k5 := k5.step ba
      replace rY := rY.kp (Kp.of_below ba (fun _ => False)) (fun _ _ h => h.elim) (fun _ _ h => h)
      replace hK1 := hK1.trans (Kp.of_below ba (FG g gy))
      clear ba
      generalize (w2.alloc (.cells #[.slice YA n yc, .bool true] 47)).alloc (.cells #[.int .i64 0, .bool false, .bool false, .int .i64 0, .int .u32 0, .slice none 0 0, .slice none 0 0, .int .u32 0, .int .u32 0, .int .u64 0, .int .u64 0, .int .u64 0] 26) = W3 at hp ky k5 rY hK1 k8 k9 ⊢
      generalize w2.heap.size = g8 at k8 k9 hly8 ⊢
      have HY8 := Lib.hid (show g8 ≠ gy by omega)
      have HY9 := Lib.hid (show g8 + 1 ≠ gy by omega)
      clear hly8
      obtain ⟨z0, z1⟩ := box2 ky
      obtain ⟨v0, v1⟩ := box2 k8
      have y0 := ky.frozen 0
      have y1 := ky.frozen 1
      go_upto_region 4 with fail
      have gs := grown_set2 W3 gy (.slice YA n yc) (.bool true)
      replace hp := hp.offy gs HNE.out hA
      have rN : RdF ((W3.setCell ⟨gy, 0, none⟩ (.slice YA n yc)).setCell ⟨gy, 1, none⟩ (.bool true)) (FD g gy A) YA n yc u := rY.kp (Kp.of_grown gs) (fun _ _ h => .inr (.inl h)) (fun _ _ h => h)
      clear rY
      replace k5 := k5.leftC gs HY5.out
      replace k8 := k8.leftC gs HY8.out
      replace k9 := k9.leftC gs HY9.out
      replace hK1 := hK1.after (Kp.of_grown gs) (fun _ _ h => .inr h)
      have kyN := blk_set2 ky (.slice YA n yc) (.bool true)
      clear gs ky z0 z1 v0 v1 y0 y1
      generalize (W3.setCell ⟨gy, 0, none⟩ (.slice YA n yc)).setCell ⟨gy, 1, none⟩ (.bool true) = W4 at hp rN k5 k8 k9 hK1 kyN ⊢
      refine wp_region_noPanic ?_
      refine region_T (fun wx => Blk wx g5 #[.int .i64 0, .bool false, .bool false, .int .i64 0, .int .u32 0, .slice none 0 0, .slice none 0 0, .int .u32 0, .int .u32 0, .int .u64 0, .int .u64 0, .int .u64 0] 26 ∧ Blk wx (g8 + 1) #[.int .i64 0, .bool false, .bool false, .int .i64 0, .int .u32 0, .slice none 0 0, .slice none 0 0, .int .u32 0, .int .u32 0, .int .u64 0, .int .u64 0, .int .u64 0] 26 ∧ Blk wx gy #[.slice YA n yc, .bool true] 47 ∧ PrsA wx g A n c u true) 24 (by kernel_rfl) ?_
      have bD : Below W4.heap.size W4 W4.drew := (Below.refl _ _).drew
      replace hp := hp.step bD
      replace kyN := kyN.step bD
      replace k5 := k5.step bD
      replace k9 := k9.step bD
      replace rN := rN.kp (Kp.of_below bD (fun _ => False)) (fun _ _ h => h.elim) (fun _ _ h => h)
      replace hK1 := hK1.trans (Kp.of_below bD (FG g gy))
      clear bD k8
      have hHeld := And.intro k5 (And.intro k9 (And.intro kyN hp))
      generalize W4.drew = Y0 at hp rN k5 k9 hK1 kyN hHeld ⊢
      refine takeT (i := 0) (v := ?_) rfl (by kernel_rfl) (by kernel_rfl) (by decide) (by kernel_rfl) (by kernel_rfl) (fun _ _ _ h => h) (Or.inl ⟨by rfl, ?_⟩) hHeld ?_
      rotate_left
      · (intro wx hSw; obtain ⟨sa, sb, sc, sd⟩ := hSw; obtain ⟨a0, a1, a2, a3, a4, a5, a6, a7, a8, a9, a10, a11⟩ := box12 sa; obtain ⟨c0, c1, c2, c3, c4, c5, c6, c7, c8, c9, c10, c11⟩ := box12 sb; obtain ⟨i0, i1⟩ := box2 sc; go_simp; try (with_reducible rfl))
      try simp only [Act.put, List.setIfInBounds_toArray, List.set_cons_zero, List.set_cons_succ]
      refine takeT (i := 1) (v := ?_) rfl (by kernel_rfl) (by kernel_rfl) (by decide) (by kernel_rfl) (by kernel_rfl) (fun _ _ _ h => h) (Or.inl ⟨by rfl, ?_⟩) hHeld ?_
      rotate_left
      · (intro wx hSw; obtain ⟨sa, sb, sc, sd⟩ := hSw; obtain ⟨a0, a1, a2, a3, a4, a5, a6, a7, a8, a9, a10, a11⟩ := box12 sa; obtain ⟨c0, c1, c2, c3, c4, c5, c6, c7, c8, c9, c10, c11⟩ := box12 sb; obtain ⟨i0, i1⟩ := box2 sc; go_simp; try (with_reducible rfl))
      try simp only [Act.put, List.setIfInBounds_toArray, List.set_cons_zero, List.set_cons_succ]
      refine takeT (i := 2) (v := ?_) rfl (by kernel_rfl) (by kernel_rfl) (by decide) (by kernel_rfl) (by kernel_rfl) (fun _ _ _ h => h) (Or.inl ⟨by rfl, ?_⟩) hHeld ?_
      rotate_left
      · (intro wx hSw; obtain ⟨sa, sb, sc, sd⟩ := hSw; obtain ⟨a0, a1, a2, a3, a4, a5, a6, a7, a8, a9, a10, a11⟩ := box12 sa; obtain ⟨c0, c1, c2, c3, c4, c5, c6, c7, c8, c9, c10, c11⟩ := box12 sb; obtain ⟨i0, i1⟩ := box2 sc; go_simp; try (with_reducible rfl))
      try simp only [Act.put, List.setIfInBounds_toArray, List.set_cons_zero, List.set_cons_succ]
      refine takeT (i := 3) (v := ?_) rfl (by kernel_rfl) (by kernel_rfl) (by decide) (by kernel_rfl) (by kernel_rfl) (fun _ _ _ h => h) (Or.inl ⟨by rfl, ?_⟩) hHeld ?_
      rotate_left
      · (intro wx hSw; obtain ⟨sa, sb, sc, sd⟩ := hSw; obtain ⟨a0, a1, a2, a3, a4, a5, a6, a7, a8, a9, a10, a11⟩ := box12 sa; obtain ⟨c0, c1, c2, c3, c4, c5, c6, c7, c8, c9, c10, c11⟩ := box12 sb; obtain ⟨i0, i1⟩ := box2 sc; go_simp; try (with_reducible rfl))
      try simp only [Act.put, List.setIfInBounds_toArray, List.set_cons_zero, List.set_cons_succ]
      refine takeT (i := 4) (v := ?_) rfl (by kernel_rfl) (by kernel_rfl) (by decide) (by kernel_rfl) (by kernel_rfl) (fun _ _ _ h => h) (Or.inl ⟨by rfl, ?_⟩) hHeld ?_
      rotate_left
      · (intro wx hSw; obtain ⟨sa, sb, sc, sd⟩ := hSw; obtain ⟨a0, a1, a2, a3, a4, a5, a6, a7, a8, a9, a10, a11⟩ := box12 sa; obtain ⟨c0, c1, c2, c3, c4, c5, c6, c7, c8, c9, c10, c11⟩ := box12 sb; obtain ⟨i0, i1⟩ := box2 sc; go_simp; try (with_reducible rfl))
      try simp only [Act.put, List.setIfInBounds_toArray, List.set_cons_zero, List.set_cons_succ]
      refine takeT (i := 5) (v := ?_) rfl (by kernel_rfl) (by kernel_rfl) (by decide) (by kernel_rfl) (by kernel_rfl) (fun _ _ _ h => h) (Or.inl ⟨by rfl, ?_⟩) hHeld ?_
      rotate_left
      · (intro wx hSw; obtain ⟨sa, sb, sc, sd⟩ := hSw; obtain ⟨a0, a1, a2, a3, a4, a5, a6, a7, a8, a9, a10, a11⟩ := box12 sa; obtain ⟨c0, c1, c2, c3, c4, c5, c6, c7, c8, c9, c10, c11⟩ := box12 sb; obtain ⟨i0, i1⟩ := box2 sc; go_simp; try (with_reducible rfl))
      try simp only [Act.put, List.setIfInBounds_toArray, List.set_cons_zero, List.set_cons_succ]
      refine takeT (i := 6) (v := ?_) rfl (by kernel_rfl) (by kernel_rfl) (by decide) (by kernel_rfl) (by kernel_rfl) (fun _ _ _ h => h) (Or.inl ⟨by rfl, ?_⟩) hHeld ?_
      rotate_left
      · (intro wx hSw; obtain ⟨sa, sb, sc, sd⟩ := hSw; obtain ⟨a0, a1, a2, a3, a4, a5, a6, a7, a8, a9, a10, a11⟩ := box12 sa; obtain ⟨c0, c1, c2, c3, c4, c5, c6, c7, c8, c9, c10, c11⟩ := box12 sb; obtain ⟨i0, i1⟩ := box2 sc; go_simp; try (with_reducible rfl))
      try simp only [Act.put, List.setIfInBounds_toArray, List.set_cons_zero, List.set_cons_succ]
      refine takeT (i := 7) (v := ?_) rfl (by kernel_rfl) (by kernel_rfl) (by decide) (by kernel_rfl) (by kernel_rfl) (fun _ _ _ h => h) (Or.inl ⟨by rfl, ?_⟩) hHeld ?_
      rotate_left
      · (intro wx hSw; obtain ⟨sa, sb, sc, sd⟩ := hSw; obtain ⟨a0, a1, a2, a3, a4, a5, a6, a7, a8, a9, a10, a11⟩ := box12 sa; obtain ⟨c0, c1, c2, c3, c4, c5, c6, c7, c8, c9, c10, c11⟩ := box12 sb; obtain ⟨i0, i1⟩ := box2 sc; go_simp; try (with_reducible rfl))
      try simp only [Act.put, List.setIfInBounds_toArray, List.set_cons_zero, List.set_cons_succ]
      refine takeT (i := 8) (v := ?_) rfl (by kernel_rfl) (by kernel_rfl) (by decide) (by kernel_rfl) (by kernel_rfl) (fun _ _ _ h => h) (Or.inl ⟨by rfl, ?_⟩) hHeld ?_
      rotate_left
      · (intro wx hSw; obtain ⟨sa, sb, sc, sd⟩ := hSw; obtain ⟨a0, a1, a2, a3, a4, a5, a6, a7, a8, a9, a10, a11⟩ := box12 sa; obtain ⟨c0, c1, c2, c3, c4, c5, c6, c7, c8, c9, c10, c11⟩ := box12 sb; obtain ⟨i0, i1⟩ := box2 sc; go_simp; try (with_reducible rfl))
      try simp only [Act.put, List.setIfInBounds_toArray, List.set_cons_zero, List.set_cons_succ]
      refine takeT (i := 9) (v := ?_) rfl (by kernel_rfl) (by kernel_rfl) (by decide) (by kernel_rfl) (by kernel_rfl) (fun _ _ _ h => h) (Or.inl ⟨by rfl, ?_⟩) hHeld ?_
      rotate_left
      · (intro wx hSw; obtain ⟨sa, sb, sc, sd⟩ := hSw; obtain ⟨a0, a1, a2, a3, a4, a5, a6, a7, a8, a9, a10, a11⟩ := box12 sa; obtain ⟨c0, c1, c2, c3, c4, c5, c6, c7, c8, c9, c10, c11⟩ := box12 sb; obtain ⟨i0, i1⟩ := box2 sc; go_simp; try (with_reducible rfl))
      try simp only [Act.put, List.setIfInBounds_toArray, List.set_cons_zero, List.set_cons_succ]
      refine takeT (i := 10) (v := ?_) rfl (by kernel_rfl) (by kernel_rfl) (by decide) (by kernel_rfl) (by kernel_rfl) (fun _ _ _ h => h) (Or.inl ⟨by rfl, ?_⟩) hHeld ?_
      rotate_left
      · (intro wx hSw; obtain ⟨sa, sb, sc, sd⟩ := hSw; obtain ⟨a0, a1, a2, a3, a4, a5, a6, a7, a8, a9, a10, a11⟩ := box12 sa; obtain ⟨c0, c1, c2, c3, c4, c5, c6, c7, c8, c9, c10, c11⟩ := box12 sb; obtain ⟨i0, i1⟩ := box2 sc; go_simp; try (with_reducible rfl))
      try simp only [Act.put, List.setIfInBounds_toArray, List.set_cons_zero, List.set_cons_succ]
      refine oneT (i := 11) rfl (by kernel_rfl) (fun KK hK => ?_)
      go_simp
      refine (rsame_zero Y0).mono ?_
      rintro e Y1 ⟨rfl, b1⟩
      clear hHeld
      replace hp := hp.step b1
      replace kyN := kyN.step b1
      replace k5 := k5.step b1
      replace k9 := k9.step b1
      replace rN := rN.kp (Kp.of_below b1 (fun _ => False)) (fun _ _ h => h.elim) (fun _ _ h => h)
      replace hK1 := hK1.trans (Kp.of_below b1 (FG g gy))
      clear b1
      have hHeld := And.intro k5 (And.intro k9 (And.intro kyN hp))
      refine hK.out _ _ (fun _ => hHeld) ?_
      clear hK KK
      try simp only [Act.put, List.setIfInBounds_toArray, List.set_cons_zero, List.set_cons_succ]
      refine takeT (i := 12) (v := ?_) rfl (by kernel_rfl) (by kernel_rfl) (by decide) (by kernel_rfl) (by kernel_rfl) (fun _ _ _ h => h) (Or.inl ⟨by rfl, ?_⟩) hHeld ?_
      rotate_left
      · (intro wx hSw; obtain ⟨sa, sb, sc, sd⟩ := hSw; obtain ⟨a0, a1, a2, a3, a4, a5, a6, a7, a8, a9, a10, a11⟩ := box12 sa; obtain ⟨c0, c1, c2, c3, c4, c5, c6, c7, c8, c9, c10, c11⟩ := box12 sb; obtain ⟨i0, i1⟩ := box2 sc; go_simp; try (with_reducible rfl))
      try simp only [Act.put, List.setIfInBounds_toArray, List.set_cons_zero, List.set_cons_succ]
      refine takeT (i := 13) (v := ?_) rfl (by kernel_rfl) (by kernel_rfl) (by decide) (by kernel_rfl) (by kernel_rfl) (fun _ _ _ h => h) (Or.inl ⟨by rfl, ?_⟩) hHeld ?_
      rotate_left
      · (intro wx hSw; obtain ⟨sa, sb, sc, sd⟩ := hSw; obtain ⟨a0, a1, a2, a3, a4, a5, a6, a7, a8, a9, a10, a11⟩ := box12 sa; obtain ⟨c0, c1, c2, c3, c4, c5, c6, c7, c8, c9, c10, c11⟩ := box12 sb; obtain ⟨i0, i1⟩ := box2 sc; go_simp; try (with_reducible rfl))
      try simp only [Act.put, List.setIfInBounds_toArray, List.set_cons_zero, List.set_cons_succ]
      refine takeT (i := 14) (v := ?_) rfl (by kernel_rfl) (by kernel_rfl) (by decide) (by kernel_rfl) (by kernel_rfl) (fun _ _ _ h => h) (Or.inl ⟨by rfl, ?_⟩) hHeld ?_
      rotate_left
      · (intro wx hSw; obtain ⟨sa, sb, sc, sd⟩ := hSw; obtain ⟨a0, a1, a2, a3, a4, a5, a6, a7, a8, a9, a10, a11⟩ := box12 sa; obtain ⟨c0, c1, c2, c3, c4, c5, c6, c7, c8, c9, c10, c11⟩ := box12 sb; obtain ⟨i0, i1⟩ := box2 sc; go_simp; try (with_reducible rfl))
      try simp only [Act.put, List.setIfInBounds_toArray, List.set_cons_zero, List.set_cons_succ]
      refine takeT (i := 15) (v := ?_) rfl (by kernel_rfl) (by kernel_rfl) (by decide) (by kernel_rfl) (by kernel_rfl) (fun _ _ _ h => h) (Or.inl ⟨by rfl, ?_⟩) hHeld ?_
      rotate_left
      · (intro wx hSw; obtain ⟨sa, sb, sc, sd⟩ := hSw; obtain ⟨a0, a1, a2, a3, a4, a5, a6, a7, a8, a9, a10, a11⟩ := box12 sa; obtain ⟨c0, c1, c2, c3, c4, c5, c6, c7, c8, c9, c10, c11⟩ := box12 sb; obtain ⟨i0, i1⟩ := box2 sc; go_simp; try (with_reducible rfl))
      try simp only [Act.put, List.setIfInBounds_toArray, List.set_cons_zero, List.set_cons_succ]
      refine takeQ (i := 16) (v := .int .i64 (n : Nat)) rfl (by kernel_rfl) (by kernel_rfl) (by decide) (by kernel_rfl) (by kernel_rfl) (fun _ _ _ h => h) ⟨by rfl, fun wx hSw => ⟨38, #[.pointer (some ⟨g, 0, none⟩)], ?_, held_any g n c A u true wx hSw.2.2.2⟩⟩ hHeld ?_
      · go_simp
      try simp only [Act.put, List.setIfInBounds_toArray, List.set_cons_zero, List.set_cons_succ]
      refine takeT (i := 17) (v := ?_) rfl (by kernel_rfl) (by kernel_rfl) (by decide) (by kernel_rfl) (by kernel_rfl) (fun _ _ _ h => h) (Or.inl ⟨by rfl, ?_⟩) hHeld ?_
      rotate_left
      · (intro wx hSw; obtain ⟨sa, sb, sc, sd⟩ := hSw; obtain ⟨a0, a1, a2, a3, a4, a5, a6, a7, a8, a9, a10, a11⟩ := box12 sa; obtain ⟨c0, c1, c2, c3, c4, c5, c6, c7, c8, c9, c10, c11⟩ := box12 sb; obtain ⟨i0, i1⟩ := box2 sc; go_simp; try (with_reducible rfl))
      try simp only [Act.put, List.setIfInBounds_toArray, List.set_cons_zero, List.set_cons_succ]
      refine takeT (i := 18) (v := ?_) rfl (by kernel_rfl) (by kernel_rfl) (by decide) (by kernel_rfl) (by kernel_rfl) (fun _ _ _ h => h) (Or.inl ⟨by rfl, ?_⟩) hHeld ?_
      rotate_left
      · (intro wx hSw; obtain ⟨sa, sb, sc, sd⟩ := hSw; obtain ⟨a0, a1, a2, a3, a4, a5, a6, a7, a8, a9, a10, a11⟩ := box12 sa; obtain ⟨c0, c1, c2, c3, c4, c5, c6, c7, c8, c9, c10, c11⟩ := box12 sb; obtain ⟨i0, i1⟩ := box2 sc; go_simp; try (with_reducible rfl))
      try simp only [Act.put, List.setIfInBounds_toArray, List.set_cons_zero, List.set_cons_succ]
      refine takeT (i := 19) (v := ?_) rfl (by kernel_rfl) (by kernel_rfl) (by decide) (by kernel_rfl) (by kernel_rfl) (fun _ _ _ h => h) (Or.inl ⟨by rfl, ?_⟩) hHeld ?_
      rotate_left
      · (intro wx hSw; obtain ⟨sa, sb, sc, sd⟩ := hSw; obtain ⟨a0, a1, a2, a3, a4, a5, a6, a7, a8, a9, a10, a11⟩ := box12 sa; obtain ⟨c0, c1, c2, c3, c4, c5, c6, c7, c8, c9, c10, c11⟩ := box12 sb; obtain ⟨i0, i1⟩ := box2 sc; go_simp; try (with_reducible rfl))
      try simp only [Act.put, List.setIfInBounds_toArray, List.set_cons_zero, List.set_cons_succ]
      refine takeT (i := 20) (v := ?_) rfl (by kernel_rfl) (by kernel_rfl) (by decide) (by kernel_rfl) (by kernel_rfl) (fun _ _ _ h => h) (Or.inl ⟨by rfl, ?_⟩) hHeld ?_
      rotate_left
      · (intro wx hSw; obtain ⟨sa, sb, sc, sd⟩ := hSw; obtain ⟨a0, a1, a2, a3, a4, a5, a6, a7, a8, a9, a10, a11⟩ := box12 sa; obtain ⟨c0, c1, c2, c3, c4, c5, c6, c7, c8, c9, c10, c11⟩ := box12 sb; obtain ⟨i0, i1⟩ := box2 sc; go_simp; try (with_reducible rfl))
      try simp only [Act.put, List.setIfInBounds_toArray, List.set_cons_zero, List.set_cons_succ]
      refine takeT (i := 21) (v := ?_) rfl (by kernel_rfl) (by kernel_rfl) (by decide) (by kernel_rfl) (by kernel_rfl) (fun _ _ _ h => h) (Or.inl ⟨by rfl, ?_⟩) hHeld ?_
      rotate_left
      · (intro wx hSw; obtain ⟨sa, sb, sc, sd⟩ := hSw; obtain ⟨a0, a1, a2, a3, a4, a5, a6, a7, a8, a9, a10, a11⟩ := box12 sa; obtain ⟨c0, c1, c2, c3, c4, c5, c6, c7, c8, c9, c10, c11⟩ := box12 sb; obtain ⟨i0, i1⟩ := box2 sc; go_simp; try (with_reducible rfl))
      try simp only [Act.put, List.setIfInBounds_toArray, List.set_cons_zero, List.set_cons_succ]
      refine takeT (i := 22) (v := ?_) rfl (by kernel_rfl) (by kernel_rfl) (by decide) (by kernel_rfl) (by kernel_rfl) (fun _ _ _ h => h) (Or.inl ⟨by rfl, ?_⟩) hHeld ?_
      rotate_left
      · (intro wx hSw; obtain ⟨sa, sb, sc, sd⟩ := hSw; obtain ⟨a0, a1, a2, a3, a4, a5, a6, a7, a8, a9, a10, a11⟩ := box12 sa; obtain ⟨c0, c1, c2, c3, c4, c5, c6, c7, c8, c9, c10, c11⟩ := box12 sb; obtain ⟨i0, i1⟩ := box2 sc; go_simp; try (with_reducible rfl))
      try simp only [Act.put, List.setIfInBounds_toArray, List.set_cons_zero, List.set_cons_succ]
      refine takeT (i := 23) (v := ?_) rfl (by kernel_rfl) (by kernel_rfl) (by decide) (by kernel_rfl) (by kernel_rfl) (fun _ _ _ h => h) (Or.inl ⟨by rfl, ?_⟩) hHeld ?_
      rotate_left
      · (intro wx hSw; obtain ⟨sa, sb, sc, sd⟩ := hSw; obtain ⟨a0, a1, a2, a3, a4, a5, a6, a7, a8, a9, a10, a11⟩ := box12 sa; obtain ⟨c0, c1, c2, c3, c4, c5, c6, c7, c8, c9, c10, c11⟩ := box12 sb; obtain ⟨i0, i1⟩ := box2 sc; go_simp; try (with_reducible rfl))
      try simp only [Act.put, List.setIfInBounds_toArray, List.set_cons_zero, List.set_cons_succ]
      refine doneT (by kernel_rfl) ?_ _
      refine NoPanic.normal ?_
      clear hHeld k9
      go_wp2_with fail
      go_ret
      exact ⟨rfl, A, YA, n, c, yc, u, true, ⟨hp, kyN, rN, hA⟩, hK0.trans hK1, HN.out, HQB.out⟩
    | false =>
      cases hx : nxt u with
      | none =>
        have HXX := Lib.hid hx
        go_wp2_with fail
        refine (next_bad' g n c A u wr hp hx).mono ?_
        rintro e w1 ⟨rfl, hp', gg⟩
        have hgy : gy ≠ g := HNE.out
        replace ky := ky.leftC gg hgy
        replace rY := rY.kp (Kp.of_grown gg) (fun _ _ h => .inl h) (fun _ _ h => h)
        have hK1 := (Kp.of_grown gg).weak (fun k (h : k = g) => (show FG g gy k from .inl h))
        replace hp := hp'
        replace hA : obk (none : Option Addr) ≠ some gy := by simp [obk]
        clear gg hp' hgy
        have hly5 := ky.lt
        go_upto_region 2 with fail
        have k5 := Blk.new w1 #[.int .i64 0, .bool false, .bool false, .int .i64 0, .int .u32 0, .slice none 0 0, .slice none 0 0, .int .u32 0, .int .u32 0, .int .u64 0, .int .u64 0, .int .u64 0] 26
        have ba := below_a1' (Below.refl w1.heap.size w1) (.cells #[.int .i64 0, .bool false, .bool false, .int .i64 0, .int .u32 0, .slice none 0 0, .slice none 0 0, .int .u32 0, .int .u32 0, .int .u64 0, .int .u64 0, .int .u64 0] 26)
        replace hp := hp.step ba
        replace ky := ky.step ba
        replace rY := rY.kp (Kp.of_below ba (fun _ => False)) (fun _ _ h => h.elim) (fun _ _ h => h)
        replace hK1 := hK1.trans (Kp.of_below ba (FG g gy))
        clear ba
        generalize w1.alloc (.cells #[.int .i64 0, .bool false, .bool false, .int .i64 0, .int .u32 0, .slice none 0 0, .slice none 0 0, .int .u32 0, .int .u32 0, .int .u64 0, .int .u64 0, .int .u64 0] 26) = W1 at hp ky rY hK1 k5 ⊢
        generalize w1.heap.size = g5 at k5 hly5 ⊢
        have HY5 := Lib.hid (show g5 ≠ gy by omega)
        clear hly5
        obtain ⟨z0, z1⟩ := box2 ky
        clear hx
        go_wp2_with fail
        refine (rn_bad YA n yc u W1 rY.1 HXX.out).mono ?_
        rintro e w2 ⟨rfl, b2⟩
        replace hp := hp.step b2
        replace ky := ky.step b2
        replace k5 := k5.step b2
        replace rY := rY.kp (Kp.of_below b2 (fun _ => False)) (fun _ _ h => h.elim) (fun _ _ h => h)
        replace hK1 := hK1.trans (Kp.of_below b2 (FG g gy))
        clear b2 z0 z1
        have hly8 := ky.lt
        go_upto_region 3 with fail
        have k8 := (Blk.new w2 #[.slice none 0 0, .bool true] 47).alloc (.cells #[.int .i64 0, .bool false, .bool false, .int .i64 0, .int .u32 0, .slice none 0 0, .slice none 0 0, .int .u32 0, .int .u32 0, .int .u64 0, .int .u64 0, .int .u64 0] 26)
        have k9 := Blk.new (w2.alloc (.cells #[.slice none 0 0, .bool true] 47)) #[.int .i64 0, .bool false, .bool false, .int .i64 0, .int .u32 0, .slice none 0 0, .slice none 0 0, .int .u32 0, .int .u32 0, .int .u64 0, .int .u64 0, .int .u64 0] 26
        rw [World.size_alloc] at k9
        have ba := below_a1' (below_a1' (Below.refl w2.heap.size w2) (.cells #[.slice none 0 0, .bool true] 47)) (.cells #[.int .i64 0, .bool false, .bool false, .int .i64 0, .int .u32 0, .slice none 0 0, .slice none 0 0, .int .u32 0, .int .u32 0, .int .u64 0, .int .u64 0, .int .u64 0] 26)
        replace hp := hp.step ba
        replace ky := ky.step ba
        replace k5 := k5.step ba
        replace rY := rY.kp (Kp.of_below ba (fun _ => False)) (fun _ _ h => h.elim) (fun _ _ h => h)
        replace hK1 := hK1.trans (Kp.of_below ba (FG g gy))
        clear ba
        generalize (w2.alloc (.cells #[.slice none 0 0, .bool true] 47)).alloc (.cells #[.int .i64 0, .bool false, .bool false, .int .i64 0, .int .u32 0, .slice none 0 0, .slice none 0 0, .int .u32 0, .int .u32 0, .int .u64 0, .int .u64 0, .int .u64 0] 26) = W3 at hp ky k5 rY hK1 k8 k9 ⊢
        generalize w2.heap.size = g8 at k8 k9 hly8 ⊢
        have HY8 := Lib.hid (show g8 ≠ gy by omega)
        have HY9 := Lib.hid (show g8 + 1 ≠ gy by omega)
        clear hly8
        obtain ⟨z0, z1⟩ := box2 ky
        obtain ⟨v0, v1⟩ := box2 k8
        have y0 := ky.frozen 0
        have y1 := ky.frozen 1
        go_upto_region 4 with fail
        have gs := grown_set2 W3 gy (.slice none 0 0) (.bool true)
        replace hp := hp.offy gs HNE.out hA
        have rN : RdF ((W3.setCell ⟨gy, 0, none⟩ (.slice none 0 0)).setCell ⟨gy, 1, none⟩ (.bool true)) (FD g gy none) none 0 0 [] := DrS.nofd (F := FD g gy none)
        clear rY
        replace k5 := k5.leftC gs HY5.out
        replace k8 := k8.leftC gs HY8.out
        replace k9 := k9.leftC gs HY9.out
        replace hK1 := hK1.after (Kp.of_grown gs) (fun _ _ h => .inr h)
        have kyN := blk_set2 ky (.slice none 0 0) (.bool true)
        clear gs ky z0 z1 v0 v1 y0 y1
        generalize (W3.setCell ⟨gy, 0, none⟩ (.slice none 0 0)).setCell ⟨gy, 1, none⟩ (.bool true) = W4 at hp rN k5 k8 k9 hK1 kyN ⊢
        refine wp_region_noPanic ?_
        refine region_T (fun wx => Blk wx g5 #[.int .i64 0, .bool false, .bool false, .int .i64 0, .int .u32 0, .slice none 0 0, .slice none 0 0, .int .u32 0, .int .u32 0, .int .u64 0, .int .u64 0, .int .u64 0] 26 ∧ Blk wx (g8 + 1) #[.int .i64 0, .bool false, .bool false, .int .i64 0, .int .u32 0, .slice none 0 0, .slice none 0 0, .int .u32 0, .int .u32 0, .int .u64 0, .int .u64 0, .int .u64 0] 26 ∧ Blk wx gy #[.slice none 0 0, .bool true] 47 ∧ PrsA wx g none 0 0 [] true) 24 (by kernel_rfl) ?_
        have bD : Below W4.heap.size W4 W4.drew := (Below.refl _ _).drew
        replace hp := hp.step bD
        replace kyN := kyN.step bD
        replace k5 := k5.step bD
        replace k9 := k9.step bD
        replace rN := rN.kp (Kp.of_below bD (fun _ => False)) (fun _ _ h => h.elim) (fun _ _ h => h)
        replace hK1 := hK1.trans (Kp.of_below bD (FG g gy))
        clear bD k8
        have hHeld := And.intro k5 (And.intro k9 (And.intro kyN hp))
        generalize W4.drew = Y0 at hp rN k5 k9 hK1 kyN hHeld ⊢
        refine takeT (i := 0) (v := ?_) rfl (by kernel_rfl) (by kernel_rfl) (by decide) (by kernel_rfl) (by kernel_rfl) (fun _ _ _ h => h) (Or.inl ⟨by rfl, ?_⟩) hHeld ?_
        rotate_left
        · (intro wx hSw; obtain ⟨sa, sb, sc, sd⟩ := hSw; obtain ⟨a0, a1, a2, a3, a4, a5, a6, a7, a8, a9, a10, a11⟩ := box12 sa; obtain ⟨c0, c1, c2, c3, c4, c5, c6, c7, c8, c9, c10, c11⟩ := box12 sb; obtain ⟨i0, i1⟩ := box2 sc; go_simp; try (with_reducible rfl))
        try simp only [Act.put, List.setIfInBounds_toArray, List.set_cons_zero, List.set_cons_succ]
        refine takeT (i := 1) (v := ?_) rfl (by kernel_rfl) (by kernel_rfl) (by decide) (by kernel_rfl) (by kernel_rfl) (fun _ _ _ h => h) (Or.inl ⟨by rfl, ?_⟩) hHeld ?_
        rotate_left
        · (intro wx hSw; obtain ⟨sa, sb, sc, sd⟩ := hSw; obtain ⟨a0, a1, a2, a3, a4, a5, a6, a7, a8, a9, a10, a11⟩ := box12 sa; obtain ⟨c0, c1, c2, c3, c4, c5, c6, c7, c8, c9, c10, c11⟩ := box12 sb; obtain ⟨i0, i1⟩ := box2 sc; go_simp; try (with_reducible rfl))
        try simp only [Act.put, List.setIfInBounds_toArray, List.set_cons_zero, List.set_cons_succ]
        refine takeT (i := 2) (v := ?_) rfl (by kernel_rfl) (by kernel_rfl) (by decide) (by kernel_rfl) (by kernel_rfl) (fun _ _ _ h => h) (Or.inl ⟨by rfl, ?_⟩) hHeld ?_
        rotate_left
        · (intro wx hSw; obtain ⟨sa, sb, sc, sd⟩ := hSw; obtain ⟨a0, a1, a2, a3, a4, a5, a6, a7, a8, a9, a10, a11⟩ := box12 sa; obtain ⟨c0, c1, c2, c3, c4, c5, c6, c7, c8, c9, c10, c11⟩ := box12 sb; obtain ⟨i0, i1⟩ := box2 sc; go_simp; try (with_reducible rfl))
        try simp only [Act.put, List.setIfInBounds_toArray, List.set_cons_zero, List.set_cons_succ]
        refine takeT (i := 3) (v := ?_) rfl (by kernel_rfl) (by kernel_rfl) (by decide) (by kernel_rfl) (by kernel_rfl) (fun _ _ _ h => h) (Or.inl ⟨by rfl, ?_⟩) hHeld ?_
        rotate_left
        · (intro wx hSw; obtain ⟨sa, sb, sc, sd⟩ := hSw; obtain ⟨a0, a1, a2, a3, a4, a5, a6, a7, a8, a9, a10, a11⟩ := box12 sa; obtain ⟨c0, c1, c2, c3, c4, c5, c6, c7, c8, c9, c10, c11⟩ := box12 sb; obtain ⟨i0, i1⟩ := box2 sc; go_simp; try (with_reducible rfl))
        try simp only [Act.put, List.setIfInBounds_toArray, List.set_cons_zero, List.set_cons_succ]
        refine takeT (i := 4) (v := ?_) rfl (by kernel_rfl) (by kernel_rfl) (by decide) (by kernel_rfl) (by kernel_rfl) (fun _ _ _ h => h) (Or.inl ⟨by rfl, ?_⟩) hHeld ?_
        rotate_left
        · (intro wx hSw; obtain ⟨sa, sb, sc, sd⟩ := hSw; obtain ⟨a0, a1, a2, a3, a4, a5, a6, a7, a8, a9, a10, a11⟩ := box12 sa; obtain ⟨c0, c1, c2, c3, c4, c5, c6, c7, c8, c9, c10, c11⟩ := box12 sb; obtain ⟨i0, i1⟩ := box2 sc; go_simp; try (with_reducible rfl))
        try simp only [Act.put, List.setIfInBounds_toArray, List.set_cons_zero, List.set_cons_succ]
        refine takeT (i := 5) (v := ?_) rfl (by kernel_rfl) (by kernel_rfl) (by decide) (by kernel_rfl) (by kernel_rfl) (fun _ _ _ h => h) (Or.inl ⟨by rfl, ?_⟩) hHeld ?_
        rotate_left
        · (intro wx hSw; obtain ⟨sa, sb, sc, sd⟩ := hSw; obtain ⟨a0, a1, a2, a3, a4, a5, a6, a7, a8, a9, a10, a11⟩ := box12 sa; obtain ⟨c0, c1, c2, c3, c4, c5, c6, c7, c8, c9, c10, c11⟩ := box12 sb; obtain ⟨i0, i1⟩ := box2 sc; go_simp; try (with_reducible rfl))
        try simp only [Act.put, List.setIfInBounds_toArray, List.set_cons_zero, List.set_cons_succ]
        refine takeT (i := 6) (v := ?_) rfl (by kernel_rfl) (by kernel_rfl) (by decide) (by kernel_rfl) (by kernel_rfl) (fun _ _ _ h => h) (Or.inl ⟨by rfl, ?_⟩) hHeld ?_
        rotate_left
        · (intro wx hSw; obtain ⟨sa, sb, sc, sd⟩ := hSw; obtain ⟨a0, a1, a2, a3, a4, a5, a6, a7, a8, a9, a10, a11⟩ := box12 sa; obtain ⟨c0, c1, c2, c3, c4, c5, c6, c7, c8, c9, c10, c11⟩ := box12 sb; obtain ⟨i0, i1⟩ := box2 sc; go_simp; try (with_reducible rfl))
        try simp only [Act.put, List.setIfInBounds_toArray, List.set_cons_zero, List.set_cons_succ]
        refine takeT (i := 7) (v := ?_) rfl (by kernel_rfl) (by kernel_rfl) (by decide) (by kernel_rfl) (by kernel_rfl) (fun _ _ _ h => h) (Or.inl ⟨by rfl, ?_⟩) hHeld ?_
        rotate_left
        · (intro wx hSw; obtain ⟨sa, sb, sc, sd⟩ := hSw; obtain ⟨a0, a1, a2, a3, a4, a5, a6, a7, a8, a9, a10, a11⟩ := box12 sa; obtain ⟨c0, c1, c2, c3, c4, c5, c6, c7, c8, c9, c10, c11⟩ := box12 sb; obtain ⟨i0, i1⟩ := box2 sc; go_simp; try (with_reducible rfl))
        try simp only [Act.put, List.setIfInBounds_toArray, List.set_cons_zero, List.set_cons_succ]
        refine takeT (i := 8) (v := ?_) rfl (by kernel_rfl) (by kernel_rfl) (by decide) (by kernel_rfl) (by kernel_rfl) (fun _ _ _ h => h) (Or.inl ⟨by rfl, ?_⟩) hHeld ?_
        rotate_left
        · (intro wx hSw; obtain ⟨sa, sb, sc, sd⟩ := hSw; obtain ⟨a0, a1, a2, a3, a4, a5, a6, a7, a8, a9, a10, a11⟩ := box12 sa; obtain ⟨c0, c1, c2, c3, c4, c5, c6, c7, c8, c9, c10, c11⟩ := box12 sb; obtain ⟨i0, i1⟩ := box2 sc; go_simp; try (with_reducible rfl))
        try simp only [Act.put, List.setIfInBounds_toArray, List.set_cons_zero, List.set_cons_succ]
        refine takeT (i := 9) (v := ?_) rfl (by kernel_rfl) (by kernel_rfl) (by decide) (by kernel_rfl) (by kernel_rfl) (fun _ _ _ h => h) (Or.inl ⟨by rfl, ?_⟩) hHeld ?_
        rotate_left
        · (intro wx hSw; obtain ⟨sa, sb, sc, sd⟩ := hSw; obtain ⟨a0, a1, a2, a3, a4, a5, a6, a7, a8, a9, a10, a11⟩ := box12 sa; obtain ⟨c0, c1, c2, c3, c4, c5, c6, c7, c8, c9, c10, c11⟩ := box12 sb; obtain ⟨i0, i1⟩ := box2 sc; go_simp; try (with_reducible rfl))
        try simp only [Act.put, List.setIfInBounds_toArray, List.set_cons_zero, List.set_cons_succ]
        refine takeT (i := 10) (v := ?_) rfl (by kernel_rfl) (by kernel_rfl) (by decide) (by kernel_rfl) (by kernel_rfl) (fun _ _ _ h => h) (Or.inl ⟨by rfl, ?_⟩) hHeld ?_
        rotate_left
        · (intro wx hSw; obtain ⟨sa, sb, sc, sd⟩ := hSw; obtain ⟨a0, a1, a2, a3, a4, a5, a6, a7, a8, a9, a10, a11⟩ := box12 sa; obtain ⟨c0, c1, c2, c3, c4, c5, c6, c7, c8, c9, c10, c11⟩ := box12 sb; obtain ⟨i0, i1⟩ := box2 sc; go_simp; try (with_reducible rfl))
        try simp only [Act.put, List.setIfInBounds_toArray, List.set_cons_zero, List.set_cons_succ]
        refine oneT (i := 11) rfl (by kernel_rfl) (fun KK hK => ?_)
        go_simp
        refine (rsame_zero Y0).mono ?_
        rintro e Y1 ⟨rfl, b1⟩
        clear hHeld
        replace hp := hp.step b1
        replace kyN := kyN.step b1
        replace k5 := k5.step b1
        replace k9 := k9.step b1
        replace rN := rN.kp (Kp.of_below b1 (fun _ => False)) (fun _ _ h => h.elim) (fun _ _ h => h)
        replace hK1 := hK1.trans (Kp.of_below b1 (FG g gy))
        clear b1
        have hHeld := And.intro k5 (And.intro k9 (And.intro kyN hp))
        refine hK.out _ _ (fun _ => hHeld) ?_
        clear hK KK
        try simp only [Act.put, List.setIfInBounds_toArray, List.set_cons_zero, List.set_cons_succ]
        refine takeT (i := 12) (v := ?_) rfl (by kernel_rfl) (by kernel_rfl) (by decide) (by kernel_rfl) (by kernel_rfl) (fun _ _ _ h => h) (Or.inl ⟨by rfl, ?_⟩) hHeld ?_
        rotate_left
        · (intro wx hSw; obtain ⟨sa, sb, sc, sd⟩ := hSw; obtain ⟨a0, a1, a2, a3, a4, a5, a6, a7, a8, a9, a10, a11⟩ := box12 sa; obtain ⟨c0, c1, c2, c3, c4, c5, c6, c7, c8, c9, c10, c11⟩ := box12 sb; obtain ⟨i0, i1⟩ := box2 sc; go_simp; try (with_reducible rfl))
        try simp only [Act.put, List.setIfInBounds_toArray, List.set_cons_zero, List.set_cons_succ]
        refine takeT (i := 13) (v := ?_) rfl (by kernel_rfl) (by kernel_rfl) (by decide) (by kernel_rfl) (by kernel_rfl) (fun _ _ _ h => h) (Or.inl ⟨by rfl, ?_⟩) hHeld ?_
        rotate_left
        · (intro wx hSw; obtain ⟨sa, sb, sc, sd⟩ := hSw; obtain ⟨a0, a1, a2, a3, a4, a5, a6, a7, a8, a9, a10, a11⟩ := box12 sa; obtain ⟨c0, c1, c2, c3, c4, c5, c6, c7, c8, c9, c10, c11⟩ := box12 sb; obtain ⟨i0, i1⟩ := box2 sc; go_simp; try (with_reducible rfl))
        try simp only [Act.put, List.setIfInBounds_toArray, List.set_cons_zero, List.set_cons_succ]
        refine takeT (i := 14) (v := ?_) rfl (by kernel_rfl) (by kernel_rfl) (by decide) (by kernel_rfl) (by kernel_rfl) (fun _ _ _ h => h) (Or.inl ⟨by rfl, ?_⟩) hHeld ?_
        rotate_left
        · (intro wx hSw; obtain ⟨sa, sb, sc, sd⟩ := hSw; obtain ⟨a0, a1, a2, a3, a4, a5, a6, a7, a8, a9, a10, a11⟩ := box12 sa; obtain ⟨c0, c1, c2, c3, c4, c5, c6, c7, c8, c9, c10, c11⟩ := box12 sb; obtain ⟨i0, i1⟩ := box2 sc; go_simp; try (with_reducible rfl))
        try simp only [Act.put, List.setIfInBounds_toArray, List.set_cons_zero, List.set_cons_succ]
        refine takeT (i := 15) (v := ?_) rfl (by kernel_rfl) (by kernel_rfl) (by decide) (by kernel_rfl) (by kernel_rfl) (fun _ _ _ h => h) (Or.inl ⟨by rfl, ?_⟩) hHeld ?_
        rotate_left
        · (intro wx hSw; obtain ⟨sa, sb, sc, sd⟩ := hSw; obtain ⟨a0, a1, a2, a3, a4, a5, a6, a7, a8, a9, a10, a11⟩ := box12 sa; obtain ⟨c0, c1, c2, c3, c4, c5, c6, c7, c8, c9, c10, c11⟩ := box12 sb; obtain ⟨i0, i1⟩ := box2 sc; go_simp; try (with_reducible rfl))
        try simp only [Act.put, List.setIfInBounds_toArray, List.set_cons_zero, List.set_cons_succ]
        refine takeQ (i := 16) (v := .int .i64 (0 : Nat)) rfl (by kernel_rfl) (by kernel_rfl) (by decide) (by kernel_rfl) (by kernel_rfl) (fun _ _ _ h => h) ⟨by rfl, fun wx hSw => ⟨38, #[.pointer (some ⟨g, 0, none⟩)], ?_, held_any g 0 0 none [] true wx hSw.2.2.2⟩⟩ hHeld ?_
        · go_simp
        try simp only [Act.put, List.setIfInBounds_toArray, List.set_cons_zero, List.set_cons_succ]
        refine takeT (i := 17) (v := ?_) rfl (by kernel_rfl) (by kernel_rfl) (by decide) (by kernel_rfl) (by kernel_rfl) (fun _ _ _ h => h) (Or.inl ⟨by rfl, ?_⟩) hHeld ?_
        rotate_left
        · (intro wx hSw; obtain ⟨sa, sb, sc, sd⟩ := hSw; obtain ⟨a0, a1, a2, a3, a4, a5, a6, a7, a8, a9, a10, a11⟩ := box12 sa; obtain ⟨c0, c1, c2, c3, c4, c5, c6, c7, c8, c9, c10, c11⟩ := box12 sb; obtain ⟨i0, i1⟩ := box2 sc; go_simp; try (with_reducible rfl))
        try simp only [Act.put, List.setIfInBounds_toArray, List.set_cons_zero, List.set_cons_succ]
        refine takeT (i := 18) (v := ?_) rfl (by kernel_rfl) (by kernel_rfl) (by decide) (by kernel_rfl) (by kernel_rfl) (fun _ _ _ h => h) (Or.inl ⟨by rfl, ?_⟩) hHeld ?_
        rotate_left
        · (intro wx hSw; obtain ⟨sa, sb, sc, sd⟩ := hSw; obtain ⟨a0, a1, a2, a3, a4, a5, a6, a7, a8, a9, a10, a11⟩ := box12 sa; obtain ⟨c0, c1, c2, c3, c4, c5, c6, c7, c8, c9, c10, c11⟩ := box12 sb; obtain ⟨i0, i1⟩ := box2 sc; go_simp; try (with_reducible rfl))
        try simp only [Act.put, List.setIfInBounds_toArray, List.set_cons_zero, List.set_cons_succ]
        refine takeT (i := 19) (v := ?_) rfl (by kernel_rfl) (by kernel_rfl) (by decide) (by kernel_rfl) (by kernel_rfl) (fun _ _ _ h => h) (Or.inl ⟨by rfl, ?_⟩) hHeld ?_
        rotate_left
        · (intro wx hSw; obtain ⟨sa, sb, sc, sd⟩ := hSw; obtain ⟨a0, a1, a2, a3, a4, a5, a6, a7, a8, a9, a10, a11⟩ := box12 sa; obtain ⟨c0, c1, c2, c3, c4, c5, c6, c7, c8, c9, c10, c11⟩ := box12 sb; obtain ⟨i0, i1⟩ := box2 sc; go_simp; try (with_reducible rfl))
        try simp only [Act.put, List.setIfInBounds_toArray, List.set_cons_zero, List.set_cons_succ]
        refine takeT (i := 20) (v := ?_) rfl (by kernel_rfl) (by kernel_rfl) (by decide) (by kernel_rfl) (by kernel_rfl) (fun _ _ _ h => h) (Or.inl ⟨by rfl, ?_⟩) hHeld ?_
        rotate_left
        · (intro wx hSw; obtain ⟨sa, sb, sc, sd⟩ := hSw; obtain ⟨a0, a1, a2, a3, a4, a5, a6, a7, a8, a9, a10, a11⟩ := box12 sa; obtain ⟨c0, c1, c2, c3, c4, c5, c6, c7, c8, c9, c10, c11⟩ := box12 sb; obtain ⟨i0, i1⟩ := box2 sc; go_simp; try (with_reducible rfl))
        try simp only [Act.put, List.setIfInBounds_toArray, List.set_cons_zero, List.set_cons_succ]
        refine takeT (i := 21) (v := ?_) rfl (by kernel_rfl) (by kernel_rfl) (by decide) (by kernel_rfl) (by kernel_rfl) (fun _ _ _ h => h) (Or.inl ⟨by rfl, ?_⟩) hHeld ?_
        rotate_left
        · (intro wx hSw; obtain ⟨sa, sb, sc, sd⟩ := hSw; obtain ⟨a0, a1, a2, a3, a4, a5, a6, a7, a8, a9, a10, a11⟩ := box12 sa; obtain ⟨c0, c1, c2, c3, c4, c5, c6, c7, c8, c9, c10, c11⟩ := box12 sb; obtain ⟨i0, i1⟩ := box2 sc; go_simp; try (with_reducible rfl))
        try simp only [Act.put, List.setIfInBounds_toArray, List.set_cons_zero, List.set_cons_succ]
        refine takeT (i := 22) (v := ?_) rfl (by kernel_rfl) (by kernel_rfl) (by decide) (by kernel_rfl) (by kernel_rfl) (fun _ _ _ h => h) (Or.inl ⟨by rfl, ?_⟩) hHeld ?_
        rotate_left
        · (intro wx hSw; obtain ⟨sa, sb, sc, sd⟩ := hSw; obtain ⟨a0, a1, a2, a3, a4, a5, a6, a7, a8, a9, a10, a11⟩ := box12 sa; obtain ⟨c0, c1, c2, c3, c4, c5, c6, c7, c8, c9, c10, c11⟩ := box12 sb; obtain ⟨i0, i1⟩ := box2 sc; go_simp; try (with_reducible rfl))
        try simp only [Act.put, List.setIfInBounds_toArray, List.set_cons_zero, List.set_cons_succ]
        refine takeT (i := 23) (v := ?_) rfl (by kernel_rfl) (by kernel_rfl) (by decide) (by kernel_rfl) (by kernel_rfl) (fun _ _ _ h => h) (Or.inl ⟨by rfl, ?_⟩) hHeld ?_
        rotate_left
        · (intro wx hSw; obtain ⟨sa, sb, sc, sd⟩ := hSw; obtain ⟨a0, a1, a2, a3, a4, a5, a6, a7, a8, a9, a10, a11⟩ := box12 sa; obtain ⟨c0, c1, c2, c3, c4, c5, c6, c7, c8, c9, c10, c11⟩ := box12 sb; obtain ⟨i0, i1⟩ := box2 sc; go_simp; try (with_reducible rfl))
        try simp only [Act.put, List.setIfInBounds_toArray, List.set_cons_zero, List.set_cons_succ]
        refine doneT (by kernel_rfl) ?_ _
        refine NoPanic.normal ?_
        clear hHeld k9
        go_wp2_with fail
        go_ret
        exact ⟨rfl, none, none, 0, 0, 0, [], true, ⟨hp, kyN, rN, hA⟩, hK0.trans hK1, Nat.zero_le _, (fun k h => by cases h)⟩
      | some o =>
        cases o with
        | none =>
          have HXX := Lib.hid hx
          go_wp2_with fail
          refine (next_wait' g n c A u wr hp hx).mono ?_
          rintro e w1 ⟨rfl, b1⟩
          replace hp := hp.step b1
          replace ky := ky.step b1
          replace rY := rY.kp (Kp.of_below b1 (fun _ => False)) (fun _ _ h => h.elim) (fun _ _ h => h)
          have hK1 := Kp.of_below b1 (FG g gy)
          clear b1
          have hly5 := ky.lt
          go_upto_region 2 with fail
          have k5 := Blk.new w1 #[.int .i64 0, .bool false, .bool false, .int .i64 0, .int .u32 0, .slice none 0 0, .slice none 0 0, .int .u32 0, .int .u32 0, .int .u64 0, .int .u64 0, .int .u64 0] 26
          have ba := below_a1' (Below.refl w1.heap.size w1) (.cells #[.int .i64 0, .bool false, .bool false, .int .i64 0, .int .u32 0, .slice none 0 0, .slice none 0 0, .int .u32 0, .int .u32 0, .int .u64 0, .int .u64 0, .int .u64 0] 26)
          replace hp := hp.step ba
          replace ky := ky.step ba
          replace rY := rY.kp (Kp.of_below ba (fun _ => False)) (fun _ _ h => h.elim) (fun _ _ h => h)
          replace hK1 := hK1.trans (Kp.of_below ba (FG g gy))
          clear ba
          generalize w1.alloc (.cells #[.int .i64 0, .bool false, .bool false, .int .i64 0, .int .u32 0, .slice none 0 0, .slice none 0 0, .int .u32 0, .int .u32 0, .int .u64 0, .int .u64 0, .int .u64 0] 26) = W1 at hp ky rY hK1 k5 ⊢
          generalize w1.heap.size = g5 at k5 hly5 ⊢
          have HY5 := Lib.hid (show g5 ≠ gy by omega)
          clear hly5
          obtain ⟨z0, z1⟩ := box2 ky
          clear hx
          go_wp2_with fail
          refine (rn_wait YA n yc u W1 rY.1 HXX.out).mono ?_
          rintro e w2 ⟨rfl, b2⟩
          replace hp := hp.step b2
          replace ky := ky.step b2
          replace k5 := k5.step b2
          replace rY := rY.kp (Kp.of_below b2 (fun _ => False)) (fun _ _ h => h.elim) (fun _ _ h => h)
          replace hK1 := hK1.trans (Kp.of_below b2 (FG g gy))
          clear b2 z0 z1
          have hly8 := ky.lt
          go_upto_region 3 with fail
          have k8 := (Blk.new w2 #[.slice YA n yc, .bool false] 47).alloc (.cells #[.int .i64 0, .bool false, .bool false, .int .i64 0, .int .u32 0, .slice none 0 0, .slice none 0 0, .int .u32 0, .int .u32 0, .int .u64 0, .int .u64 0, .int .u64 0] 26)
          have k9 := Blk.new (w2.alloc (.cells #[.slice YA n yc, .bool false] 47)) #[.int .i64 0, .bool false, .bool false, .int .i64 0, .int .u32 0, .slice none 0 0, .slice none 0 0, .int .u32 0, .int .u32 0, .int .u64 0, .int .u64 0, .int .u64 0] 26
          rw [World.size_alloc] at k9
          have ba := below_a1' (below_a1' (Below.refl w2.heap.size w2) (.cells #[.slice YA n yc, .bool false] 47)) (.cells #[.int .i64 0, .bool false, .bool false, .int .i64 0, .int .u32 0, .slice none 0 0, .slice none 0 0, .int .u32 0, .int .u32 0, .int .u64 0, .int .u64 0, .int .u64 0] 26)
          replace hp := hp.step ba
          replace ky := ky.step ba
          replace k5 := k5.step ba
          replace rY := rY.kp (Kp.of_below ba (fun _ => False)) (fun _ _ h => h.elim) (fun _ _ h => h)
          replace hK1 := hK1.trans (Kp.of_below ba (FG g gy))
          clear ba
          generalize (w2.alloc (.cells #[.slice YA n yc, .bool false] 47)).alloc (.cells #[.int .i64 0, .bool false, .bool false, .int .i64 0, .int .u32 0, .slice none 0 0, .slice none 0 0, .int .u32 0, .int .u32 0, .int .u64 0, .int .u64 0, .int .u64 0] 26) = W3 at hp ky k5 rY hK1 k8 k9 ⊢
          generalize w2.heap.size = g8 at k8 k9 hly8 ⊢
          have HY8 := Lib.hid (show g8 ≠ gy by omega)
          have HY9 := Lib.hid (show g8 + 1 ≠ gy by omega)
          clear hly8
          obtain ⟨z0, z1⟩ := box2 ky
          obtain ⟨v0, v1⟩ := box2 k8
          have y0 := ky.frozen 0
          have y1 := ky.frozen 1
          go_upto_region 4 with fail
          have gs := grown_set2 W3 gy (.slice YA n yc) (.bool false)
          replace hp := hp.offy gs HNE.out hA
          have rN : RdF ((W3.setCell ⟨gy, 0, none⟩ (.slice YA n yc)).setCell ⟨gy, 1, none⟩ (.bool false)) (FD g gy A) YA n yc u := rY.kp (Kp.of_grown gs) (fun _ _ h => .inr (.inl h)) (fun _ _ h => h)
          clear rY
          replace k5 := k5.leftC gs HY5.out
          replace k8 := k8.leftC gs HY8.out
          replace k9 := k9.leftC gs HY9.out
          replace hK1 := hK1.after (Kp.of_grown gs) (fun _ _ h => .inr h)
          have kyN := blk_set2 ky (.slice YA n yc) (.bool false)
          clear gs ky z0 z1 v0 v1 y0 y1
          generalize (W3.setCell ⟨gy, 0, none⟩ (.slice YA n yc)).setCell ⟨gy, 1, none⟩ (.bool false) = W4 at hp rN k5 k8 k9 hK1 kyN ⊢
          refine wp_region_noPanic ?_
          refine region_T (fun wx => Blk wx g5 #[.int .i64 0, .bool false, .bool false, .int .i64 0, .int .u32 0, .slice none 0 0, .slice none 0 0, .int .u32 0, .int .u32 0, .int .u64 0, .int .u64 0, .int .u64 0] 26 ∧ Blk wx (g8 + 1) #[.int .i64 0, .bool false, .bool false, .int .i64 0, .int .u32 0, .slice none 0 0, .slice none 0 0, .int .u32 0, .int .u32 0, .int .u64 0, .int .u64 0, .int .u64 0] 26 ∧ Blk wx gy #[.slice YA n yc, .bool false] 47 ∧ PrsA wx g A n c u false) 24 (by kernel_rfl) ?_
          have bD : Below W4.heap.size W4 W4.drew := (Below.refl _ _).drew
          replace hp := hp.step bD
          replace kyN := kyN.step bD
          replace k5 := k5.step bD
          replace k9 := k9.step bD
          replace rN := rN.kp (Kp.of_below bD (fun _ => False)) (fun _ _ h => h.elim) (fun _ _ h => h)
          replace hK1 := hK1.trans (Kp.of_below bD (FG g gy))
          clear bD k8
          have hHeld := And.intro k5 (And.intro k9 (And.intro kyN hp))
          generalize W4.drew = Y0 at hp rN k5 k9 hK1 kyN hHeld ⊢
          refine takeT (i := 0) (v := ?_) rfl (by kernel_rfl) (by kernel_rfl) (by decide) (by kernel_rfl) (by kernel_rfl) (fun _ _ _ h => h) (Or.inl ⟨by rfl, ?_⟩) hHeld ?_
          rotate_left
          · (intro wx hSw; obtain ⟨sa, sb, sc, sd⟩ := hSw; obtain ⟨a0, a1, a2, a3, a4, a5, a6, a7, a8, a9, a10, a11⟩ := box12 sa; obtain ⟨c0, c1, c2, c3, c4, c5, c6, c7, c8, c9, c10, c11⟩ := box12 sb; obtain ⟨i0, i1⟩ := box2 sc; go_simp; try (with_reducible rfl))
          try simp only [Act.put, List.setIfInBounds_toArray, List.set_cons_zero, List.set_cons_succ]
          refine takeT (i := 1) (v := ?_) rfl (by kernel_rfl) (by kernel_rfl) (by decide) (by kernel_rfl) (by kernel_rfl) (fun _ _ _ h => h) (Or.inl ⟨by rfl, ?_⟩) hHeld ?_
          rotate_left
          · (intro wx hSw; obtain ⟨sa, sb, sc, sd⟩ := hSw; obtain ⟨a0, a1, a2, a3, a4, a5, a6, a7, a8, a9, a10, a11⟩ := box12 sa; obtain ⟨c0, c1, c2, c3, c4, c5, c6, c7, c8, c9, c10, c11⟩ := box12 sb; obtain ⟨i0, i1⟩ := box2 sc; go_simp; try (with_reducible rfl))
          try simp only [Act.put, List.setIfInBounds_toArray, List.set_cons_zero, List.set_cons_succ]
          refine takeT (i := 2) (v := ?_) rfl (by kernel_rfl) (by kernel_rfl) (by decide) (by kernel_rfl) (by kernel_rfl) (fun _ _ _ h => h) (Or.inl ⟨by rfl, ?_⟩) hHeld ?_
          rotate_left
          · (intro wx hSw; obtain ⟨sa, sb, sc, sd⟩ := hSw; obtain ⟨a0, a1, a2, a3, a4, a5, a6, a7, a8, a9, a10, a11⟩ := box12 sa; obtain ⟨c0, c1, c2, c3, c4, c5, c6, c7, c8, c9, c10, c11⟩ := box12 sb; obtain ⟨i0, i1⟩ := box2 sc; go_simp; try (with_reducible rfl))
          try simp only [Act.put, List.setIfInBounds_toArray, List.set_cons_zero, List.set_cons_succ]
          refine takeT (i := 3) (v := ?_) rfl (by kernel_rfl) (by kernel_rfl) (by decide) (by kernel_rfl) (by kernel_rfl) (fun _ _ _ h => h) (Or.inl ⟨by rfl, ?_⟩) hHeld ?_
          rotate_left
          · (intro wx hSw; obtain ⟨sa, sb, sc, sd⟩ := hSw; obtain ⟨a0, a1, a2, a3, a4, a5, a6, a7, a8, a9, a10, a11⟩ := box12 sa; obtain ⟨c0, c1, c2, c3, c4, c5, c6, c7, c8, c9, c10, c11⟩ := box12 sb; obtain ⟨i0, i1⟩ := box2 sc; go_simp; try (with_reducible rfl))
          try simp only [Act.put, List.setIfInBounds_toArray, List.set_cons_zero, List.set_cons_succ]
          refine takeT (i := 4) (v := ?_) rfl (by kernel_rfl) (by kernel_rfl) (by decide) (by kernel_rfl) (by kernel_rfl) (fun _ _ _ h => h) (Or.inl ⟨by rfl, ?_⟩) hHeld ?_
          rotate_left
          · (intro wx hSw; obtain ⟨sa, sb, sc, sd⟩ := hSw; obtain ⟨a0, a1, a2, a3, a4, a5, a6, a7, a8, a9, a10, a11⟩ := box12 sa; obtain ⟨c0, c1, c2, c3, c4, c5, c6, c7, c8, c9, c10, c11⟩ := box12 sb; obtain ⟨i0, i1⟩ := box2 sc; go_simp; try (with_reducible rfl))
          try simp only [Act.put, List.setIfInBounds_toArray, List.set_cons_zero, List.set_cons_succ]
          refine takeT (i := 5) (v := ?_) rfl (by kernel_rfl) (by kernel_rfl) (by decide) (by kernel_rfl) (by kernel_rfl) (fun _ _ _ h => h) (Or.inl ⟨by rfl, ?_⟩) hHeld ?_
          rotate_left
          · (intro wx hSw; obtain ⟨sa, sb, sc, sd⟩ := hSw; obtain ⟨a0, a1, a2, a3, a4, a5, a6, a7, a8, a9, a10, a11⟩ := box12 sa; obtain ⟨c0, c1, c2, c3, c4, c5, c6, c7, c8, c9, c10, c11⟩ := box12 sb; obtain ⟨i0, i1⟩ := box2 sc; go_simp; try (with_reducible rfl))
          try simp only [Act.put, List.setIfInBounds_toArray, List.set_cons_zero, List.set_cons_succ]
          refine takeT (i := 6) (v := ?_) rfl (by kernel_rfl) (by kernel_rfl) (by decide) (by kernel_rfl) (by kernel_rfl) (fun _ _ _ h => h) (Or.inl ⟨by rfl, ?_⟩) hHeld ?_
          rotate_left
          · (intro wx hSw; obtain ⟨sa, sb, sc, sd⟩ := hSw; obtain ⟨a0, a1, a2, a3, a4, a5, a6, a7, a8, a9, a10, a11⟩ := box12 sa; obtain ⟨c0, c1, c2, c3, c4, c5, c6, c7, c8, c9, c10, c11⟩ := box12 sb; obtain ⟨i0, i1⟩ := box2 sc; go_simp; try (with_reducible rfl))
          try simp only [Act.put, List.setIfInBounds_toArray, List.set_cons_zero, List.set_cons_succ]
          refine takeT (i := 7) (v := ?_) rfl (by kernel_rfl) (by kernel_rfl) (by decide) (by kernel_rfl) (by kernel_rfl) (fun _ _ _ h => h) (Or.inl ⟨by rfl, ?_⟩) hHeld ?_
          rotate_left
          · (intro wx hSw; obtain ⟨sa, sb, sc, sd⟩ := hSw; obtain ⟨a0, a1, a2, a3, a4, a5, a6, a7, a8, a9, a10, a11⟩ := box12 sa; obtain ⟨c0, c1, c2, c3, c4, c5, c6, c7, c8, c9, c10, c11⟩ := box12 sb; obtain ⟨i0, i1⟩ := box2 sc; go_simp; try (with_reducible rfl))
          try simp only [Act.put, List.setIfInBounds_toArray, List.set_cons_zero, List.set_cons_succ]
          refine takeT (i := 8) (v := ?_) rfl (by kernel_rfl) (by kernel_rfl) (by decide) (by kernel_rfl) (by kernel_rfl) (fun _ _ _ h => h) (Or.inl ⟨by rfl, ?_⟩) hHeld ?_
          rotate_left
          · (intro wx hSw; obtain ⟨sa, sb, sc, sd⟩ := hSw; obtain ⟨a0, a1, a2, a3, a4, a5, a6, a7, a8, a9, a10, a11⟩ := box12 sa; obtain ⟨c0, c1, c2, c3, c4, c5, c6, c7, c8, c9, c10, c11⟩ := box12 sb; obtain ⟨i0, i1⟩ := box2 sc; go_simp; try (with_reducible rfl))
          try simp only [Act.put, List.setIfInBounds_toArray, List.set_cons_zero, List.set_cons_succ]
          refine takeT (i := 9) (v := ?_) rfl (by kernel_rfl) (by kernel_rfl) (by decide) (by kernel_rfl) (by kernel_rfl) (fun _ _ _ h => h) (Or.inl ⟨by rfl, ?_⟩) hHeld ?_
          rotate_left
          · (intro wx hSw; obtain ⟨sa, sb, sc, sd⟩ := hSw; obtain ⟨a0, a1, a2, a3, a4, a5, a6, a7, a8, a9, a10, a11⟩ := box12 sa; obtain ⟨c0, c1, c2, c3, c4, c5, c6, c7, c8, c9, c10, c11⟩ := box12 sb; obtain ⟨i0, i1⟩ := box2 sc; go_simp; try (with_reducible rfl))
          try simp only [Act.put, List.setIfInBounds_toArray, List.set_cons_zero, List.set_cons_succ]
          refine takeT (i := 10) (v := ?_) rfl (by kernel_rfl) (by kernel_rfl) (by decide) (by kernel_rfl) (by kernel_rfl) (fun _ _ _ h => h) (Or.inl ⟨by rfl, ?_⟩) hHeld ?_
          rotate_left
          · (intro wx hSw; obtain ⟨sa, sb, sc, sd⟩ := hSw; obtain ⟨a0, a1, a2, a3, a4, a5, a6, a7, a8, a9, a10, a11⟩ := box12 sa; obtain ⟨c0, c1, c2, c3, c4, c5, c6, c7, c8, c9, c10, c11⟩ := box12 sb; obtain ⟨i0, i1⟩ := box2 sc; go_simp; try (with_reducible rfl))
          try simp only [Act.put, List.setIfInBounds_toArray, List.set_cons_zero, List.set_cons_succ]
          refine oneT (i := 11) rfl (by kernel_rfl) (fun KK hK => ?_)
          go_simp
          refine (rsame_zero Y0).mono ?_
          rintro e Y1 ⟨rfl, b1⟩
          clear hHeld
          replace hp := hp.step b1
          replace kyN := kyN.step b1
          replace k5 := k5.step b1
          replace k9 := k9.step b1
          replace rN := rN.kp (Kp.of_below b1 (fun _ => False)) (fun _ _ h => h.elim) (fun _ _ h => h)
          replace hK1 := hK1.trans (Kp.of_below b1 (FG g gy))
          clear b1
          have hHeld := And.intro k5 (And.intro k9 (And.intro kyN hp))
          refine hK.out _ _ (fun _ => hHeld) ?_
          clear hK KK
          try simp only [Act.put, List.setIfInBounds_toArray, List.set_cons_zero, List.set_cons_succ]
          refine takeT (i := 12) (v := ?_) rfl (by kernel_rfl) (by kernel_rfl) (by decide) (by kernel_rfl) (by kernel_rfl) (fun _ _ _ h => h) (Or.inl ⟨by rfl, ?_⟩) hHeld ?_
          rotate_left
          · (intro wx hSw; obtain ⟨sa, sb, sc, sd⟩ := hSw; obtain ⟨a0, a1, a2, a3, a4, a5, a6, a7, a8, a9, a10, a11⟩ := box12 sa; obtain ⟨c0, c1, c2, c3, c4, c5, c6, c7, c8, c9, c10, c11⟩ := box12 sb; obtain ⟨i0, i1⟩ := box2 sc; go_simp; try (with_reducible rfl))
          try simp only [Act.put, List.setIfInBounds_toArray, List.set_cons_zero, List.set_cons_succ]
          refine takeT (i := 13) (v := ?_) rfl (by kernel_rfl) (by kernel_rfl) (by decide) (by kernel_rfl) (by kernel_rfl) (fun _ _ _ h => h) (Or.inl ⟨by rfl, ?_⟩) hHeld ?_
          rotate_left
          · (intro wx hSw; obtain ⟨sa, sb, sc, sd⟩ := hSw; obtain ⟨a0, a1, a2, a3, a4, a5, a6, a7, a8, a9, a10, a11⟩ := box12 sa; obtain ⟨c0, c1, c2, c3, c4, c5, c6, c7, c8, c9, c10, c11⟩ := box12 sb; obtain ⟨i0, i1⟩ := box2 sc; go_simp; try (with_reducible rfl))
          try simp only [Act.put, List.setIfInBounds_toArray, List.set_cons_zero, List.set_cons_succ]
          refine takeT (i := 14) (v := ?_) rfl (by kernel_rfl) (by kernel_rfl) (by decide) (by kernel_rfl) (by kernel_rfl) (fun _ _ _ h => h) (Or.inl ⟨by rfl, ?_⟩) hHeld ?_
          rotate_left
          · (intro wx hSw; obtain ⟨sa, sb, sc, sd⟩ := hSw; obtain ⟨a0, a1, a2, a3, a4, a5, a6, a7, a8, a9, a10, a11⟩ := box12 sa; obtain ⟨c0, c1, c2, c3, c4, c5, c6, c7, c8, c9, c10, c11⟩ := box12 sb; obtain ⟨i0, i1⟩ := box2 sc; go_simp; try (with_reducible rfl))
          try simp only [Act.put, List.setIfInBounds_toArray, List.set_cons_zero, List.set_cons_succ]
          refine takeT (i := 15) (v := ?_) rfl (by kernel_rfl) (by kernel_rfl) (by decide) (by kernel_rfl) (by kernel_rfl) (fun _ _ _ h => h) (Or.inl ⟨by rfl, ?_⟩) hHeld ?_
          rotate_left
          · (intro wx hSw; obtain ⟨sa, sb, sc, sd⟩ := hSw; obtain ⟨a0, a1, a2, a3, a4, a5, a6, a7, a8, a9, a10, a11⟩ := box12 sa; obtain ⟨c0, c1, c2, c3, c4, c5, c6, c7, c8, c9, c10, c11⟩ := box12 sb; obtain ⟨i0, i1⟩ := box2 sc; go_simp; try (with_reducible rfl))
          try simp only [Act.put, List.setIfInBounds_toArray, List.set_cons_zero, List.set_cons_succ]
          refine takeQ (i := 16) (v := .int .i64 (n : Nat)) rfl (by kernel_rfl) (by kernel_rfl) (by decide) (by kernel_rfl) (by kernel_rfl) (fun _ _ _ h => h) ⟨by rfl, fun wx hSw => ⟨38, #[.pointer (some ⟨g, 0, none⟩)], ?_, held_any g n c A u false wx hSw.2.2.2⟩⟩ hHeld ?_
          · go_simp
          try simp only [Act.put, List.setIfInBounds_toArray, List.set_cons_zero, List.set_cons_succ]
          refine takeT (i := 17) (v := ?_) rfl (by kernel_rfl) (by kernel_rfl) (by decide) (by kernel_rfl) (by kernel_rfl) (fun _ _ _ h => h) (Or.inl ⟨by rfl, ?_⟩) hHeld ?_
          rotate_left
          · (intro wx hSw; obtain ⟨sa, sb, sc, sd⟩ := hSw; obtain ⟨a0, a1, a2, a3, a4, a5, a6, a7, a8, a9, a10, a11⟩ := box12 sa; obtain ⟨c0, c1, c2, c3, c4, c5, c6, c7, c8, c9, c10, c11⟩ := box12 sb; obtain ⟨i0, i1⟩ := box2 sc; go_simp; try (with_reducible rfl))
          try simp only [Act.put, List.setIfInBounds_toArray, List.set_cons_zero, List.set_cons_succ]
          refine takeT (i := 18) (v := ?_) rfl (by kernel_rfl) (by kernel_rfl) (by decide) (by kernel_rfl) (by kernel_rfl) (fun _ _ _ h => h) (Or.inl ⟨by rfl, ?_⟩) hHeld ?_
          rotate_left
          · (intro wx hSw; obtain ⟨sa, sb, sc, sd⟩ := hSw; obtain ⟨a0, a1, a2, a3, a4, a5, a6, a7, a8, a9, a10, a11⟩ := box12 sa; obtain ⟨c0, c1, c2, c3, c4, c5, c6, c7, c8, c9, c10, c11⟩ := box12 sb; obtain ⟨i0, i1⟩ := box2 sc; go_simp; try (with_reducible rfl))
          try simp only [Act.put, List.setIfInBounds_toArray, List.set_cons_zero, List.set_cons_succ]
          refine takeT (i := 19) (v := ?_) rfl (by kernel_rfl) (by kernel_rfl) (by decide) (by kernel_rfl) (by kernel_rfl) (fun _ _ _ h => h) (Or.inl ⟨by rfl, ?_⟩) hHeld ?_
          rotate_left
          · (intro wx hSw; obtain ⟨sa, sb, sc, sd⟩ := hSw; obtain ⟨a0, a1, a2, a3, a4, a5, a6, a7, a8, a9, a10, a11⟩ := box12 sa; obtain ⟨c0, c1, c2, c3, c4, c5, c6, c7, c8, c9, c10, c11⟩ := box12 sb; obtain ⟨i0, i1⟩ := box2 sc; go_simp; try (with_reducible rfl))
          try simp only [Act.put, List.setIfInBounds_toArray, List.set_cons_zero, List.set_cons_succ]
          refine takeT (i := 20) (v := ?_) rfl (by kernel_rfl) (by kernel_rfl) (by decide) (by kernel_rfl) (by kernel_rfl) (fun _ _ _ h => h) (Or.inl ⟨by rfl, ?_⟩) hHeld ?_
          rotate_left
          · (intro wx hSw; obtain ⟨sa, sb, sc, sd⟩ := hSw; obtain ⟨a0, a1, a2, a3, a4, a5, a6, a7, a8, a9, a10, a11⟩ := box12 sa; obtain ⟨c0, c1, c2, c3, c4, c5, c6, c7, c8, c9, c10, c11⟩ := box12 sb; obtain ⟨i0, i1⟩ := box2 sc; go_simp; try (with_reducible rfl))
          try simp only [Act.put, List.setIfInBounds_toArray, List.set_cons_zero, List.set_cons_succ]
          refine takeT (i := 21) (v := ?_) rfl (by kernel_rfl) (by kernel_rfl) (by decide) (by kernel_rfl) (by kernel_rfl) (fun _ _ _ h => h) (Or.inl ⟨by rfl, ?_⟩) hHeld ?_
          rotate_left
          · (intro wx hSw; obtain ⟨sa, sb, sc, sd⟩ := hSw; obtain ⟨a0, a1, a2, a3, a4, a5, a6, a7, a8, a9, a10, a11⟩ := box12 sa; obtain ⟨c0, c1, c2, c3, c4, c5, c6, c7, c8, c9, c10, c11⟩ := box12 sb; obtain ⟨i0, i1⟩ := box2 sc; go_simp; try (with_reducible rfl))
          try simp only [Act.put, List.setIfInBounds_toArray, List.set_cons_zero, List.set_cons_succ]
          refine takeT (i := 22) (v := ?_) rfl (by kernel_rfl) (by kernel_rfl) (by decide) (by kernel_rfl) (by kernel_rfl) (fun _ _ _ h => h) (Or.inl ⟨by rfl, ?_⟩) hHeld ?_
          rotate_left
          · (intro wx hSw; obtain ⟨sa, sb, sc, sd⟩ := hSw; obtain ⟨a0, a1, a2, a3, a4, a5, a6, a7, a8, a9, a10, a11⟩ := box12 sa; obtain ⟨c0, c1, c2, c3, c4, c5, c6, c7, c8, c9, c10, c11⟩ := box12 sb; obtain ⟨i0, i1⟩ := box2 sc; go_simp; try (with_reducible rfl))
          try simp only [Act.put, List.setIfInBounds_toArray, List.set_cons_zero, List.set_cons_succ]
          refine takeT (i := 23) (v := ?_) rfl (by kernel_rfl) (by kernel_rfl) (by decide) (by kernel_rfl) (by kernel_rfl) (fun _ _ _ h => h) (Or.inl ⟨by rfl, ?_⟩) hHeld ?_
          rotate_left
          · (intro wx hSw; obtain ⟨sa, sb, sc, sd⟩ := hSw; obtain ⟨a0, a1, a2, a3, a4, a5, a6, a7, a8, a9, a10, a11⟩ := box12 sa; obtain ⟨c0, c1, c2, c3, c4, c5, c6, c7, c8, c9, c10, c11⟩ := box12 sb; obtain ⟨i0, i1⟩ := box2 sc; go_simp; try (with_reducible rfl))
          try simp only [Act.put, List.setIfInBounds_toArray, List.set_cons_zero, List.set_cons_succ]
          refine doneT (by kernel_rfl) ?_ _
          refine NoPanic.normal ?_
          clear hHeld k9
          go_wp2_with fail
          go_ret
          exact ⟨rfl, A, YA, n, c, yc, u, false, ⟨hp, kyN, rN, hA⟩, hK0.trans hK1, HN.out, HQB.out⟩
        | some pr =>
          obtain ⟨q, N⟩ := pr
          have HGY := Lib.hid ky.lt
          have HG0 := Lib.hid hp.lt
          have HQA := Lib.hid (show ∀ k, obk A = some k → k < wr.heap.size from fun k hk => (hp.2.owner k (by rw [obk_eq]; exact hk)).2)
          have HUL := Lib.hid hp.2.len
          have HNX : Hid (Calls Try.prog 49 #[.pointer (some ⟨g, 0, none⟩)] wr (DxY g N n A u q wr)) := Lib.hid (next_yes' g n c A u wr hp q N hx)
          have HXX := Lib.hid hx
          clear hx
          go_wp2_with fail
          refine (HNX.out).mono ?_
          rintro e w1 ⟨K2, V2, nk2, ck2, nv2, cv2, X3, cx3, rfl, hp', oK, oV, gg, hX⟩
          rw [obk_eq, obk_eq] at hX
          have hgy : gy ≠ g := HNE.out
          replace ky := ky.leftC gg hgy
          replace rY : RdF w1 (FD g gy X3) YA n yc u := rY.kp (Kp.of_grown gg) (fun _ _ h => .inl h) (fun _ _ h => by unfold FD at *; rw [hX] at h; exact h)
          have hK1 := (Kp.of_grown gg).weak (fun k (h : k = g) => (show FG g gy k from .inl h))
          replace hp := hp'
          replace hA : obk X3 ≠ some gy := by rw [hX]; exact hA
          have HLG := (Lib.hid gg.size)
          have HLA := Lib.hid (show ∀ k, obk X3 = some k → k < wr.heap.size from by rw [hX]; exact HQA.out)
          have HQX := Lib.hid (show ∀ k, obk X3 = some k → QB k from fun k hk => HQB.out k (by rw [← hX]; exact hk))
          clear gg hp' hgy hX
          clear HNX
          have hly5 := ky.lt
          have hw1K := oK.wr
          have hw1V := oV.wr
          have hge1 : wr.heap.size ≤ w1.heap.size := HLG.out
          have hlA : ∀ k, obk X3 = some k → k < wr.heap.size := HLA.out
          have hlgy : gy < wr.heap.size := HGY.out
          have hlg0 : g < wr.heap.size := HG0.out
          go_upto_region 2 with fail
          have k5 := Blk.new w1 #[.int .i64 q.op, .bool q.qt, .bool q.fu, .int .i64 q.bd, .int .u32 (q.oq : Nat), .slice K2 nk2 ck2, .slice V2 nv2 cv2, .int .u32 (q.fl : Nat), .int .u32 (q.ex : Nat), .int .u64 (q.cs : Nat), .int .u64 (q.dl : Nat), .int .u64 (q.ni : Nat)] 26
          have ba := below_a1' (Below.refl w1.heap.size w1) (.cells #[.int .i64 q.op, .bool q.qt, .bool q.fu, .int .i64 q.bd, .int .u32 (q.oq : Nat), .slice K2 nk2 ck2, .slice V2 nv2 cv2, .int .u32 (q.fl : Nat), .int .u32 (q.ex : Nat), .int .u64 (q.cs : Nat), .int .u64 (q.dl : Nat), .int .u64 (q.ni : Nat)] 26)
          replace hp := hp.step ba
          replace ky := ky.step ba
          replace rY := rY.kp (Kp.of_below ba (fun _ => False)) (fun _ _ h => h.elim) (fun _ _ h => h)
          replace hK1 := hK1.trans (Kp.of_below ba (FG g gy))
          replace oK := Own.step oK ba
          replace oV := Own.step oV ba
          clear ba
          generalize w1.alloc (.cells #[.int .i64 q.op, .bool q.qt, .bool q.fu, .int .i64 q.bd, .int .u32 (q.oq : Nat), .slice K2 nk2 ck2, .slice V2 nv2 cv2, .int .u32 (q.fl : Nat), .int .u32 (q.ex : Nat), .int .u64 (q.cs : Nat), .int .u64 (q.dl : Nat), .int .u64 (q.ni : Nat)] 26) = W1 at hp ky rY hK1 k5 oK oV ⊢
          generalize w1.heap.size = g5 at k5 hly5 hw1K hw1V hge1 ⊢
          have HY5 := Lib.hid (show g5 ≠ gy by omega)
          clear hly5
          have HW := Lib.hid (And.intro hw1K (And.intro hw1V (And.intro hge1 (And.intro hlA (And.intro hlgy hlg0)))))
          have HL5 := Lib.hid k5.lt
          have HFL := Lib.hid (fdLt hp ky)
          clear hw1K hw1V hge1 hlA hlgy hlg0
          obtain ⟨z0, z1⟩ := box2 ky
          go_wp2_with fail
          refine (rn_yes YA n yc u W1 rY.1 HN.out q N HXX.out).mono ?_
          rintro e w2 ⟨K4, V4, nk4, ck4, nv4, cv4, X4, cx4, rfl, oX4, oK4, oV4, b2⟩
          replace hp := hp.step b2
          replace ky := ky.step b2
          replace k5 := k5.step b2
          replace rY := rY.kp (Kp.of_below b2 (fun _ => False)) (fun _ _ h => h.elim) (fun _ _ h => h)
          replace hK1 := hK1.trans (Kp.of_below b2 (FG g gy))
          replace oK := Own.step oK b2
          replace oV := Own.step oV b2
          have rX4 : RdF w2 (fun k => k < W1.heap.size) X4 (n - N) cx4 (u.drop N) := oX4.rdF (fun _ h => h)
          clear oX4
          clear b2 z0 z1
          have hly8 := ky.lt
          go_upto_region 3 with fail
          have k8 := (Blk.new w2 #[.slice X4 (n - N) cx4, .bool false] 47).alloc (.cells #[.int .i64 q.op, .bool q.qt, .bool q.fu, .int .i64 q.bd, .int .u32 (q.oq : Nat), .slice K4 nk4 ck4, .slice V4 nv4 cv4, .int .u32 (q.fl : Nat), .int .u32 (q.ex : Nat), .int .u64 (q.cs : Nat), .int .u64 (q.dl : Nat), .int .u64 (q.ni : Nat)] 26)
          have k9 := Blk.new (w2.alloc (.cells #[.slice X4 (n - N) cx4, .bool false] 47)) #[.int .i64 q.op, .bool q.qt, .bool q.fu, .int .i64 q.bd, .int .u32 (q.oq : Nat), .slice K4 nk4 ck4, .slice V4 nv4 cv4, .int .u32 (q.fl : Nat), .int .u32 (q.ex : Nat), .int .u64 (q.cs : Nat), .int .u64 (q.dl : Nat), .int .u64 (q.ni : Nat)] 26
          rw [World.size_alloc] at k9
          have ba := below_a1' (below_a1' (Below.refl w2.heap.size w2) (.cells #[.slice X4 (n - N) cx4, .bool false] 47)) (.cells #[.int .i64 q.op, .bool q.qt, .bool q.fu, .int .i64 q.bd, .int .u32 (q.oq : Nat), .slice K4 nk4 ck4, .slice V4 nv4 cv4, .int .u32 (q.fl : Nat), .int .u32 (q.ex : Nat), .int .u64 (q.cs : Nat), .int .u64 (q.dl : Nat), .int .u64 (q.ni : Nat)] 26)
          replace hp := hp.step ba
          replace ky := ky.step ba
          replace k5 := k5.step ba
          replace rY := rY.kp (Kp.of_below ba (fun _ => False)) (fun _ _ h => h.elim) (fun _ _ h => h)
          replace hK1 := hK1.trans (Kp.of_below ba (FG g gy))
          replace oK := Own.step oK ba
          replace oV := Own.step oV ba
          replace oK4 := Own.step oK4 ba
          replace oV4 := Own.step oV4 ba
          replace rX4 := rX4.kp (Kp.of_below ba (fun _ => False)) (fun _ _ h => h.elim) (fun _ _ h => h)
          clear ba
          generalize (w2.alloc (.cells #[.slice X4 (n - N) cx4, .bool false] 47)).alloc (.cells #[.int .i64 q.op, .bool q.qt, .bool q.fu, .int .i64 q.bd, .int .u32 (q.oq : Nat), .slice K4 nk4 ck4, .slice V4 nv4 cv4, .int .u32 (q.fl : Nat), .int .u32 (q.ex : Nat), .int .u64 (q.cs : Nat), .int .u64 (q.dl : Nat), .int .u64 (q.ni : Nat)] 26) = W3 at hp ky k5 rY hK1 k8 k9 oK oV oK4 oV4 rX4 ⊢
          generalize w2.heap.size = g8 at k8 k9 hly8 ⊢
          have HY8 := Lib.hid (show g8 ≠ gy by omega)
          have HY9 := Lib.hid (show g8 + 1 ≠ gy by omega)
          clear hly8
          obtain ⟨z0, z1⟩ := box2 ky
          obtain ⟨v0, v1⟩ := box2 k8
          have y0 := ky.frozen 0
          have y1 := ky.frozen 1
          go_upto_region 4 with fail
          have gs := grown_set2 W3 gy (.slice X4 (n - N) cx4) (.bool false)
          replace hp := hp.offy gs HNE.out hA
          have rN : RdF ((W3.setCell ⟨gy, 0, none⟩ (.slice X4 (n - N) cx4)).setCell ⟨gy, 1, none⟩ (.bool false)) (fun k => k < W1.heap.size) X4 (n - N) cx4 (u.drop N) := rX4.kp (Kp.of_grown gs) (fun k _ (h : k = gy) => by rw [h]; exact HFL.out gy (.inr (.inl rfl))) (fun _ _ h => h)
          clear rY rX4
          replace k5 := k5.leftC gs HY5.out
          replace k8 := k8.leftC gs HY8.out
          replace k9 := k9.leftC gs HY9.out
          replace hK1 := hK1.after (Kp.of_grown gs) (fun _ _ h => .inr h)
          have kyN := blk_set2 ky (.slice X4 (n - N) cx4) (.bool false)
          replace oK := oK.kept gs HW.out.2.2.2.2.1
          replace oV := oV.kept gs HW.out.2.2.2.2.1
          replace oK4 := oK4.kept gs (HFL.out gy (.inr (.inl rfl)))
          replace oV4 := oV4.kept gs (HFL.out gy (.inr (.inl rfl)))
          clear gs ky z0 z1 v0 v1 y0 y1
          generalize (W3.setCell ⟨gy, 0, none⟩ (.slice X4 (n - N) cx4)).setCell ⟨gy, 1, none⟩ (.bool false) = W4 at hp rN k5 k8 k9 hK1 kyN oK oV oK4 oV4 ⊢
          refine wp_region_noPanic ?_
          refine region_T (fun wx => Blk wx g5 #[.int .i64 q.op, .bool q.qt, .bool q.fu, .int .i64 q.bd, .int .u32 (q.oq : Nat), .slice K2 nk2 ck2, .slice V2 nv2 cv2, .int .u32 (q.fl : Nat), .int .u32 (q.ex : Nat), .int .u64 (q.cs : Nat), .int .u64 (q.dl : Nat), .int .u64 (q.ni : Nat)] 26 ∧ Blk wx (g8 + 1) #[.int .i64 q.op, .bool q.qt, .bool q.fu, .int .i64 q.bd, .int .u32 (q.oq : Nat), .slice K4 nk4 ck4, .slice V4 nv4 cv4, .int .u32 (q.fl : Nat), .int .u32 (q.ex : Nat), .int .u64 (q.cs : Nat), .int .u64 (q.dl : Nat), .int .u64 (q.ni : Nat)] 26 ∧ Blk wx gy #[.slice X4 (n - N) cx4, .bool false] 47 ∧ PrsA wx g X3 (n - N) cx3 (u.drop N) false) 24 (by kernel_rfl) ?_
          have bD : Below W4.heap.size W4 W4.drew := (Below.refl _ _).drew
          replace hp := hp.step bD
          replace kyN := kyN.step bD
          replace k5 := k5.step bD
          replace k9 := k9.step bD
          replace rN := rN.kp (Kp.of_below bD (fun _ => False)) (fun _ _ h => h.elim) (fun _ _ h => h)
          replace hK1 := hK1.trans (Kp.of_below bD (FG g gy))
          replace oK := Own.step oK bD
          replace oV := Own.step oV bD
          replace oK4 := Own.step oK4 bD
          replace oV4 := Own.step oV4 bD
          clear bD k8
          have hHeld := And.intro k5 (And.intro k9 (And.intro kyN hp))
          generalize W4.drew = Y0 at hp rN k5 k9 hK1 kyN oK oV oK4 oV4 hHeld ⊢
          refine takeT (i := 0) (v := ?_) rfl (by kernel_rfl) (by kernel_rfl) (by decide) (by kernel_rfl) (by kernel_rfl) (fun _ _ _ h => h) (Or.inl ⟨by rfl, ?_⟩) hHeld ?_
          rotate_left
          · (intro wx hSw; obtain ⟨sa, sb, sc, sd⟩ := hSw; obtain ⟨a0, a1, a2, a3, a4, a5, a6, a7, a8, a9, a10, a11⟩ := box12 sa; obtain ⟨c0, c1, c2, c3, c4, c5, c6, c7, c8, c9, c10, c11⟩ := box12 sb; obtain ⟨i0, i1⟩ := box2 sc; go_simp; try (with_reducible rfl))
          try simp only [Act.put, List.setIfInBounds_toArray, List.set_cons_zero, List.set_cons_succ]
          refine takeT (i := 1) (v := ?_) rfl (by kernel_rfl) (by kernel_rfl) (by decide) (by kernel_rfl) (by kernel_rfl) (fun _ _ _ h => h) (Or.inl ⟨by rfl, ?_⟩) hHeld ?_
          rotate_left
          · (intro wx hSw; obtain ⟨sa, sb, sc, sd⟩ := hSw; obtain ⟨a0, a1, a2, a3, a4, a5, a6, a7, a8, a9, a10, a11⟩ := box12 sa; obtain ⟨c0, c1, c2, c3, c4, c5, c6, c7, c8, c9, c10, c11⟩ := box12 sb; obtain ⟨i0, i1⟩ := box2 sc; go_simp; try (with_reducible rfl))
          try simp only [Act.put, List.setIfInBounds_toArray, List.set_cons_zero, List.set_cons_succ]
          refine takeT (i := 2) (v := ?_) rfl (by kernel_rfl) (by kernel_rfl) (by decide) (by kernel_rfl) (by kernel_rfl) (fun _ _ _ h => h) (Or.inl ⟨by rfl, ?_⟩) hHeld ?_
          rotate_left
          · (intro wx hSw; obtain ⟨sa, sb, sc, sd⟩ := hSw; obtain ⟨a0, a1, a2, a3, a4, a5, a6, a7, a8, a9, a10, a11⟩ := box12 sa; obtain ⟨c0, c1, c2, c3, c4, c5, c6, c7, c8, c9, c10, c11⟩ := box12 sb; obtain ⟨i0, i1⟩ := box2 sc; go_simp; try (with_reducible rfl))
          try simp only [Act.put, List.setIfInBounds_toArray, List.set_cons_zero, List.set_cons_succ]
          refine takeT (i := 3) (v := ?_) rfl (by kernel_rfl) (by kernel_rfl) (by decide) (by kernel_rfl) (by kernel_rfl) (fun _ _ _ h => h) (Or.inl ⟨by rfl, ?_⟩) hHeld ?_
          rotate_left
          · (intro wx hSw; obtain ⟨sa, sb, sc, sd⟩ := hSw; obtain ⟨a0, a1, a2, a3, a4, a5, a6, a7, a8, a9, a10, a11⟩ := box12 sa; obtain ⟨c0, c1, c2, c3, c4, c5, c6, c7, c8, c9, c10, c11⟩ := box12 sb; obtain ⟨i0, i1⟩ := box2 sc; go_simp; try (with_reducible rfl))
          try simp only [Act.put, List.setIfInBounds_toArray, List.set_cons_zero, List.set_cons_succ]
          refine takeT (i := 4) (v := ?_) rfl (by kernel_rfl) (by kernel_rfl) (by decide) (by kernel_rfl) (by kernel_rfl) (fun _ _ _ h => h) (Or.inl ⟨by rfl, ?_⟩) hHeld ?_
          rotate_left
          · (intro wx hSw; obtain ⟨sa, sb, sc, sd⟩ := hSw; obtain ⟨a0, a1, a2, a3, a4, a5, a6, a7, a8, a9, a10, a11⟩ := box12 sa; obtain ⟨c0, c1, c2, c3, c4, c5, c6, c7, c8, c9, c10, c11⟩ := box12 sb; obtain ⟨i0, i1⟩ := box2 sc; go_simp; try (with_reducible rfl))
          try simp only [Act.put, List.setIfInBounds_toArray, List.set_cons_zero, List.set_cons_succ]
          refine takeT (i := 5) (v := ?_) rfl (by kernel_rfl) (by kernel_rfl) (by decide) (by kernel_rfl) (by kernel_rfl) (fun _ _ _ h => h) (Or.inl ⟨by rfl, ?_⟩) hHeld ?_
          rotate_left
          · (intro wx hSw; obtain ⟨sa, sb, sc, sd⟩ := hSw; obtain ⟨a0, a1, a2, a3, a4, a5, a6, a7, a8, a9, a10, a11⟩ := box12 sa; obtain ⟨c0, c1, c2, c3, c4, c5, c6, c7, c8, c9, c10, c11⟩ := box12 sb; obtain ⟨i0, i1⟩ := box2 sc; go_simp; try (with_reducible rfl))
          try simp only [Act.put, List.setIfInBounds_toArray, List.set_cons_zero, List.set_cons_succ]
          refine takeT (i := 6) (v := ?_) rfl (by kernel_rfl) (by kernel_rfl) (by decide) (by kernel_rfl) (by kernel_rfl) (fun _ _ _ h => h) (Or.inl ⟨by rfl, ?_⟩) hHeld ?_
          rotate_left
          · (intro wx hSw; obtain ⟨sa, sb, sc, sd⟩ := hSw; obtain ⟨a0, a1, a2, a3, a4, a5, a6, a7, a8, a9, a10, a11⟩ := box12 sa; obtain ⟨c0, c1, c2, c3, c4, c5, c6, c7, c8, c9, c10, c11⟩ := box12 sb; obtain ⟨i0, i1⟩ := box2 sc; go_simp; try (with_reducible rfl))
          try simp only [Act.put, List.setIfInBounds_toArray, List.set_cons_zero, List.set_cons_succ]
          refine takeT (i := 7) (v := ?_) rfl (by kernel_rfl) (by kernel_rfl) (by decide) (by kernel_rfl) (by kernel_rfl) (fun _ _ _ h => h) (Or.inl ⟨by rfl, ?_⟩) hHeld ?_
          rotate_left
          · (intro wx hSw; obtain ⟨sa, sb, sc, sd⟩ := hSw; obtain ⟨a0, a1, a2, a3, a4, a5, a6, a7, a8, a9, a10, a11⟩ := box12 sa; obtain ⟨c0, c1, c2, c3, c4, c5, c6, c7, c8, c9, c10, c11⟩ := box12 sb; obtain ⟨i0, i1⟩ := box2 sc; go_simp; try (with_reducible rfl))
          try simp only [Act.put, List.setIfInBounds_toArray, List.set_cons_zero, List.set_cons_succ]
          refine takeT (i := 8) (v := ?_) rfl (by kernel_rfl) (by kernel_rfl) (by decide) (by kernel_rfl) (by kernel_rfl) (fun _ _ _ h => h) (Or.inl ⟨by rfl, ?_⟩) hHeld ?_
          rotate_left
          · (intro wx hSw; obtain ⟨sa, sb, sc, sd⟩ := hSw; obtain ⟨a0, a1, a2, a3, a4, a5, a6, a7, a8, a9, a10, a11⟩ := box12 sa; obtain ⟨c0, c1, c2, c3, c4, c5, c6, c7, c8, c9, c10, c11⟩ := box12 sb; obtain ⟨i0, i1⟩ := box2 sc; go_simp; try (with_reducible rfl))
          try simp only [Act.put, List.setIfInBounds_toArray, List.set_cons_zero, List.set_cons_succ]
          refine takeT (i := 9) (v := ?_) rfl (by kernel_rfl) (by kernel_rfl) (by decide) (by kernel_rfl) (by kernel_rfl) (fun _ _ _ h => h) (Or.inl ⟨by rfl, ?_⟩) hHeld ?_
          rotate_left
          · (intro wx hSw; obtain ⟨sa, sb, sc, sd⟩ := hSw; obtain ⟨a0, a1, a2, a3, a4, a5, a6, a7, a8, a9, a10, a11⟩ := box12 sa; obtain ⟨c0, c1, c2, c3, c4, c5, c6, c7, c8, c9, c10, c11⟩ := box12 sb; obtain ⟨i0, i1⟩ := box2 sc; go_simp; try (with_reducible rfl))
          try simp only [Act.put, List.setIfInBounds_toArray, List.set_cons_zero, List.set_cons_succ]
          refine takeT (i := 10) (v := ?_) rfl (by kernel_rfl) (by kernel_rfl) (by decide) (by kernel_rfl) (by kernel_rfl) (fun _ _ _ h => h) (Or.inl ⟨by rfl, ?_⟩) hHeld ?_
          rotate_left
          · (intro wx hSw; obtain ⟨sa, sb, sc, sd⟩ := hSw; obtain ⟨a0, a1, a2, a3, a4, a5, a6, a7, a8, a9, a10, a11⟩ := box12 sa; obtain ⟨c0, c1, c2, c3, c4, c5, c6, c7, c8, c9, c10, c11⟩ := box12 sb; obtain ⟨i0, i1⟩ := box2 sc; go_simp; try (with_reducible rfl))
          try simp only [Act.put, List.setIfInBounds_toArray, List.set_cons_zero, List.set_cons_succ]
          refine oneT (i := 11) rfl (by kernel_rfl) (fun KK hK => ?_)
          go_simp
          refine (rsame_self q K2 V2 K4 V4 nk2 ck2 nv2 cv2 nk4 ck4 nv4 cv4 Y0 oK.rd oV.rd oK4.rd oV4.rd).mono ?_
          rintro e Y1 ⟨rfl, b1⟩
          clear hHeld
          replace hp := hp.step b1
          replace kyN := kyN.step b1
          replace k5 := k5.step b1
          replace k9 := k9.step b1
          replace rN := rN.kp (Kp.of_below b1 (fun _ => False)) (fun _ _ h => h.elim) (fun _ _ h => h)
          replace hK1 := hK1.trans (Kp.of_below b1 (FG g gy))
          replace oK := Own.step oK b1
          replace oV := Own.step oV b1
          clear b1 oK4 oV4
          have hHeld := And.intro k5 (And.intro k9 (And.intro kyN hp))
          refine hK.out _ _ (fun _ => hHeld) ?_
          clear hK KK
          try simp only [Act.put, List.setIfInBounds_toArray, List.set_cons_zero, List.set_cons_succ]
          refine takeT (i := 12) (v := ?_) rfl (by kernel_rfl) (by kernel_rfl) (by decide) (by kernel_rfl) (by kernel_rfl) (fun _ _ _ h => h) (Or.inl ⟨by rfl, ?_⟩) hHeld ?_
          rotate_left
          · (intro wx hSw; obtain ⟨sa, sb, sc, sd⟩ := hSw; obtain ⟨a0, a1, a2, a3, a4, a5, a6, a7, a8, a9, a10, a11⟩ := box12 sa; obtain ⟨c0, c1, c2, c3, c4, c5, c6, c7, c8, c9, c10, c11⟩ := box12 sb; obtain ⟨i0, i1⟩ := box2 sc; go_simp; try (with_reducible rfl))
          try simp only [Act.put, List.setIfInBounds_toArray, List.set_cons_zero, List.set_cons_succ]
          refine takeT (i := 13) (v := ?_) rfl (by kernel_rfl) (by kernel_rfl) (by decide) (by kernel_rfl) (by kernel_rfl) (fun _ _ _ h => h) (Or.inl ⟨by rfl, ?_⟩) hHeld ?_
          rotate_left
          · (intro wx hSw; obtain ⟨sa, sb, sc, sd⟩ := hSw; obtain ⟨a0, a1, a2, a3, a4, a5, a6, a7, a8, a9, a10, a11⟩ := box12 sa; obtain ⟨c0, c1, c2, c3, c4, c5, c6, c7, c8, c9, c10, c11⟩ := box12 sb; obtain ⟨i0, i1⟩ := box2 sc; go_simp; try (with_reducible rfl))
          try simp only [Act.put, List.setIfInBounds_toArray, List.set_cons_zero, List.set_cons_succ]
          refine takeT (i := 14) (v := ?_) rfl (by kernel_rfl) (by kernel_rfl) (by decide) (by kernel_rfl) (by kernel_rfl) (fun _ _ _ h => h) (Or.inl ⟨by rfl, ?_⟩) hHeld ?_
          rotate_left
          · (intro wx hSw; obtain ⟨sa, sb, sc, sd⟩ := hSw; obtain ⟨a0, a1, a2, a3, a4, a5, a6, a7, a8, a9, a10, a11⟩ := box12 sa; obtain ⟨c0, c1, c2, c3, c4, c5, c6, c7, c8, c9, c10, c11⟩ := box12 sb; obtain ⟨i0, i1⟩ := box2 sc; go_simp; try (with_reducible rfl))
          try simp only [Act.put, List.setIfInBounds_toArray, List.set_cons_zero, List.set_cons_succ]
          refine takeT (i := 15) (v := ?_) rfl (by kernel_rfl) (by kernel_rfl) (by decide) (by kernel_rfl) (by kernel_rfl) (fun _ _ _ h => h) (Or.inl ⟨by rfl, ?_⟩) hHeld ?_
          rotate_left
          · (intro wx hSw; obtain ⟨sa, sb, sc, sd⟩ := hSw; obtain ⟨a0, a1, a2, a3, a4, a5, a6, a7, a8, a9, a10, a11⟩ := box12 sa; obtain ⟨c0, c1, c2, c3, c4, c5, c6, c7, c8, c9, c10, c11⟩ := box12 sb; obtain ⟨i0, i1⟩ := box2 sc; go_simp; try (with_reducible rfl))
          try simp only [Act.put, List.setIfInBounds_toArray, List.set_cons_zero, List.set_cons_succ]
          refine takeQ (i := 16) (v := .int .i64 ((n - N) : Nat)) rfl (by kernel_rfl) (by kernel_rfl) (by decide) (by kernel_rfl) (by kernel_rfl) (fun _ _ _ h => h) ⟨by rfl, fun wx hSw => ⟨38, #[.pointer (some ⟨g, 0, none⟩)], ?_, held_any g (n - N) cx3 X3 (u.drop N) false wx hSw.2.2.2⟩⟩ hHeld ?_
          · go_simp
          try simp only [Act.put, List.setIfInBounds_toArray, List.set_cons_zero, List.set_cons_succ]
          refine takeT (i := 17) (v := ?_) rfl (by kernel_rfl) (by kernel_rfl) (by decide) (by kernel_rfl) (by kernel_rfl) (fun _ _ _ h => h) (Or.inl ⟨by rfl, ?_⟩) hHeld ?_
          rotate_left
          · (intro wx hSw; obtain ⟨sa, sb, sc, sd⟩ := hSw; obtain ⟨a0, a1, a2, a3, a4, a5, a6, a7, a8, a9, a10, a11⟩ := box12 sa; obtain ⟨c0, c1, c2, c3, c4, c5, c6, c7, c8, c9, c10, c11⟩ := box12 sb; obtain ⟨i0, i1⟩ := box2 sc; go_simp; try (with_reducible rfl))
          try simp only [Act.put, List.setIfInBounds_toArray, List.set_cons_zero, List.set_cons_succ]
          refine takeT (i := 18) (v := ?_) rfl (by kernel_rfl) (by kernel_rfl) (by decide) (by kernel_rfl) (by kernel_rfl) (fun _ _ _ h => h) (Or.inl ⟨by rfl, ?_⟩) hHeld ?_
          rotate_left
          · (intro wx hSw; obtain ⟨sa, sb, sc, sd⟩ := hSw; obtain ⟨a0, a1, a2, a3, a4, a5, a6, a7, a8, a9, a10, a11⟩ := box12 sa; obtain ⟨c0, c1, c2, c3, c4, c5, c6, c7, c8, c9, c10, c11⟩ := box12 sb; obtain ⟨i0, i1⟩ := box2 sc; go_simp; try (with_reducible rfl))
          try simp only [Act.put, List.setIfInBounds_toArray, List.set_cons_zero, List.set_cons_succ]
          refine takeT (i := 19) (v := ?_) rfl (by kernel_rfl) (by kernel_rfl) (by decide) (by kernel_rfl) (by kernel_rfl) (fun _ _ _ h => h) (Or.inl ⟨by rfl, ?_⟩) hHeld ?_
          rotate_left
          · (intro wx hSw; obtain ⟨sa, sb, sc, sd⟩ := hSw; obtain ⟨a0, a1, a2, a3, a4, a5, a6, a7, a8, a9, a10, a11⟩ := box12 sa; obtain ⟨c0, c1, c2, c3, c4, c5, c6, c7, c8, c9, c10, c11⟩ := box12 sb; obtain ⟨i0, i1⟩ := box2 sc; go_simp; try (with_reducible rfl))
          try simp only [Act.put, List.setIfInBounds_toArray, List.set_cons_zero, List.set_cons_succ]
          refine takeT (i := 20) (v := ?_) rfl (by kernel_rfl) (by kernel_rfl) (by decide) (by kernel_rfl) (by kernel_rfl) (fun _ _ _ h => h) (Or.inl ⟨by rfl, ?_⟩) hHeld ?_
          rotate_left
          · (intro wx hSw; obtain ⟨sa, sb, sc, sd⟩ := hSw; obtain ⟨a0, a1, a2, a3, a4, a5, a6, a7, a8, a9, a10, a11⟩ := box12 sa; obtain ⟨c0, c1, c2, c3, c4, c5, c6, c7, c8, c9, c10, c11⟩ := box12 sb; obtain ⟨i0, i1⟩ := box2 sc; go_simp; try (with_reducible rfl))
          try simp only [Act.put, List.setIfInBounds_toArray, List.set_cons_zero, List.set_cons_succ]
          refine takeT (i := 21) (v := ?_) rfl (by kernel_rfl) (by kernel_rfl) (by decide) (by kernel_rfl) (by kernel_rfl) (fun _ _ _ h => h) (Or.inl ⟨by rfl, ?_⟩) hHeld ?_
          rotate_left
          · (intro wx hSw; obtain ⟨sa, sb, sc, sd⟩ := hSw; obtain ⟨a0, a1, a2, a3, a4, a5, a6, a7, a8, a9, a10, a11⟩ := box12 sa; obtain ⟨c0, c1, c2, c3, c4, c5, c6, c7, c8, c9, c10, c11⟩ := box12 sb; obtain ⟨i0, i1⟩ := box2 sc; go_simp; try (with_reducible rfl))
          try simp only [Act.put, List.setIfInBounds_toArray, List.set_cons_zero, List.set_cons_succ]
          refine takeT (i := 22) (v := ?_) rfl (by kernel_rfl) (by kernel_rfl) (by decide) (by kernel_rfl) (by kernel_rfl) (fun _ _ _ h => h) (Or.inl ⟨by rfl, ?_⟩) hHeld ?_
          rotate_left
          · (intro wx hSw; obtain ⟨sa, sb, sc, sd⟩ := hSw; obtain ⟨a0, a1, a2, a3, a4, a5, a6, a7, a8, a9, a10, a11⟩ := box12 sa; obtain ⟨c0, c1, c2, c3, c4, c5, c6, c7, c8, c9, c10, c11⟩ := box12 sb; obtain ⟨i0, i1⟩ := box2 sc; go_simp; try (with_reducible rfl))
          try simp only [Act.put, List.setIfInBounds_toArray, List.set_cons_zero, List.set_cons_succ]
          refine takeT (i := 23) (v := ?_) rfl (by kernel_rfl) (by kernel_rfl) (by decide) (by kernel_rfl) (by kernel_rfl) (fun _ _ _ h => h) (Or.inl ⟨by rfl, ?_⟩) hHeld ?_
          rotate_left
          · (intro wx hSw; obtain ⟨sa, sb, sc, sd⟩ := hSw; obtain ⟨a0, a1, a2, a3, a4, a5, a6, a7, a8, a9, a10, a11⟩ := box12 sa; obtain ⟨c0, c1, c2, c3, c4, c5, c6, c7, c8, c9, c10, c11⟩ := box12 sb; obtain ⟨i0, i1⟩ := box2 sc; go_simp; try (with_reducible rfl))
          try simp only [Act.put, List.setIfInBounds_toArray, List.set_cons_zero, List.set_cons_succ]
          refine doneT (by kernel_rfl) ?_ _
          refine NoPanic.normal ?_
          clear hHeld k9
          have hc1 := oK.rd.cap
          have hc2 := oK.rd.max
          have hc3 := oV.rd.cap
          have hc4 := oV.rd.max
          unfold maxLen at hc2 hc4
          have HC := Lib.hid (show nk2 ≤ 9223372036854775807 ∧ nv2 ≤ 9223372036854775807 by omega)
          clear hc1 hc2 hc3 hc4
          have HSP : Hid (Calls Try.prog 57 #[.agg #[.int .i64 q.op, .bool q.qt, .bool q.fu, .int .i64 q.bd, .int .u32 (q.oq : Nat), .slice K2 nk2 ck2, .slice V2 nv2 cv2, .int .u32 (q.fl : Nat), .int .u32 (q.ex : Nat), .int .u64 (q.cs : Nat), .int .u64 (q.dl : Nat), .int .u64 (q.ni : Nat)]] Y1 fun e w' => e = .returned (.tuple #[]) ∧ Kp Y1 w' (fun k => wr.heap.size ≤ k ∧ k < g5)) := Lib.hid (spoil_kp q.op q.qt q.fu q.bd q.oq q.fl q.ex q.cs q.dl q.ni K2 V2 nk2 ck2 nv2 cv2 Y1 wr.heap.size g5 (Nat.le_of_lt k5.lt) (HW.out.1.low oK.wr) (HW.out.2.1.low oV.wr) HC.out.1 HC.out.2)
          obtain ⟨h0, h1, h2, h3, h4, h5, h6, h7, h8, h9, h10, h11⟩ := box12 k5
          go_wp2_with fail
          refine HSP.out.mono ?_
          rintro e Y2 ⟨rfl, b1⟩
          clear HSP h0 h1 h2 h3 h4 h5 h6 h7 h8 h9 h10 h11
          replace hp := hp.kp b1 (fun h => by have := HW.out.2.2.2.2.2; omega) (fun k hk h => by have := HW.out.2.2.2.1 k hk; omega)
          replace kyN := b1.blk kyN (fun h => by have := HW.out.2.2.2.2.1; omega)
          have rF : RdF Y2 (FD g gy X3) X4 (n - N) cx4 (u.drop N) := (rN.kp b1 (fun k _ h => by have := HL5.out; show k < W1.heap.size; omega) (fun _ _ h => h)).weak (fun k _ h => HFL.out k h)
          have hK2 := (hK0.trans hK1).after b1 (fun k hk h => by have := hK0.size; omega)
          have hst := nxt_step HXX.out
          have HLL := Lib.hid (show 24 ≤ N ∧ N ≤ n by have := HUL.out; omega)
          clear rN hK1 hst
          go_wp2_with fail
          go_roundw
          case rel => exact ⟨X3, X4, n - N, cx3, cx4, u.drop N, false, nOf_prs hp, ⟨hp, kyN, rF, hA⟩, hK2, by have := HN.out; omega, HQX.out⟩
          case measure => have := HLL.out; have := nOf_prs hp; have := HNO.out; omega
end
section
open Go.ChangeShapes Go.WideShapes Go.ChangeAt Go.RowKit
section
variable {H : Type} {enc : TypeId × Value → H} {W : World}

theorem weights_all {P : Program} {e : TypeId} : ∀ {ds : List (DataW H)} {d : DataW H}, d ∈ ds → ∀ m ∈ d.weights P e, m ∈ DataW.weightsAll P e ds
  | d0 :: ds, d, hd, m, hm => by
    simp only [DataW.weightsAll, List.mem_append]
    rcases List.mem_cons.1 hd with rfl | hd
    · exact Or.inl hm
    · exact Or.inr (weights_all hd m hm)

/-- A slice of elements of type E, k cells each. R: what is said of an element and its cells; S: of its size. -/
theorem trod_list {α : Type} {P : Program} {T E : TypeId} {k : Nat} (R : α → List Value → Prop) (S : α → Prop) {fuel : Nat} {cs : List Value} {x : DataW H × List MemPlace}
    (hT : P.underlying T = some (.slice E)) (hk : P.cellsOf E = k) (hk0 : 0 < k)
    (hR : ∀ (fuel : Nat) (cs : List Value) (x : DataW H × List MemPlace), DataW.trod enc P W 0 (fun _ => true) true fuel E cs = some x → ∃ a, R a cs ∧ ((∀ m ∈ x.1.weights P E, m ≤ reachBytes) → S a))
    (h : DataW.trod enc P W 0 (fun _ => true) true fuel T cs = some x) :
    ∃ (A : Option Addr) (n c : Nat) (l : List α), cs = [.slice A n c] ∧ l.length = n ∧ n ≤ c ∧ c ≤ maxLen ∧ (A = none → c = 0) ∧
      (∀ i a, l[i]? = some a → ∃ ad vs, A = some ad ∧ ad.block < W.heap.size ∧ R a vs ∧ vs.length = k ∧ ∀ j u, vs[j]? = some u → W.cell? (ad.add (i * k + j)) = some u) ∧
      ((∀ m ∈ x.1.weights P T, m ≤ reachBytes) → c * P.bytesOf E ≤ reachBytes ∧ ∀ a ∈ l, S a) := by
  rcases Go.Deep.open_slice hT h with ⟨rfl, rfl⟩ | ⟨a, len, cap, m, n, D, Pl, rfl, _, hl, hm, hmm, rfl, hi⟩
  · exact ⟨none, 0, 0, [], rfl, rfl, Nat.le_refl _, by simp [maxLen], fun _ => rfl, fun i a h => by simp at h, fun _ => ⟨by simp, fun a h => by simp at h⟩⟩
  · simp only [if_true] at hmm
    obtain rfl : m = cap := hmm
    have each : ∀ i, i < len → ∃ b, (∃ vs, R b vs ∧ vs.length = k ∧ ∀ j u, vs[j]? = some u → W.cell? (a.add (i * k + j)) = some u) ∧ ((∀ q ∈ (D i).weights P E, q ≤ reachBytes) → S b) := by
      intro i hi'
      obtain ⟨vs, hc, ht⟩ := hi i (by omega)
      obtain ⟨b, hb, hs⟩ := hR n vs _ ht
      obtain ⟨_, hvl, hat⟩ := World.cells?_some hc
      rw [hk] at hvl hat
      refine ⟨b, ⟨vs, hb, hvl, fun j u hu => ?_⟩, hs⟩
      have hj : j < k := by have := (List.getElem?_eq_some_iff.1 hu).1; omega
      have h1 := hat j hj
      rw [add_add] at h1
      rw [h1, hu]
    obtain ⟨l, hll, hl2⟩ : ∃ l : List α, l.length = len ∧ ∀ i b, l[i]? = some b → (∃ vs, R b vs ∧ vs.length = k ∧ ∀ j u, vs[j]? = some u → W.cell? (a.add (i * k + j)) = some u) ∧ ((∀ q ∈ (D i).weights P E, q ≤ reachBytes) → S b) := by
      clear hi hl h
      induction len with
      | zero => exact ⟨[], rfl, fun i b h => by simp at h⟩
      | succ len ih =>
        obtain ⟨l, h1, h2⟩ := ih (fun i hi' => each i (by omega))
        obtain ⟨b, hb⟩ := each len (by omega)
        refine ⟨l ++ [b], by simp [h1], fun i c hc => ?_⟩
        rcases Nat.lt_or_ge i l.length with hlt | hge
        · rw [List.getElem?_append_left hlt] at hc
          exact h2 i c hc
        · rw [List.getElem?_append_right hge] at hc
          have h0 : i - l.length = 0 := by
            have := (List.getElem?_eq_some_iff.1 hc).1
            simp at this; omega
          rw [h0] at hc
          simp at hc
          subst hc
          have : i = len := by omega
          subst this
          exact hb
    refine ⟨some a, len, m, l, rfl, hll, hl, hm, (fun h => by cases h), fun i b hb => ?_, fun hw => ?_⟩
    · obtain ⟨⟨vs, h1, h2, h3⟩, _⟩ := hl2 i b hb
      refine ⟨a, vs, rfl, ?_, h1, h2, h3⟩
      have h0 := h3 0 (vs[0]'(by omega)) (List.getElem?_eq_getElem (by omega))
      have := World.block_lt_of_cell? W _ h0
      rwa [block_add] at this
    · refine ⟨?_, fun b hb => ?_⟩
      · have := hw _ (by simp only [DataW.weights, hT]; exact List.mem_cons_self ..)
        simp only [List.length_map, List.length_range] at this
        rwa [show len + (m - len) = m from by omega] at this
      · obtain ⟨i, hi', hib⟩ := List.getElem_of_mem hb
        have h1 := (hl2 i b (by rw [List.getElem?_eq_getElem hi', hib])).2
        refine h1 fun q hq => hw q ?_
        simp only [DataW.weights, hT]
        refine List.mem_cons_of_mem _ (List.mem_append.2 (Or.inl (weights_all (d := D i) ?_ q hq)))
        exact List.mem_map.2 ⟨i, List.mem_range.2 (by omega), rfl⟩
end
end
section
section
open Go.ChangeShapes Go.WideShapes Go.ChangeAt Go.RowKit

abbrev Pc : Type := Option Addr × Nat × Nat × List UInt8
def pcV (p : Pc) : Value := .slice p.1 p.2.1 p.2.2.1
/-- Pieces. -/
def Pcs (W : World) (B : Nat) (A : Option Addr) (n c : Nat) (L : List Pc) : Prop := Rz W B 1 A n c (L.map pcV) ∧ ∀ p ∈ L, Rd W B p.1 p.2.1 p.2.2.1 p.2.2.2 ∧ p.2.2.1 ≤ 140737488351232
section
variable {H : Type} {enc : TypeId × Value → H} {W : World}
set_option maxRecDepth 100000 in
theorem open_pieces {v : Value} {d : DataW H} {p : List MemPlace} {base : Nat} (hv : Value.okWide Try.prog W .any base 43 v) (h : DataW.Trod enc Try.prog W 0 (fun _ => true) true 43 v d p) :
    ∃ (A : Option Addr) (n c : Nat) (L : List Pc), v = .slice A n c ∧ (Rz W W.heap.size 1 A n c (L.map pcV) ∧ ∀ p ∈ L, Rd W W.heap.size p.1 p.2.1 p.2.2.1 p.2.2.2) ∧ ((∀ m ∈ d.weights Try.prog 43, m ≤ reachBytes) → ∀ p ∈ L, p.2.2.1 ≤ 140737488351232) := by
  obtain ⟨a, n, c, rfl⟩ := okWide_slice Try.underlying43 hv
  obtain ⟨fuel, hf⟩ := h
  obtain ⟨A, n', c', L, hcs, hl, hnc, hcm, hA, hel, hw⟩ := trod_list (k := 1) (fun (a : Pc) cs => cs = [pcV a] ∧ Rd W W.heap.size a.1 a.2.1 a.2.2.1 a.2.2.2) (fun a => a.2.2.1 ≤ 140737488351232) Try.underlying43 cells_u8s (by omega)
    (fun fuel cs x h => by
      obtain ⟨A2, n2, c2, l2, rfl, r2, s2⟩ := trod_bytes h
      exact ⟨(A2, n2, c2, l2), ⟨rfl, r2⟩, fun hw => s2 hw⟩) hf
  simp [Value.cells] at hcs
  obtain ⟨rfl, rfl, rfl⟩ := hcs
  refine ⟨_, _, _, L, rfl, ⟨⟨by rw [List.length_map, hl, Nat.mul_one], hnc, hcm, hA, fun ad h0 hn => ?_, fun ad i u h0 hu => ?_⟩, fun x hx => ?_⟩, fun hm => (hw hm).2⟩
  · obtain ⟨ad', vs, h1, h2, _⟩ := hel 0 _ (List.getElem?_eq_getElem (by omega))
    rw [h0] at h1
    injection h1 with h1
    subst h1
    exact h2
  · rw [List.getElem?_map] at hu
    obtain ⟨x, hx, rfl⟩ := Option.map_eq_some_iff.1 hu
    obtain ⟨ad', vs, h1, _, ⟨h3, _⟩, _, h4⟩ := hel _ _ hx
    rw [h0] at h1
    injection h1 with h1
    subst h1
    subst h3
    have := h4 0 _ rfl
    rwa [Nat.mul_one, Nat.add_zero] at this
  · obtain ⟨i, hi, rfl⟩ := List.getElem_of_mem hx
    obtain ⟨_, _, _, _, h1, _⟩ := hel i _ (List.getElem?_eq_getElem hi)
    exact h1.2
end
end
open Go.RowKit
theorem Pcs.step {w w' : World} {A : Option Addr} {n c : Nat} {L : List Pc} (h : Pcs w w.heap.size A n c L) (b : Below w.heap.size w w') : Pcs w' w'.heap.size A n c L := ⟨h.1.step b, fun p hp => ⟨(h.2 p hp).1.step b, (h.2 p hp).2⟩⟩
theorem pc_at {w : World} {B n c : Nat} {A : Option Addr} {L : List Pc} (h : Rz w B 1 A n c (L.map pcV)) {j : Nat} (hj : j < n) : ∃ (ad : Addr) (p : Pc), A = some ad ∧ L[j]? = some p ∧ w.cell? (ad.add j) = some (.slice p.1 p.2.1 p.2.2.1) := by
  obtain ⟨ad, u, hA, -, hu, hc⟩ := Rv.some_ h.one hj
  rw [List.getElem?_map] at hu
  obtain ⟨p, hp, rfl⟩ := Option.map_eq_some_iff.1 hu
  exact ⟨ad, p, hA, hp, hc⟩
theorem slinfo : (Try.prog.info? 23).map (fun i => (i.zero, i.size, i.bytes)) = some (some (.slice none 0 0), 1, 24) := by kernel_rfl
theorem wpl_appS (w : World) {ops : Array Oper} {rest : List Oper} {o : Oper} {a : Act} {Q : Exit → Act → World → Prop}
    (hg : Region.wanted o (yielded ops a.tmps) = true) (s x : Operand) (hop : o.op = Op.call { callee := Callee.builtin Builtin.append, args := #[s, x], argTypes := #[43, 43] })
    (B : Nat) (A : Option Addr) (n c : Nat) (xs : List Value) (hs : a.eval s = .slice A n c) (hown : Oz w B 23 1 A n c xs)
    (B2 : Nat) (A2 : Option Addr) (m c2 : Nat) (news : List Value) (hx : a.eval x = .slice A2 m c2) (hr : Rz w B2 1 A2 m c2 news) (h1 : ∀ u ∈ news, u.oneCell' = true)
    (hbytes : n + m ≤ 200000000000) (hbase : B ≤ w.heap.size)
    (hK : ∀ A' c' w', Oz w' B 23 1 A' (n + m) c' (xs ++ news) → Below B w w' → wpList Try.prog ops Q rest (a.put o.dst (.slice A' (n + m) c')) w') :
    wpList Try.prog ops Q (o :: rest) a w := by
  obtain ⟨i, hi, hz, hsz, hby⟩ := info_parts slinfo
  refine wpList_want hg fun K hK' => ?_
  obtain ⟨A', c', w', hrun, r1, r2, r3⟩ := run_appz (P := Try.prog) w B 43 o.type 23 i _ 1 24 Try.underlying43 hi hz hsz hby rfl (by omega) A n c xs hown B2 A2 m c2 news hr h1 (by unfold maxLen; omega) (by omega) hbase
  unfold Oper.wp
  simp [execOp, hop, resolve, invoke, builtin, hs, hx, hrun, Result.andThen]
  refine hK' _ _ (hK A' c' w' r1 ?_)
  exact (Below.refl B w).grown r2 hbase fun k hk => (hown.at' k hk).1
def CutQ (L : List Pc) (w : World) (e : Ending) (w' : World) : Prop := ∃ (k : Nat) (OA : Option Addr) (oc : Nat), k ≤ L.length ∧ e = .returned (.slice OA k oc) ∧ Oz w' w.heap.size 23 1 OA k oc ((L.take k).map pcV) ∧ Below w.heap.size w w'
set_option maxRecDepth 100000 in
set_option maxHeartbeats 4000000 in
theorem cut_any (A : Option Addr) (n c : Nat) (L : List Pc) (w : World) (h : Pcs w w.heap.size A n c L) : Calls Try.prog 35 #[.slice A n c] w (CutQ L w) := by
  have hln : L.length = n := by have := h.1.len; rw [List.length_map, Nat.mul_one] at this; exact this
  have hmx := h.1.max
  have hcp := h.1.cap
  unfold maxLen at hmx
  have HLN := Lib.hid hln
  have HMX : Hid (n ≤ 9223372036854775807) := Lib.hid (by omega)
  clear hln hmx hcp
  go_enter Try.func35, Try.ntmps35
  go_wp2_with fail
  go_loopw [3, 4, 5, 6, 9] (fun s3 s4 s5 s6 s9 wr => ∃ (j nn : Nat) (OA : Option Addr) (oc : Nat), j ≤ n ∧ j ≤ 60 ∧ nn ≤ 262144 ∧ s3 = .slice OA j oc ∧ s4 = .int .i64 (nn : Nat) ∧ s9 = .int .i64 (j : Nat) ∧ Oz wr w.heap.size 23 1 OA j oc ((L.take j).map pcV) ∧ Below w.heap.size w wr) (fun _ _ _ _ s9 _ => n - (intOf s9).toNat)
  case atStart => exact ⟨0, 0, none, 0, Nat.zero_le _, Nat.zero_le _, Nat.zero_le _, rfl, rfl, rfl, Oz.nil _ _ _ _, Below.refl _ _⟩
  case round =>
    obtain ⟨j, nn, OA, oc, hj, hj6, hnn, rfl, rfl, rfl, ho, b⟩ := hrel
    by_cases hlt : j < n
    · obtain ⟨ad, p, hA, hp, hcell⟩ := pc_at (h.1.below b) hlt
      subst hA
      have hlt' : ((j : Int) < (n : Int)) = True := eq_true (by omega)
      have HP := Lib.hid hp
      have hpm := (h.2 p (List.mem_of_getElem? hp)).2
      have hpc := (h.2 p (List.mem_of_getElem? hp)).1.cap
      obtain ⟨PA, pn, pk, pl⟩ := p
      simp only at hcell hpm hpc
      have HSN : Hid ((L.take (j + 1)).map pcV = (L.map pcV).take j ++ [.slice PA pn pk]) := Lib.hid (by rw [List.take_add_one, HP.out, List.map_append, List.map_take]; rfl)
      have W1 : IntKind.i64.wrap ((nn : Int) + (pn : Int)) = (nn : Int) + (pn : Int) := IntWalk.i64_in _ (by omega)
      have HJP : IntKind.i64.wrap ((j : Int) + 1) = (j : Int) + 1 := IntWalk.i64_in _ (by omega)
      have HLT : Hid (j + 1 ≤ n) := Lib.hid (by omega)
      have HE : Hid (CutQ L w (.returned (.slice OA j oc)) wr) := Lib.hid ⟨j, OA, oc, by rw [HLN.out]; exact hj, rfl, ho, b⟩
      clear hlt hp hpc
      by_cases h6 : j = 60
      · have e6 : ((j : Int) == 60) = true := beq_iff_eq.2 (by omega)
        clear h6 hj6
        go_wp2_with fail
        go_ret
        exact HE.out
      · have e6 : ((j : Int) == 60) = false := beq_eq_false_iff_ne.2 (by omega)
        have HJ6 : Hid (j + 1 ≤ 60) := Lib.hid (by omega)
        by_cases h7 : 262144 < nn + pn
        · have e7 : ((262144 : Int) < (nn : Int) + (pn : Int)) = True := eq_true (by omega)
          clear h6 h7 hj6
          go_wp2_with fail
          go_ret
          exact HE.out
        · have e7 : ((262144 : Int) < (nn : Int) + (pn : Int)) = False := eq_false (by omega)
          have HNN : Hid (nn + pn ≤ 262144) := Lib.hid (by omega)
          clear h6 h7 hj6 HE
          have rn := Rz.new1 wr #[.slice PA pn pk] 23 1 rfl
          have oa := ho.alloc (.cells #[.slice PA pn pk] 23)
          have ba := below_a1' b (.cells #[.slice PA pn pk] 23)
          have hj60 := HJ6.out
          go_wp2_with (at_builtin; refine wpl_appS _ rfl _ _ rfl w.heap.size OA j oc ((L.take j).map pcV) rfl oa _ _ 1 1 [.slice PA pn pk] rfl rn (by intro u hu; rw [List.mem_singleton] at hu; subst hu; rfl) (by omega) (by have := ba.size; omega) ?_)
          intro A5 c5 w5 o5 b5
          have b6 := ba.trans b5
          rw [← HSN.out] at o5
          clear rn oa ba b5 hcell
          go_wp2_with fail
          go_roundw
          case rel => exact ⟨j + 1, nn + pn, A5, c5, HLT.out, HJ6.out, HNN.out, rfl, by first | rfl | go_num, by first | rfl | go_num, o5, b6⟩
          case measure => have := HLT.out; simp [intOf]; omega
    · have hlt' : ((j : Int) < (n : Int)) = False := eq_false (by omega)
      have HE : Hid (CutQ L w (.returned (.slice OA j oc)) wr) := Lib.hid ⟨j, OA, oc, by rw [HLN.out]; exact hj, rfl, ho, b⟩
      clear hlt
      go_wp2_with fail
      go_ret
      exact HE.out
end
section
open Go.RowKit

theorem tell_len {l : List UInt8} : (tell l).2.1.length ≤ l.length := by
  generalize hn : l.length = n
  induction n using Nat.strongRecOn generalizing l with
  | ind n ih =>
    cases hx : nxt l with
    | none => rw [tell_bad hx]; exact Nat.zero_le _
    | some o =>
      cases o with
      | none => rw [tell_no hx]; exact Nat.le_of_eq hn
      | some p =>
        obtain ⟨q, N⟩ := p
        have hs := nxt_step hx
        rw [tell_yes hx]
        have hd : (l.drop N).length = l.length - N := List.length_drop
        have := ih (l.length - N) (by omega) (l := l.drop N) hd
        show (tell (l.drop N)).2.1.length ≤ n
        omega
theorem tell_few {l : List UInt8} : (tell l).1.length ≤ l.length := by
  generalize hn : l.length = n
  induction n using Nat.strongRecOn generalizing l with
  | ind n ih =>
    cases hx : nxt l with
    | none => rw [tell_bad hx]; exact Nat.zero_le _
    | some o =>
      cases o with
      | none => rw [tell_no hx]; exact Nat.zero_le _
      | some p =>
        obtain ⟨q, N⟩ := p
        have hs := nxt_step hx
        rw [tell_yes hx]
        have hd : (l.drop N).length = l.length - N := List.length_drop
        have := ih (l.length - N) (by omega) (l := l.drop N) hd
        show ((tell (l.drop N)).1.length + 1) ≤ n
        omega
theorem Oz.kp {w w' : World} {B z n c : Nat} {e : TypeId} {A : Option Addr} {xs : List Value} (h : Oz w B e z A n c xs) {G : Nat → Prop} (hk : Kp w w' G) (hG : ∀ k, obk A = some k → ¬ G k) : Oz w' B e z A n c xs := by
  refine ⟨h.1, ?_⟩
  rcases h.2 with h' | ⟨g, cap, cur, hv, hg, hh, r⟩
  · exact Or.inl h'
  · refine Or.inr ⟨g, cap, cur, hv, hg, (hk.block g (Array.getElem?_eq_some_iff.1 hh).1 (hG g ?_)).trans hh, r⟩
    injection hv with e1
    subst e1
    rfl
theorem Oz.own {w : World} {B z n c : Nat} {e : TypeId} {A : Option Addr} {xs : List Value} (h : Oz w B e z A n c xs) : ∀ k, obk A = some k → B ≤ k ∧ k < w.heap.size := fun k hk => h.at' k (by rw [obk_eq]; exact hk)
theorem Que.own {w : World} {B n c : Nat} {A : Option Addr} {l : List UInt8} (h : Que w B A n c l) : ∀ k, obk A = some k → B ≤ k ∧ k < w.heap.size := fun k hk => h.owner k (by rw [obk_eq]; exact hk)
/-- What may change. -/
def AllF (g : Nat) (A OA : Option Addr) (k : Nat) : Prop := k = g ∨ obk A = some k ∨ obk OA = some k
/-- The state: what is held, what was told. -/
def AllJ (g : Nat) (w : World) (u : List UInt8) (qs : List RQ) (A : Option Addr) (cq : Nat) (OA : Option Addr) (on oc : Nat) (L : List (List Value)) (wr : World) : Prop :=
  PrsA wr g A u.length cq u false ∧ Oz wr (g + 1) 26 12 OA on oc L.flatten ∧ TRow wr (AllF g A OA) qs L ∧ (∀ k, obk A = some k → obk OA ≠ some k) ∧ on = qs.length ∧ Below w.heap.size w wr ∧ w.heap.size ≤ g
/-- The state between a request told and its append. -/
def AllT (g : Nat) (w : World) (u : List UInt8) (qs : List RQ) (A : Option Addr) (cq : Nat) (OA : Option Addr) (on oc : Nat) (L : List (List Value)) (q : RQ) (cs : List Value) (wr : World) : Prop := AllJ g w u qs A cq OA on oc L wr ∧ TCell wr (AllF g A OA) q cs
/-- What is left when all is told. -/
def AllE (w : World) (qs : List RQ) (OA : Option Addr) (on oc : Nat) (wr : World) : Prop := ∃ L : List (List Value), Rz wr wr.heap.size 12 OA on oc L.flatten ∧ TRow wr (fun _ => False) qs L ∧ on = qs.length ∧ Below w.heap.size w wr
section
variable {g cq on oc : Nat} {w wr wr' : World} {u : List UInt8} {qs : List RQ} {A OA : Option Addr} {L : List (List Value)} {q : RQ} {cs : List Value}
theorem allF_lt {n c : Nat} {br : Bool} {xs : List Value} {e : TypeId} (hp : PrsA w g A n c u br) (ho : Oz w (g + 1) e 12 OA on oc xs) : ∀ k, AllF g A OA k → k < w.heap.size := by
  intro k hk
  rcases hk with rfl | hk | hk
  · exact hp.lt
  · exact (hp.2.own k hk).2
  · exact (ho.own k hk).2
theorem AllJ.prs (h : AllJ g w u qs A cq OA on oc L wr) : PrsA wr g A u.length cq u false := h.1
theorem AllJ.oz (h : AllJ g w u qs A cq OA on oc L wr) : Oz wr (g + 1) 26 12 OA on oc L.flatten := h.2.1
theorem AllJ.len (h : AllJ g w u qs A cq OA on oc L wr) : on = qs.length := h.2.2.2.2.1
theorem AllJ.bel (h : AllJ g w u qs A cq OA on oc L wr) : Below w.heap.size w wr := h.2.2.2.2.2.1
theorem AllJ.ge (h : AllJ g w u qs A cq OA on oc L wr) : w.heap.size ≤ g := h.2.2.2.2.2.2
theorem AllJ.lt (h : AllJ g w u qs A cq OA on oc L wr) : g < wr.heap.size := h.1.lt
theorem AllJ.done (h : AllJ g w u qs A cq OA on oc L wr) : AllE w qs OA on oc wr := ⟨L, h.2.1.rz, h.2.2.1.weak (fun _ _ h => h.elim), h.len, h.bel⟩
theorem AllJ.start {w1 : World} (hp : PrsA w1 w.heap.size none 0 0 [] false) (b : Below w.heap.size w w1) : AllJ w.heap.size w [] [] none 0 none 0 0 [] w1 :=
  ⟨hp, Oz.nil _ _ _ _, TRow.nil _ _, (fun k h => by cases h), rfl, b, Nat.le_refl _⟩
theorem AllJ.below (h : AllJ g w u qs A cq OA on oc L wr) (b : Below wr.heap.size wr wr') : AllJ g w u qs A cq OA on oc L wr' := by
  obtain ⟨hp, ho, ht, hd, hl, hb, hg⟩ := h
  exact ⟨hp.step b, ho.below b, ht.below b (allF_lt hp ho), hd, hl, below_step hb b, hg⟩
theorem AllT.below (h : AllT g w u qs A cq OA on oc L q cs wr) (b : Below wr.heap.size wr wr') : AllT g w u qs A cq OA on oc L q cs wr' :=
  ⟨h.1.below b, h.2.kp (Kp.of_below b (fun _ => False)) (fun _ _ h => h.elim) (fun _ _ h => h)⟩
theorem AllJ.bad (h : AllJ g w u qs A cq OA on oc L wr) (hg : wr.grownBy wr' (some g)) : AllE w qs OA on oc wr' := by
  obtain ⟨hp, ho, ht, hd, hl, hb, hge⟩ := h
  have hk := Kp.of_grown hg
  refine ⟨L, (ho.kp hk (fun k h e => by have := (ho.own k h).1; omega)).rz, ht.kp hk (fun k _ e => .inl e) (fun _ _ h => h.elim), hl, hb.trans (below_grown hg hge hp.lt)⟩
theorem AllJ.feed (h : AllJ g w u qs A cq OA on oc L wr) {p : List UInt8} {m c' : Nat} {A' : Option Addr} (hm : p.length = m) (hp' : PrsA wr' g A' (u.length + m) c' (u ++ p) false) (tk : TwoK wr wr' g (Value.slice A u.length 0).ownBlock)
    (hA : (Value.slice A' u.length 0).ownBlock = (Value.slice A u.length 0).ownBlock ∨ (Value.slice A' u.length 0).ownBlock = some wr.heap.size) : AllJ g w (u ++ p) qs A' c' OA on oc L wr' := by
  obtain ⟨hp, ho, ht, hd, hl, hb, hge⟩ := h
  rw [obk_eq] at tk hA
  rw [obk_eq] at hA
  have hk := Kp.of_two tk
  have hlo := ho.own
  refine ⟨by rw [List.length_append, hm]; exact hp', ho.kp hk (fun k h1 h2 => ?_), ht.kp hk (fun k _ h => ?_) (fun k hlt h => ?_), fun k h1 h2 => ?_, hl, ?_, hge⟩
  · rcases h2 with rfl | h2
    · have := (hlo _ h1).1; omega
    · exact hd k h2.symm h1
  · rcases h with rfl | h
    · exact .inl rfl
    · exact .inr (.inl h.symm)
  · rcases h with h | h | h
    · exact .inl h
    · rcases hA with e | e
      · rw [e] at h; exact .inr (.inl h)
      · rw [e] at h; injection h with h; omega
    · exact .inr (.inr h)
  · rcases hA with e | e
    · rw [e] at h1; exact hd k h1 h2
    · rw [e] at h1; injection h1 with h1; have := (hlo k h2).2; omega
  · refine hb.trans (hk.below (fun k h => ?_) hb.size)
    rcases h with rfl | h
    · exact hge
    · have := (hp.2.own k h.symm).1; omega
theorem AllJ.told (h : AllJ g w u qs A cq OA on oc L wr) {N cx nk ck nv cv : Nat} {X K V : Option Addr} (hN : N ≤ u.length) (hp' : PrsA wr' g X (u.length - N) cx (u.drop N) false) (oK : Own wr' wr.heap.size K nk ck q.lk) (oV : Own wr' wr.heap.size V nv cv q.lv) (gg : wr.grownBy wr' (some g)) (hX : (Value.slice X 0 0).ownBlock = (Value.slice A 0 0).ownBlock) :
    AllT g w (u.drop N) qs X cx OA on oc L q (reqL q K nk ck V nv cv) wr' := by
  obtain ⟨hp, ho, ht, hd, hl, hb, hge⟩ := h
  rw [obk_eq, obk_eq] at hX
  have hk := Kp.of_grown gg
  have hlo := ho.own
  have hF : AllF g X OA = AllF g A OA := by funext k; unfold AllF; rw [hX]
  have hlt := allF_lt hp ho
  refine ⟨⟨by rw [List.length_drop]; exact hp', ho.kp hk (fun k h1 h2 => by have := (hlo k h1).1; omega), ?_, by rw [hX]; exact hd, hl, hb.trans (below_grown gg hge hp.lt), hge⟩, ?_⟩
  · rw [hF]; exact ht.kp hk (fun k _ e => .inl e) (fun _ _ h => h)
  · rw [hF]; exact ⟨K, nk, ck, V, nv, cv, rfl, oK.rdF hlt, oV.rdF hlt⟩
theorem AllT.snoc (h : AllT g w u qs A cq OA on oc L q cs wr) {OA' : Option Addr} {oc' : Nat} (ho' : Oz wr' (g + 1) 26 12 OA' (on + 1) oc' (L.flatten ++ cs)) (gg : wr.grownBy wr' (Value.slice OA on oc).ownBlock)
    (hA : (Value.slice OA' (on + 1) oc').ownBlock = (Value.slice OA on oc).ownBlock ∨ (Value.slice OA' (on + 1) oc').ownBlock = some wr.heap.size) : AllJ g w u (qs ++ [q]) A cq OA' (on + 1) oc' (L ++ [cs]) wr' := by
  obtain ⟨⟨hp, ho, ht, hd, hl, hb, hge⟩, hc⟩ := h
  rw [obk_eq] at gg hA
  rw [obk_eq] at hA
  have hk := Kp.of_row gg
  have hlo := ho.own
  have hF : ∀ k, k < wr.heap.size → AllF g A OA' k → AllF g A OA k := fun k hlt h => by
    rcases h with h | h | h
    · exact .inl h
    · exact .inr (.inl h)
    · rcases hA with e | e
      · rw [e] at h; exact .inr (.inr h)
      · rw [e] at h; injection h with h; omega
  refine ⟨⟨hk.blk hp.1 (fun h => by have := (hlo g h.symm).1; omega), hp.2.keptO gg (fun k h1 h2 => hd k (by rw [obk_eq] at h1; exact h1) h2)⟩, ?_, (ht.kp hk (fun k _ e => .inr (.inr e.symm)) hF).snoc (hc.kp hk (fun k _ e => .inr (.inr e.symm)) hF), fun k h1 h2 => ?_, ?_, ?_, hge⟩
  · rw [List.flatten_append, List.flatten_singleton]; exact ho'
  · rcases hA with e | e
    · rw [e] at h2; exact hd k h1 h2
    · rw [e] at h2; injection h2 with h2; have := (hp.2.own k h1).2; omega
  · rw [List.length_append, hl]; rfl
  · exact hb.trans (hk.below (fun k h => by have := (hlo k h.symm).1; omega) hb.size)
theorem AllE.below (h : AllE w qs OA on oc wr) (b : Below wr.heap.size wr wr') : AllE w qs OA on oc wr' := by
  obtain ⟨L, hr, ht, hl, hb⟩ := h
  exact ⟨L, hr.step b, ht.below b (fun _ h => h.elim), hl, below_step hb b⟩
end
end
end Go.Proofs.Ytnghmgbmflcngaa

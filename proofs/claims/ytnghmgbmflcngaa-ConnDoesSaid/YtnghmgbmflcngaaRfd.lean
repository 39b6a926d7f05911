/- icehouseref20's parser: Feed. Conditions: typed in each theorem. -/
import Derived.Test.YtnghmgbmflcngaaZpar
import Derived.Deep.DeepCutAuto
namespace Go.Proofs.Ytnghmgbmflcngaa
set_option linter.unusedVariables false
open Go.RowKit
theorem blk_set2 {w : World} {g : Nat} {T : TypeId} {c0 c1 : Value} (h : Blk w g #[c0, c1] T) (v0 v1 : Value) : Blk ((w.setCell ⟨g, 0, none⟩ v0).setCell ⟨g, 1, none⟩ v1) g #[v0, v1] T := by
  have h0 : Blk _ g #[v0, c1] T := h.set_ 0 v0
  have h1 : Blk _ g #[v0, v1] T := h0.set_ 1 v1
  exact h1
theorem grown_set2 (w : World) (g : Nat) (v0 v1 : Value) : w.grownBy ((w.setCell ⟨g, 0, none⟩ v0).setCell ⟨g, 1, none⟩ v1) (some g) := grown_trans (rdr_grown_set w g 0 v0) (rdr_grown_set _ g 1 v1)
def RfNo (A : Option Addr) (n c : Nat) (br : Bool) (er : Int) (w : World) (e : Ending) (w' : World) : Prop := e = .returned (.tuple #[.agg #[.slice A n c, .bool br], .int .i64 er]) ∧ Below w.heap.size w w'
def RfOk (N : Nat) (l : List UInt8) (w : World) (e : Ending) (w' : World) : Prop := ∃ A' c', e = .returned (.tuple #[.agg #[.slice A' N c', .bool false], .int .i64 0]) ∧ Own w' w.heap.size A' N c' l ∧ Below w.heap.size w w'
set_option maxRecDepth 100000 in
set_option maxHeartbeats 2000000 in
theorem rfeed_long (A : Option Addr) (n c : Nat) (A2 : Option Addr) (m c2 : Nat) (w : World) (hm : 65536 < n + m) (hn : n + m ≤ 9223372036854775807) : Calls Try.prog 37 #[.agg #[.slice A n c, .bool false], .slice A2 m c2] w (RfNo A n c false 3 w) := by
  have k1 := (Blk.new w #[.slice A n c, .bool false] 47).alloc (.cells #[.slice none 0 0, .bool false] 47)
  have k2 := Blk.new (w.alloc (.cells #[.slice A n c, .bool false] 47)) #[.slice none 0 0, .bool false] 47
  have b := below_a1' (below_a1' (Below.refl w.heap.size w) (.cells #[.slice A n c, .bool false] 47)) (.cells #[.slice none 0 0, .bool false] 47)
  rw [World.size_alloc] at k2
  have e1 : IntKind.i64.wrap ((n : Int) + (m : Int)) = (n : Int) + (m : Int) := IntWalk.i64_in _ (by omega)
  have e2 : ((65536 : Int) < (n : Int) + (m : Int)) = True := eq_true (by omega)
  clear hm hn
  go_enter Try.func37, Try.ntmps37
  go_upto_region 1 with fail
  generalize (w.alloc (.cells #[.slice A n c, .bool false] 47)).alloc (.cells #[.slice none 0 0, .bool false] 47) = W0 at k1 k2 b ⊢
  obtain ⟨z0, z1⟩ := box2 k1
  obtain ⟨u0, u1⟩ := box2 k2
  have y0 := k2.frozen 0
  have y1 := k2.frozen 1
  have kf := blk_set2 k2 (.slice A n c) (.bool false)
  have gs := grown_set2 W0 (w.heap.size + 1) (.slice A n c) (.bool false)
  have bf := b.trans (below_grown gs (by omega) k2.lt)
  obtain ⟨t0, t1⟩ := box2 kf
  clear kf gs b k1 k2
  go_wp2_with fail
  refine bodyPost_ret (v := .tuple #[.agg #[.slice A n c, .bool false], .int .i64 3]) (by simp [results, Try.results37, go_sem, t0, t1]) rfl ?_
  exact ⟨rfl, bf⟩
set_option maxRecDepth 100000 in
set_option maxHeartbeats 2000000 in
theorem rfeed_ok (A : Option Addr) (n c : Nat) (l : List UInt8) (A2 : Option Addr) (m c2 : Nat) (l2 : List UInt8) (w : World) (r : Rd w w.heap.size A n c l) (r2 : Rd w w.heap.size A2 m c2 l2) (hm : n + m ≤ 65536) : Calls Try.prog 37 #[.agg #[.slice A n c, .bool false], .slice A2 m c2] w (RfOk (n + m) (l ++ l2) w) := by
  have k1 := (Blk.new w #[.slice A n c, .bool false] 47).alloc (.cells #[.slice none 0 0, .bool false] 47)
  have k2 := Blk.new (w.alloc (.cells #[.slice A n c, .bool false] 47)) #[.slice none 0 0, .bool false] 47
  have b := below_a1' (below_a1' (Below.refl w.heap.size w) (.cells #[.slice A n c, .bool false] 47)) (.cells #[.slice none 0 0, .bool false] 47)
  rw [World.size_alloc] at k2
  have e1 : IntKind.i64.wrap ((n : Int) + (m : Int)) = (n : Int) + (m : Int) := IntWalk.i64_in _ (by omega)
  have e2 : ((65536 : Int) < (n : Int) + (m : Int)) = False := eq_false (by omega)
  have HM := Lib.hid hm
  clear hm
  go_enter Try.func37, Try.ntmps37
  go_upto_region 1 with fail
  generalize (w.alloc (.cells #[.slice A n c, .bool false] 47)).alloc (.cells #[.slice none 0 0, .bool false] 47) = W0 at k1 k2 b ⊢
  obtain ⟨z0, z1⟩ := box2 k1
  go_upto_region 5 with fail
  have hw0 := k2.lt
  have z0' : (W0.alloc (.cells #[] 5)).cell? ⟨w.heap.size, 0, none⟩ = some (.slice A n c) := (box2 (k1.alloc _)).1
  have o0 : Own (W0.alloc (.cells #[] 5)) (w.heap.size + 2) (some ⟨W0.heap.size, 0, none⟩) 0 0 [] := Own.emptyK W0 _ _ rfl hw0
  have k1a := k1.alloc (.cells #[] 5)
  have k2a := k2.alloc (.cells #[] 5)
  have ba := below_a1' b (.cells #[] 5)
  have ra := (r.below ba).more ba.size
  go_wp2_with (at_builtin; refine wpList_app8 _ rfl _ _ rfl (w.heap.size + 2) (some ⟨W0.heap.size, 0, none⟩) 0 0 [] rfl o0 _ A n c l rfl ra (by have := HM.out; omega) (by rw [World.size_alloc]; omega) ?_)
  intro A3 c3 w3 o3 b3
  have k1b : Blk w3 w.heap.size #[.slice A n c, .bool false] 47 := (b3.block _ (by omega)).trans k1a
  have k2b : Blk w3 (w.heap.size + 1) #[.slice none 0 0, .bool false] 47 := (b3.block _ (by omega)).trans k2a
  have bb := ba.trans (b3.mono (by omega))
  clear k1 k1a k2 k2a ba b3 ra o0 z0 z1 z0' b
  have rb := (r2.below bb).more bb.size
  have hw3 := k2b.lt
  go_wp2_with (at_builtin; refine wpList_app8 _ rfl _ _ rfl (w.heap.size + 2) A3 n c3 l rfl o3 _ A2 m c2 l2 rfl rb (by have := HM.out; omega) (by omega) ?_)
  intro A4 c4 w4 o4 b4
  have k1 : Blk w4 w.heap.size #[.slice A n c, .bool false] 47 := (b4.block _ (by omega)).trans k1b
  have k2 : Blk w4 (w.heap.size + 1) #[.slice none 0 0, .bool false] 47 := (b4.block _ (by omega)).trans k2b
  have b := bb.trans (b4.mono (by omega))
  clear k1b k2b bb b4 o3 rb
  obtain ⟨z0, z1⟩ := box2 k1
  have x0 := k1.frozen 0
  go_upto_region 6 with fail
  have gq := rdr_grown_set w4 w.heap.size 0 (.slice A4 (n + m) c4)
  have k1' : Blk (w4.setCell ⟨w.heap.size, 0, none⟩ (.slice A4 (n + m) c4)) w.heap.size #[.slice A4 (n + m) c4, .bool false] 47 := k1.set_ 0 _
  replace k2 := k2.leftC gq (by omega)
  replace o4 := o4.kept gq (by omega)
  replace b := b.trans (below_grown gq (Nat.le_refl _) k1.lt)
  clear gq k1 z0 z1 x0
  generalize w4.setCell ⟨w.heap.size, 0, none⟩ (.slice A4 (n + m) c4) = W5 at k1' k2 o4 b ⊢
  obtain ⟨z0, z1⟩ := box2 k1'
  obtain ⟨u0, u1⟩ := box2 k2
  have y0 := k2.frozen 0
  have y1 := k2.frozen 1
  have kf := blk_set2 k2 (.slice A4 (n + m) c4) (.bool false)
  have gs := grown_set2 W5 (w.heap.size + 1) (.slice A4 (n + m) c4) (.bool false)
  have bf := b.trans (below_grown gs (by omega) k2.lt)
  have of := (o4.kept gs (by omega)).more (B' := w.heap.size) (by omega)
  obtain ⟨t0, t1⟩ := box2 kf
  clear kf gs b k1' k2 o4
  go_wp2_with fail
  refine bodyPost_ret (v := .tuple #[.agg #[.slice A4 (n + m) c4, .bool false], .int .i64 0]) (by simp [results, Try.results37, go_sem, t0, t1]) rfl ?_
  exact ⟨A4, c4, rfl, of, bf⟩
end Go.Proofs.Ytnghmgbmflcngaa

/- RecordBack: what was encoded is decoded, whatever stands behind it. Conditions: those of the given row alone. -/
import Derived.Test.YtkdkmdjfimnkaaaRpl
namespace Go.Proofs.Ytkdkmdjfimnkaaa
set_option linter.unusedVariables false
open Go.ChangeShapes Go.WideShapes Go.ChangeAt Go.RowKit

def BackQ (w : World) (e : Ending) (w' : World) : Prop := e = .returned (.bool true) ∧ Below w.heap.size w w'
set_option maxRecDepth 20000 in
set_option maxHeartbeats 8000000 in
theorem back_no (kind : Int) (fl ex sq : Nat) (AK : Option Addr) (nk ck : Nat) (lk : List UInt8) (AV : Option Addr) (nv cv : Nat) (lv : List UInt8) (AB : Option Addr) (nb cb : Nat) (lb : List UInt8) (mk mv : Nat) (mlk mlv : List UInt8) (w : World) (rk : Rd w w.heap.size AK nk ck lk) (rv : Rd w w.heap.size AV nv cv lv) (rb : Rd w w.heap.size AB nb cb lb)
    (hSh : ∀ W, Rd W W.heap.size AK nk ck lk → Rd W W.heap.size AV nv cv lv → Calls Try.prog 11 #[.agg #[.int .i64 kind, .int .u32 (fl : Nat), .int .u32 (ex : Nat), .int .u64 (sq : Nat), .slice AK nk ck, .slice AV nv cv]] W fun e w' => ∃ g1 c1 g2 c2, e = .returned (.agg #[.int .i64 kind, .int .u32 (fl : Nat), .int .u32 (ex : Nat), .int .u64 (sq : Nat), .slice (some ⟨g1, 0, none⟩) mk c1, .slice (some ⟨g2, 0, none⟩) mv c2]) ∧ g1 ≠ g2 ∧
      Own w' W.heap.size (some ⟨g1, 0, none⟩) (mk + 1) c1 (mlk ++ [7]) ∧ Own w' W.heap.size (some ⟨g2, 0, none⟩) (mv + 1) c2 (mlv ++ [7]) ∧ Below W.heap.size W w')
    (hEn : ∀ g1 c1 g2 c2 W, Rd W W.heap.size (some ⟨g1, 0, none⟩) mk c1 mlk → Rd W W.heap.size (some ⟨g2, 0, none⟩) mv c2 mlv → Calls Try.prog 16 #[.agg #[.int .i64 kind, .int .u32 (fl : Nat), .int .u32 (ex : Nat), .int .u64 (sq : Nat), .slice (some ⟨g1, 0, none⟩) mk c1, .slice (some ⟨g2, 0, none⟩) mv c2]] W fun e w' => e = .returned (.tuple #[.slice none 0 0, .int .i64 160]) ∧ Below W.heap.size W w')
    (hSz : ∀ g1 c1 g2 c2 W, Calls Try.prog 21 #[.agg #[.int .i64 kind, .int .u32 (fl : Nat), .int .u32 (ex : Nat), .int .u64 (sq : Nat), .slice (some ⟨g1, 0, none⟩) mk c1, .slice (some ⟨g2, 0, none⟩) mv c2]] W fun e w' => e = .returned (.int .i64 0) ∧ Below W.heap.size W w') :
    Calls Try.prog 6 #[recV kind fl ex sq (.slice AK nk ck) (.slice AV nv cv), .slice AB nb cb] w (BackQ w) := by
  have HA := Lib.hid hSh
  have HE := Lib.hid hEn
  have HZ := Lib.hid hSz
  clear hSh hEn hSz
  have k1' := Blk.new w #[.int .i64 kind, .int .u32 (fl : Nat), .int .u32 (ex : Nat), .int .u64 (sq : Nat), .slice AK nk ck, .slice AV nv cv] 26
  have b : Below w.heap.size w (w.alloc (.cells #[.int .i64 kind, .int .u32 (fl : Nat), .int .u32 (ex : Nat), .int .u64 (sq : Nat), .slice AK nk ck, .slice AV nv cv] 26)) := below_a1' (Below.refl _ _) _
  have hcb := rb.cap
  unfold recV
  go_enter Try.func6, Try.ntmps6
  go_wp2_with fail
  generalize w.alloc (.cells #[.int .i64 kind, .int .u32 (fl : Nat), .int .u32 (ex : Nat), .int .u64 (sq : Nat), .slice AK nk ck, .slice AV nv cv] 26) = W0 at k1' b ⊢
  refine (wakes06 _).mono ?_
  rintro e w1 ⟨rfl, b1⟩
  replace k1' := k1'.step b1
  replace b := below_step b b1
  clear b1
  go_upto_region 3 with fail
  go_cut [1] (fun s wx => ∃ X cx, s = .slice X (min nb 100) cx ∧ (∀ w', Rd w' w.heap.size AB nb cb lb → Rd w' w.heap.size X (min nb 100) cx (lb.take (min nb 100))) ∧ ∃ g1 c1 g2 c2, Blk wx w.heap.size #[.int .i64 kind, .int .u32 (fl : Nat), .int .u32 (ex : Nat), .int .u64 (sq : Nat), .slice (some ⟨g1, 0, none⟩) mk c1, .slice (some ⟨g2, 0, none⟩) mv c2] 26 ∧ Rd wx wx.heap.size (some ⟨g1, 0, none⟩) mk c1 mlk ∧ Rd wx wx.heap.size (some ⟨g2, 0, none⟩) mv c2 mlv ∧ Below w.heap.size w wx)
  case first =>
    by_cases h9 : nb ≤ 100
    · have HMN := Lib.hid (show min nb 100 = nb from by omega)
      obtain ⟨X, cx, HX, hX⟩ := slc_h rb nb (nb : Int) (by omega) (by omega)
      have h9' : ((100 : Int) < (nb : Int)) = False := eq_false (by omega)
      refine wp_region_noPanic ?_
      refine region_V (by kernel_rfl) ?_
      replace k1' : Blk w1.drew w.heap.size #[.int .i64 kind, .int .u32 (fl : Nat), .int .u32 (ex : Nat), .int .u64 (sq : Nat), .slice AK nk ck, .slice AV nv cv] 26 := k1'
      replace b : Below w.heap.size w w1.drew := b.drew
      generalize w1.drew = V0 at k1' b ⊢
      obtain ⟨q0, q1, q2, q3, q4, q5⟩ := box6 k1'
      have hHeld := (show _ ∧ _ ∧ _ ∧ _ ∧ _ ∧ _ from ⟨q0, q1, q2, q3, q4, q5⟩)
      have hlt := k1'.lt
      refine takeV (i := 2) (v := ?_) rfl (by kernel_rfl) (by kernel_rfl) (by kernel_rfl) (fun _ _ _ h => h) (Or.inl ⟨by rfl, ?_⟩) ?_
      rotate_left
      · (intro wx; go_simp; (first | done | (with_reducible rfl) | (simp only [h9', if_false, if_true]; done) | (simp only [h9', if_false, if_true]; with_reducible rfl) | skip))
      try simp only [Act.put, List.setIfInBounds_toArray, List.set_cons_zero, List.set_cons_succ]
      refine takeV (i := 3) (v := ?_) rfl (by kernel_rfl) (by kernel_rfl) (by kernel_rfl) (fun _ _ _ h => h) (Or.inl ⟨by rfl, ?_⟩) ?_
      rotate_left
      · (intro wx; go_simp; (first | done | (with_reducible rfl) | (simp only [h9', if_false, if_true]; done) | (simp only [h9', if_false, if_true]; with_reducible rfl) | skip))
      try simp only [Act.put, List.setIfInBounds_toArray, List.set_cons_zero, List.set_cons_succ]
      refine takeV (i := 4) (v := ?_) rfl (by kernel_rfl) (by kernel_rfl) (by kernel_rfl) (fun _ _ _ h => h) (Or.inl ⟨by rfl, ?_⟩) ?_
      rotate_left
      · (intro wx; go_simp; (first | done | (with_reducible rfl) | (simp only [h9', if_false, if_true]; done) | (simp only [h9', if_false, if_true]; with_reducible rfl) | skip))
      try simp only [Act.put, List.setIfInBounds_toArray, List.set_cons_zero, List.set_cons_succ]
      refine takeV (i := 5) (v := ?_) rfl (by kernel_rfl) (by kernel_rfl) (by kernel_rfl) (fun _ _ _ h => h) (Or.inl ⟨by rfl, ?_⟩) ?_
      rotate_left
      · (intro wx; go_simp; (first | done | (with_reducible rfl) | (simp only [h9', if_false, if_true]; done) | (simp only [h9', if_false, if_true]; with_reducible rfl) | skip))
      try simp only [Act.put, List.setIfInBounds_toArray, List.set_cons_zero, List.set_cons_succ]
      refine takeV (i := 6) (v := ?_) rfl (by kernel_rfl) (by kernel_rfl) (by kernel_rfl) (fun _ _ _ h => h) (Or.inl ⟨by rfl, ?_⟩) ?_
      rotate_left
      · (intro wx; go_simp; (first | done | (with_reducible rfl) | (simp only [h9', if_false, if_true]; done) | (simp only [h9', if_false, if_true]; with_reducible rfl) | skip))
      try simp only [Act.put, List.setIfInBounds_toArray, List.set_cons_zero, List.set_cons_succ]
      refine into_T (fun w' => w'.cell? ⟨w.heap.size, 0, none⟩ = some (.int .i64 kind) ∧ w'.cell? ⟨w.heap.size, 1, none⟩ = some (.int .u32 (fl : Nat)) ∧ w'.cell? ⟨w.heap.size, 2, none⟩ = some (.int .u32 (ex : Nat)) ∧ w'.cell? ⟨w.heap.size, 3, none⟩ = some (.int .u64 (sq : Nat)) ∧ w'.cell? ⟨w.heap.size, 4, none⟩ = some (.slice AK nk ck) ∧ w'.cell? ⟨w.heap.size, 5, none⟩ = some (.slice AV nv cv)) 7 ?_
      refine takeU (i := 0) (v := ?_) rfl (by kernel_rfl) (by kernel_rfl) (by kernel_rfl) (by kernel_rfl) (by kernel_rfl) (fun _ _ _ h => h) (Or.inl ⟨by rfl, ?_⟩) hHeld ?_
      rotate_left
      · (intro wx hSw; (try dsimp only at hSw); go_simp; (first | done | (with_reducible rfl) | (simp only [h9', if_false, if_true]; done) | (simp only [h9', if_false, if_true]; with_reducible rfl) | skip))
      try simp only [Act.put, List.setIfInBounds_toArray, List.set_cons_zero, List.set_cons_succ]
      refine oneT (i := 1) rfl (by kernel_rfl) (fun K hK => ?_)
      clear q0 q1 q2 q3 q4 q5 hHeld
      go_simp
      refine (HA.out _ ((rk.below b).more b.size) ((rv.below b).more b.size)).mono ?_
      rintro e w2 ⟨g1, c1, g2, c2, rfl, hne, oK, oV, b2⟩
      replace k1' := k1'.step b2
      replace b := below_step b b2
      obtain ⟨q0, q1, q2, q3, q4, q5⟩ := box6 k1'
      have x0 := k1'.frozen 0
      have x1 := k1'.frozen 1
      have x2 := k1'.frozen 2
      have x3 := k1'.frozen 3
      have x4 := k1'.frozen 4
      have x5 := k1'.frozen 5
      have hHeld := (show _ ∧ _ ∧ _ ∧ _ ∧ _ ∧ _ from ⟨q0, q1, q2, q3, q4, q5⟩)
      refine hK.out _ _ (fun _ => hHeld) ?_
      clear hK K hHeld
      try simp only [Act.put, List.setIfInBounds_toArray, List.set_cons_zero, List.set_cons_succ]
      have kf := blk_set6 k1' (.int .i64 kind) (.int .u32 (fl : Nat)) (.int .u32 (ex : Nat)) (.int .u64 (sq : Nat)) (.slice (some ⟨g1, 0, none⟩) mk c1) (.slice (some ⟨g2, 0, none⟩) mv c2)
      have hg := grown_set6 w2 w.heap.size (.int .i64 kind) (.int .u32 (fl : Nat)) (.int .u32 (ex : Nat)) (.int .u64 (sq : Nat)) (.slice (some ⟨g1, 0, none⟩) mk c1) (.slice (some ⟨g2, 0, none⟩) mv c2)
      have bf := b.trans (below_grown hg (Nat.le_refl _) k1'.lt)
      have pK := own_fore (oK.kept hg hlt)
      have pV := own_fore (oV.kept hg hlt)
      refine oneT (i := 7) rfl (by kernel_rfl) (fun K hK => ?_)
      go_simp
      refine hK.out _ _ (fun h => absurd h (by decide)) ?_
      clear hK K
      try simp only [Act.put, List.setIfInBounds_toArray, List.set_cons_zero, List.set_cons_succ]
      generalize (((((w2.setCell ⟨w.heap.size, 0, none⟩ (.int .i64 kind)).setCell ⟨w.heap.size, 1, none⟩ (.int .u32 (fl : Nat))).setCell ⟨w.heap.size, 2, none⟩ (.int .u32 (ex : Nat))).setCell ⟨w.heap.size, 3, none⟩ (.int .u64 (sq : Nat))).setCell ⟨w.heap.size, 4, none⟩ (.slice (some ⟨g1, 0, none⟩) mk c1)).setCell ⟨w.heap.size, 5, none⟩ (.slice (some ⟨g2, 0, none⟩) mv c2) = w3 at kf bf pK pV ⊢
      refine oneT (i := 8) rfl (by kernel_rfl) (fun K hK => ?_)
      go_simp
      refine hK.out _ _ (fun h => absurd h (by decide)) ?_
      clear hK K
      try simp only [Act.put, List.setIfInBounds_toArray, List.set_cons_zero, List.set_cons_succ]
      refine doneT (by kernel_rfl) ?_ _
      refine NoPanic.normal ?_
      go_wp2_with fail
      go_meet
      exact ⟨X, cx, by rw [HMN.out], by rw [HMN.out]; exact fun w' r => (hX _ _ r), g1, c1, g2, c2, kf, pK, pV, bf⟩
    
    · have HMN := Lib.hid (show min nb 100 = 100 from by omega)
      obtain ⟨X, cx, HX, hX⟩ := slc_h rb 100 100 (by omega) (by omega)
      have h9' : ((100 : Int) < (nb : Int)) = True := eq_true (by omega)
      refine wp_region_noPanic ?_
      refine region_V (by kernel_rfl) ?_
      replace k1' : Blk w1.drew w.heap.size #[.int .i64 kind, .int .u32 (fl : Nat), .int .u32 (ex : Nat), .int .u64 (sq : Nat), .slice AK nk ck, .slice AV nv cv] 26 := k1'
      replace b : Below w.heap.size w w1.drew := b.drew
      generalize w1.drew = V0 at k1' b ⊢
      obtain ⟨q0, q1, q2, q3, q4, q5⟩ := box6 k1'
      have hHeld := (show _ ∧ _ ∧ _ ∧ _ ∧ _ ∧ _ from ⟨q0, q1, q2, q3, q4, q5⟩)
      have hlt := k1'.lt
      refine takeV (i := 2) (v := ?_) rfl (by kernel_rfl) (by kernel_rfl) (by kernel_rfl) (fun _ _ _ h => h) (Or.inl ⟨by rfl, ?_⟩) ?_
      rotate_left
      · (intro wx; go_simp; (first | done | (with_reducible rfl) | (simp only [h9', if_false, if_true]; done) | (simp only [h9', if_false, if_true]; with_reducible rfl) | skip))
      try simp only [Act.put, List.setIfInBounds_toArray, List.set_cons_zero, List.set_cons_succ]
      refine takeV (i := 3) (v := ?_) rfl (by kernel_rfl) (by kernel_rfl) (by kernel_rfl) (fun _ _ _ h => h) (Or.inl ⟨by rfl, ?_⟩) ?_
      rotate_left
      · (intro wx; go_simp; (first | done | (with_reducible rfl) | (simp only [h9', if_false, if_true]; done) | (simp only [h9', if_false, if_true]; with_reducible rfl) | skip))
      try simp only [Act.put, List.setIfInBounds_toArray, List.set_cons_zero, List.set_cons_succ]
      refine takeV (i := 4) (v := ?_) rfl (by kernel_rfl) (by kernel_rfl) (by kernel_rfl) (fun _ _ _ h => h) (Or.inl ⟨by rfl, ?_⟩) ?_
      rotate_left
      · (intro wx; go_simp; (first | done | (with_reducible rfl) | (simp only [h9', if_false, if_true]; done) | (simp only [h9', if_false, if_true]; with_reducible rfl) | skip))
      try simp only [Act.put, List.setIfInBounds_toArray, List.set_cons_zero, List.set_cons_succ]
      refine takeV (i := 5) (v := ?_) rfl (by kernel_rfl) (by kernel_rfl) (by kernel_rfl) (fun _ _ _ h => h) (Or.inl ⟨by rfl, ?_⟩) ?_
      rotate_left
      · (intro wx; go_simp; (first | done | (with_reducible rfl) | (simp only [h9', if_false, if_true]; done) | (simp only [h9', if_false, if_true]; with_reducible rfl) | skip))
      try simp only [Act.put, List.setIfInBounds_toArray, List.set_cons_zero, List.set_cons_succ]
      refine takeV (i := 6) (v := ?_) rfl (by kernel_rfl) (by kernel_rfl) (by kernel_rfl) (fun _ _ _ h => h) (Or.inl ⟨by rfl, ?_⟩) ?_
      rotate_left
      · (intro wx; go_simp; (first | done | (with_reducible rfl) | (simp only [h9', if_false, if_true]; done) | (simp only [h9', if_false, if_true]; with_reducible rfl) | skip))
      try simp only [Act.put, List.setIfInBounds_toArray, List.set_cons_zero, List.set_cons_succ]
      refine into_T (fun w' => w'.cell? ⟨w.heap.size, 0, none⟩ = some (.int .i64 kind) ∧ w'.cell? ⟨w.heap.size, 1, none⟩ = some (.int .u32 (fl : Nat)) ∧ w'.cell? ⟨w.heap.size, 2, none⟩ = some (.int .u32 (ex : Nat)) ∧ w'.cell? ⟨w.heap.size, 3, none⟩ = some (.int .u64 (sq : Nat)) ∧ w'.cell? ⟨w.heap.size, 4, none⟩ = some (.slice AK nk ck) ∧ w'.cell? ⟨w.heap.size, 5, none⟩ = some (.slice AV nv cv)) 7 ?_
      refine takeU (i := 0) (v := ?_) rfl (by kernel_rfl) (by kernel_rfl) (by kernel_rfl) (by kernel_rfl) (by kernel_rfl) (fun _ _ _ h => h) (Or.inl ⟨by rfl, ?_⟩) hHeld ?_
      rotate_left
      · (intro wx hSw; (try dsimp only at hSw); go_simp; (first | done | (with_reducible rfl) | (simp only [h9', if_false, if_true]; done) | (simp only [h9', if_false, if_true]; with_reducible rfl) | skip))
      try simp only [Act.put, List.setIfInBounds_toArray, List.set_cons_zero, List.set_cons_succ]
      refine oneT (i := 1) rfl (by kernel_rfl) (fun K hK => ?_)
      clear q0 q1 q2 q3 q4 q5 hHeld
      go_simp
      refine (HA.out _ ((rk.below b).more b.size) ((rv.below b).more b.size)).mono ?_
      rintro e w2 ⟨g1, c1, g2, c2, rfl, hne, oK, oV, b2⟩
      replace k1' := k1'.step b2
      replace b := below_step b b2
      obtain ⟨q0, q1, q2, q3, q4, q5⟩ := box6 k1'
      have x0 := k1'.frozen 0
      have x1 := k1'.frozen 1
      have x2 := k1'.frozen 2
      have x3 := k1'.frozen 3
      have x4 := k1'.frozen 4
      have x5 := k1'.frozen 5
      have hHeld := (show _ ∧ _ ∧ _ ∧ _ ∧ _ ∧ _ from ⟨q0, q1, q2, q3, q4, q5⟩)
      refine hK.out _ _ (fun _ => hHeld) ?_
      clear hK K hHeld
      try simp only [Act.put, List.setIfInBounds_toArray, List.set_cons_zero, List.set_cons_succ]
      have kf := blk_set6 k1' (.int .i64 kind) (.int .u32 (fl : Nat)) (.int .u32 (ex : Nat)) (.int .u64 (sq : Nat)) (.slice (some ⟨g1, 0, none⟩) mk c1) (.slice (some ⟨g2, 0, none⟩) mv c2)
      have hg := grown_set6 w2 w.heap.size (.int .i64 kind) (.int .u32 (fl : Nat)) (.int .u32 (ex : Nat)) (.int .u64 (sq : Nat)) (.slice (some ⟨g1, 0, none⟩) mk c1) (.slice (some ⟨g2, 0, none⟩) mv c2)
      have bf := b.trans (below_grown hg (Nat.le_refl _) k1'.lt)
      have pK := own_fore (oK.kept hg hlt)
      have pV := own_fore (oV.kept hg hlt)
      refine oneT (i := 7) rfl (by kernel_rfl) (fun K hK => ?_)
      go_simp
      refine hK.out _ _ (fun h => absurd h (by decide)) ?_
      clear hK K
      try simp only [Act.put, List.setIfInBounds_toArray, List.set_cons_zero, List.set_cons_succ]
      generalize (((((w2.setCell ⟨w.heap.size, 0, none⟩ (.int .i64 kind)).setCell ⟨w.heap.size, 1, none⟩ (.int .u32 (fl : Nat))).setCell ⟨w.heap.size, 2, none⟩ (.int .u32 (ex : Nat))).setCell ⟨w.heap.size, 3, none⟩ (.int .u64 (sq : Nat))).setCell ⟨w.heap.size, 4, none⟩ (.slice (some ⟨g1, 0, none⟩) mk c1)).setCell ⟨w.heap.size, 5, none⟩ (.slice (some ⟨g2, 0, none⟩) mv c2) = w3 at kf bf pK pV ⊢
      refine oneT (i := 8) rfl (by kernel_rfl) (fun K hK => ?_)
      go_simp
      refine hK.out _ _ (fun h => absurd h (by decide)) ?_
      clear hK K
      try simp only [Act.put, List.setIfInBounds_toArray, List.set_cons_zero, List.set_cons_succ]
      refine doneT (by kernel_rfl) ?_ _
      refine NoPanic.normal ?_
      go_wp2_with fail
      go_meet
      exact ⟨X, cx, by rw [HMN.out], by rw [HMN.out]; exact fun w' r => (hX _ _ r), g1, c1, g2, c2, kf, pK, pV, bf⟩
  case rest =>
    obtain ⟨X, cx, rfl, hX, g1, c1, g2, c2, k1, pK, pV, b⟩ := hcut
    have HX := Lib.hid hX
    have HEW := Lib.hid (HE.out g1 c1 g2 c2 _ pK pV)
    obtain ⟨q0, q1, q2, q3, q4, q5⟩ := box6 k1
    clear hX HE HA
    go_wp2_with fail
    refine HEW.out.mono ?_
    rintro e w3 ⟨rfl, b3⟩
    replace b := below_step b b3
    replace k1 := k1.step b3
    clear q0 q1 q2 q3 q4 q5
    obtain ⟨q0, q1, q2, q3, q4, q5⟩ := box6 k1
    go_wp2_with fail
    refine (HZ.out g1 c1 g2 c2 _).mono ?_
    rintro e w4 ⟨rfl, b4⟩
    replace b := below_step b b4
    go_wp2_with fail
    go_ret
    exact ⟨rfl, b⟩
set_option maxRecDepth 20000 in
set_option maxHeartbeats 8000000 in
theorem back_ok (kd : Nat) (fl ex sq : Nat) (AK : Option Addr) (nk ck : Nat) (lk : List UInt8) (AV : Option Addr) (nv cv : Nat) (lv : List UInt8) (AB : Option Addr) (nb cb : Nat) (lb : List UInt8) (mk mv : Nat) (mlk mlv : List UInt8) (w : World) (rk : Rd w w.heap.size AK nk ck lk) (rv : Rd w w.heap.size AV nv cv lv) (rb : Rd w w.heap.size AB nb cb lb) (L : List UInt8) (N SC : Nat) (hN : N ≤ 1000) (hS1 : 1 ≤ (SC : Int)) (hS17 : (SC : Int) ≤ 17)
    (hSh : ∀ W, Rd W W.heap.size AK nk ck lk → Rd W W.heap.size AV nv cv lv → Calls Try.prog 11 #[.agg #[.int .i64 (kd : Nat), .int .u32 (fl : Nat), .int .u32 (ex : Nat), .int .u64 (sq : Nat), .slice AK nk ck, .slice AV nv cv]] W fun e w' => ∃ g1 c1 g2 c2, e = .returned (.agg #[.int .i64 (kd : Nat), .int .u32 (fl : Nat), .int .u32 (ex : Nat), .int .u64 (sq : Nat), .slice (some ⟨g1, 0, none⟩) mk c1, .slice (some ⟨g2, 0, none⟩) mv c2]) ∧ g1 ≠ g2 ∧
      Own w' W.heap.size (some ⟨g1, 0, none⟩) (mk + 1) c1 (mlk ++ [7]) ∧ Own w' W.heap.size (some ⟨g2, 0, none⟩) (mv + 1) c2 (mlv ++ [7]) ∧ Below W.heap.size W w')
    (hEn : ∀ g1 c1 g2 c2 W, Rd W W.heap.size (some ⟨g1, 0, none⟩) mk c1 mlk → Rd W W.heap.size (some ⟨g2, 0, none⟩) mv c2 mlv → Calls Try.prog 16 #[.agg #[.int .i64 (kd : Nat), .int .u32 (fl : Nat), .int .u32 (ex : Nat), .int .u64 (sq : Nat), .slice (some ⟨g1, 0, none⟩) mk c1, .slice (some ⟨g2, 0, none⟩) mv c2]] W (EncQ N L W))
    (hSz : ∀ g1 c1 g2 c2 W, Calls Try.prog 21 #[.agg #[.int .i64 (kd : Nat), .int .u32 (fl : Nat), .int .u32 (ex : Nat), .int .u64 (sq : Nat), .slice (some ⟨g1, 0, none⟩) mk c1, .slice (some ⟨g2, 0, none⟩) mv c2]] W fun e w' => e = .returned (.int .i64 (N : Nat)) ∧ Below W.heap.size W w')
    (hDe : ∀ A n c W, n ≤ 2000 → Rd W W.heap.size A n c (L ++ lb.take (min nb 100)) → Calls Try.prog 15 #[.slice A n c] W fun e w' => ∃ K ck V cv, e = .returned (.tuple #[.agg #[.int .i64 (kd : Nat), .int .u32 (fl : Nat), .int .u32 (ex : Nat), .int .u64 (sq : Nat), .slice K mk ck, .slice V mv cv], .int .i64 (N : Nat), .int .i64 0]) ∧ Own w' W.heap.size K mk ck mlk ∧ Own w' W.heap.size V mv cv mlv ∧ Below W.heap.size W w')
    (hSm : ∀ g1 c1 g2 c2 K ck V cv W, Rd W W.heap.size (some ⟨g1, 0, none⟩) mk c1 mlk → Rd W W.heap.size (some ⟨g2, 0, none⟩) mv c2 mlv → Rd W W.heap.size K mk ck mlk → Rd W W.heap.size V mv cv mlv → Calls Try.prog 12 #[.agg #[.int .i64 (kd : Nat), .int .u32 (fl : Nat), .int .u32 (ex : Nat), .int .u64 (sq : Nat), .slice (some ⟨g1, 0, none⟩) mk c1, .slice (some ⟨g2, 0, none⟩) mv c2], .agg #[.int .i64 (kd : Nat), .int .u32 (fl : Nat), .int .u32 (ex : Nat), .int .u64 (sq : Nat), .slice K mk ck, .slice V mv cv]] W (PSame true W))
    (hSc : ∀ g1 c1 g2 c2 W, Calls Try.prog 22 #[.agg #[.int .i64 (kd : Nat), .int .u32 (fl : Nat), .int .u32 (ex : Nat), .int .u64 (sq : Nat), .slice (some ⟨g1, 0, none⟩) mk c1, .slice (some ⟨g2, 0, none⟩) mv c2]] W fun e w' => e = .returned (.int .i64 (SC : Nat)) ∧ Below W.heap.size W w') :
    Calls Try.prog 6 #[recV (kd : Nat) fl ex sq (.slice AK nk ck) (.slice AV nv cv), .slice AB nb cb] w (BackQ w) := by
  have HA := Lib.hid hSh
  have HE := Lib.hid hEn
  have HZ := Lib.hid hSz
  have HD := Lib.hid hDe
  have HM := Lib.hid hSm
  have HC := Lib.hid hSc
  clear hSh hEn hSz hDe hSm hSc
  have k1' := Blk.new w #[.int .i64 (kd : Nat), .int .u32 (fl : Nat), .int .u32 (ex : Nat), .int .u64 (sq : Nat), .slice AK nk ck, .slice AV nv cv] 26
  have b : Below w.heap.size w (w.alloc (.cells #[.int .i64 (kd : Nat), .int .u32 (fl : Nat), .int .u32 (ex : Nat), .int .u64 (sq : Nat), .slice AK nk ck, .slice AV nv cv] 26)) := below_a1' (Below.refl _ _) _
  have hcb := rb.cap
  unfold recV
  go_enter Try.func6, Try.ntmps6
  go_wp2_with fail
  generalize w.alloc (.cells #[.int .i64 (kd : Nat), .int .u32 (fl : Nat), .int .u32 (ex : Nat), .int .u64 (sq : Nat), .slice AK nk ck, .slice AV nv cv] 26) = W0 at k1' b ⊢
  refine (wakes06 _).mono ?_
  rintro e w1 ⟨rfl, b1⟩
  replace k1' := k1'.step b1
  replace b := below_step b b1
  clear b1
  go_upto_region 3 with fail
  go_cut [1] (fun s wx => ∃ X cx, s = .slice X (min nb 100) cx ∧ (∀ w', Rd w' w.heap.size AB nb cb lb → Rd w' w.heap.size X (min nb 100) cx (lb.take (min nb 100))) ∧ ∃ g1 c1 g2 c2, Blk wx w.heap.size #[.int .i64 (kd : Nat), .int .u32 (fl : Nat), .int .u32 (ex : Nat), .int .u64 (sq : Nat), .slice (some ⟨g1, 0, none⟩) mk c1, .slice (some ⟨g2, 0, none⟩) mv c2] 26 ∧ Rd wx wx.heap.size (some ⟨g1, 0, none⟩) mk c1 mlk ∧ Rd wx wx.heap.size (some ⟨g2, 0, none⟩) mv c2 mlv ∧ Below w.heap.size w wx)
  case first =>
    by_cases h9 : nb ≤ 100
    · have HMN := Lib.hid (show min nb 100 = nb from by omega)
      obtain ⟨X, cx, HX, hX⟩ := slc_h rb nb (nb : Int) (by omega) (by omega)
      have h9' : ((100 : Int) < (nb : Int)) = False := eq_false (by omega)
      refine wp_region_noPanic ?_
      refine region_V (by kernel_rfl) ?_
      replace k1' : Blk w1.drew w.heap.size #[.int .i64 (kd : Nat), .int .u32 (fl : Nat), .int .u32 (ex : Nat), .int .u64 (sq : Nat), .slice AK nk ck, .slice AV nv cv] 26 := k1'
      replace b : Below w.heap.size w w1.drew := b.drew
      generalize w1.drew = V0 at k1' b ⊢
      obtain ⟨q0, q1, q2, q3, q4, q5⟩ := box6 k1'
      have hHeld := (show _ ∧ _ ∧ _ ∧ _ ∧ _ ∧ _ from ⟨q0, q1, q2, q3, q4, q5⟩)
      have hlt := k1'.lt
      refine takeV (i := 2) (v := ?_) rfl (by kernel_rfl) (by kernel_rfl) (by kernel_rfl) (fun _ _ _ h => h) (Or.inl ⟨by rfl, ?_⟩) ?_
      rotate_left
      · (intro wx; go_simp; (first | done | (with_reducible rfl) | (simp only [h9', if_false, if_true]; done) | (simp only [h9', if_false, if_true]; with_reducible rfl) | skip))
      try simp only [Act.put, List.setIfInBounds_toArray, List.set_cons_zero, List.set_cons_succ]
      refine takeV (i := 3) (v := ?_) rfl (by kernel_rfl) (by kernel_rfl) (by kernel_rfl) (fun _ _ _ h => h) (Or.inl ⟨by rfl, ?_⟩) ?_
      rotate_left
      · (intro wx; go_simp; (first | done | (with_reducible rfl) | (simp only [h9', if_false, if_true]; done) | (simp only [h9', if_false, if_true]; with_reducible rfl) | skip))
      try simp only [Act.put, List.setIfInBounds_toArray, List.set_cons_zero, List.set_cons_succ]
      refine takeV (i := 4) (v := ?_) rfl (by kernel_rfl) (by kernel_rfl) (by kernel_rfl) (fun _ _ _ h => h) (Or.inl ⟨by rfl, ?_⟩) ?_
      rotate_left
      · (intro wx; go_simp; (first | done | (with_reducible rfl) | (simp only [h9', if_false, if_true]; done) | (simp only [h9', if_false, if_true]; with_reducible rfl) | skip))
      try simp only [Act.put, List.setIfInBounds_toArray, List.set_cons_zero, List.set_cons_succ]
      refine takeV (i := 5) (v := ?_) rfl (by kernel_rfl) (by kernel_rfl) (by kernel_rfl) (fun _ _ _ h => h) (Or.inl ⟨by rfl, ?_⟩) ?_
      rotate_left
      · (intro wx; go_simp; (first | done | (with_reducible rfl) | (simp only [h9', if_false, if_true]; done) | (simp only [h9', if_false, if_true]; with_reducible rfl) | skip))
      try simp only [Act.put, List.setIfInBounds_toArray, List.set_cons_zero, List.set_cons_succ]
      refine takeV (i := 6) (v := ?_) rfl (by kernel_rfl) (by kernel_rfl) (by kernel_rfl) (fun _ _ _ h => h) (Or.inl ⟨by rfl, ?_⟩) ?_
      rotate_left
      · (intro wx; go_simp; (first | done | (with_reducible rfl) | (simp only [h9', if_false, if_true]; done) | (simp only [h9', if_false, if_true]; with_reducible rfl) | skip))
      try simp only [Act.put, List.setIfInBounds_toArray, List.set_cons_zero, List.set_cons_succ]
      refine into_T (fun w' => w'.cell? ⟨w.heap.size, 0, none⟩ = some (.int .i64 (kd : Nat)) ∧ w'.cell? ⟨w.heap.size, 1, none⟩ = some (.int .u32 (fl : Nat)) ∧ w'.cell? ⟨w.heap.size, 2, none⟩ = some (.int .u32 (ex : Nat)) ∧ w'.cell? ⟨w.heap.size, 3, none⟩ = some (.int .u64 (sq : Nat)) ∧ w'.cell? ⟨w.heap.size, 4, none⟩ = some (.slice AK nk ck) ∧ w'.cell? ⟨w.heap.size, 5, none⟩ = some (.slice AV nv cv)) 7 ?_
      refine takeU (i := 0) (v := ?_) rfl (by kernel_rfl) (by kernel_rfl) (by kernel_rfl) (by kernel_rfl) (by kernel_rfl) (fun _ _ _ h => h) (Or.inl ⟨by rfl, ?_⟩) hHeld ?_
      rotate_left
      · (intro wx hSw; (try dsimp only at hSw); go_simp; (first | done | (with_reducible rfl) | (simp only [h9', if_false, if_true]; done) | (simp only [h9', if_false, if_true]; with_reducible rfl) | skip))
      try simp only [Act.put, List.setIfInBounds_toArray, List.set_cons_zero, List.set_cons_succ]
      refine oneT (i := 1) rfl (by kernel_rfl) (fun K hK => ?_)
      clear q0 q1 q2 q3 q4 q5 hHeld
      go_simp
      refine (HA.out _ ((rk.below b).more b.size) ((rv.below b).more b.size)).mono ?_
      rintro e w2 ⟨g1, c1, g2, c2, rfl, hne, oK, oV, b2⟩
      replace k1' := k1'.step b2
      replace b := below_step b b2
      obtain ⟨q0, q1, q2, q3, q4, q5⟩ := box6 k1'
      have x0 := k1'.frozen 0
      have x1 := k1'.frozen 1
      have x2 := k1'.frozen 2
      have x3 := k1'.frozen 3
      have x4 := k1'.frozen 4
      have x5 := k1'.frozen 5
      have hHeld := (show _ ∧ _ ∧ _ ∧ _ ∧ _ ∧ _ from ⟨q0, q1, q2, q3, q4, q5⟩)
      refine hK.out _ _ (fun _ => hHeld) ?_
      clear hK K hHeld
      try simp only [Act.put, List.setIfInBounds_toArray, List.set_cons_zero, List.set_cons_succ]
      have kf := blk_set6 k1' (.int .i64 (kd : Nat)) (.int .u32 (fl : Nat)) (.int .u32 (ex : Nat)) (.int .u64 (sq : Nat)) (.slice (some ⟨g1, 0, none⟩) mk c1) (.slice (some ⟨g2, 0, none⟩) mv c2)
      have hg := grown_set6 w2 w.heap.size (.int .i64 (kd : Nat)) (.int .u32 (fl : Nat)) (.int .u32 (ex : Nat)) (.int .u64 (sq : Nat)) (.slice (some ⟨g1, 0, none⟩) mk c1) (.slice (some ⟨g2, 0, none⟩) mv c2)
      have bf := b.trans (below_grown hg (Nat.le_refl _) k1'.lt)
      have pK := own_fore (oK.kept hg hlt)
      have pV := own_fore (oV.kept hg hlt)
      refine oneT (i := 7) rfl (by kernel_rfl) (fun K hK => ?_)
      go_simp
      refine hK.out _ _ (fun h => absurd h (by decide)) ?_
      clear hK K
      try simp only [Act.put, List.setIfInBounds_toArray, List.set_cons_zero, List.set_cons_succ]
      generalize (((((w2.setCell ⟨w.heap.size, 0, none⟩ (.int .i64 (kd : Nat))).setCell ⟨w.heap.size, 1, none⟩ (.int .u32 (fl : Nat))).setCell ⟨w.heap.size, 2, none⟩ (.int .u32 (ex : Nat))).setCell ⟨w.heap.size, 3, none⟩ (.int .u64 (sq : Nat))).setCell ⟨w.heap.size, 4, none⟩ (.slice (some ⟨g1, 0, none⟩) mk c1)).setCell ⟨w.heap.size, 5, none⟩ (.slice (some ⟨g2, 0, none⟩) mv c2) = w3 at kf bf pK pV ⊢
      refine oneT (i := 8) rfl (by kernel_rfl) (fun K hK => ?_)
      go_simp
      refine hK.out _ _ (fun h => absurd h (by decide)) ?_
      clear hK K
      try simp only [Act.put, List.setIfInBounds_toArray, List.set_cons_zero, List.set_cons_succ]
      refine doneT (by kernel_rfl) ?_ _
      refine NoPanic.normal ?_
      go_wp2_with fail
      go_meet
      exact ⟨X, cx, by rw [HMN.out], by rw [HMN.out]; exact fun w' r => (hX _ _ r), g1, c1, g2, c2, kf, pK, pV, bf⟩
    
    · have HMN := Lib.hid (show min nb 100 = 100 from by omega)
      obtain ⟨X, cx, HX, hX⟩ := slc_h rb 100 100 (by omega) (by omega)
      have h9' : ((100 : Int) < (nb : Int)) = True := eq_true (by omega)
      refine wp_region_noPanic ?_
      refine region_V (by kernel_rfl) ?_
      replace k1' : Blk w1.drew w.heap.size #[.int .i64 (kd : Nat), .int .u32 (fl : Nat), .int .u32 (ex : Nat), .int .u64 (sq : Nat), .slice AK nk ck, .slice AV nv cv] 26 := k1'
      replace b : Below w.heap.size w w1.drew := b.drew
      generalize w1.drew = V0 at k1' b ⊢
      obtain ⟨q0, q1, q2, q3, q4, q5⟩ := box6 k1'
      have hHeld := (show _ ∧ _ ∧ _ ∧ _ ∧ _ ∧ _ from ⟨q0, q1, q2, q3, q4, q5⟩)
      have hlt := k1'.lt
      refine takeV (i := 2) (v := ?_) rfl (by kernel_rfl) (by kernel_rfl) (by kernel_rfl) (fun _ _ _ h => h) (Or.inl ⟨by rfl, ?_⟩) ?_
      rotate_left
      · (intro wx; go_simp; (first | done | (with_reducible rfl) | (simp only [h9', if_false, if_true]; done) | (simp only [h9', if_false, if_true]; with_reducible rfl) | skip))
      try simp only [Act.put, List.setIfInBounds_toArray, List.set_cons_zero, List.set_cons_succ]
      refine takeV (i := 3) (v := ?_) rfl (by kernel_rfl) (by kernel_rfl) (by kernel_rfl) (fun _ _ _ h => h) (Or.inl ⟨by rfl, ?_⟩) ?_
      rotate_left
      · (intro wx; go_simp; (first | done | (with_reducible rfl) | (simp only [h9', if_false, if_true]; done) | (simp only [h9', if_false, if_true]; with_reducible rfl) | skip))
      try simp only [Act.put, List.setIfInBounds_toArray, List.set_cons_zero, List.set_cons_succ]
      refine takeV (i := 4) (v := ?_) rfl (by kernel_rfl) (by kernel_rfl) (by kernel_rfl) (fun _ _ _ h => h) (Or.inl ⟨by rfl, ?_⟩) ?_
      rotate_left
      · (intro wx; go_simp; (first | done | (with_reducible rfl) | (simp only [h9', if_false, if_true]; done) | (simp only [h9', if_false, if_true]; with_reducible rfl) | skip))
      try simp only [Act.put, List.setIfInBounds_toArray, List.set_cons_zero, List.set_cons_succ]
      refine takeV (i := 5) (v := ?_) rfl (by kernel_rfl) (by kernel_rfl) (by kernel_rfl) (fun _ _ _ h => h) (Or.inl ⟨by rfl, ?_⟩) ?_
      rotate_left
      · (intro wx; go_simp; (first | done | (with_reducible rfl) | (simp only [h9', if_false, if_true]; done) | (simp only [h9', if_false, if_true]; with_reducible rfl) | skip))
      try simp only [Act.put, List.setIfInBounds_toArray, List.set_cons_zero, List.set_cons_succ]
      refine takeV (i := 6) (v := ?_) rfl (by kernel_rfl) (by kernel_rfl) (by kernel_rfl) (fun _ _ _ h => h) (Or.inl ⟨by rfl, ?_⟩) ?_
      rotate_left
      · (intro wx; go_simp; (first | done | (with_reducible rfl) | (simp only [h9', if_false, if_true]; done) | (simp only [h9', if_false, if_true]; with_reducible rfl) | skip))
      try simp only [Act.put, List.setIfInBounds_toArray, List.set_cons_zero, List.set_cons_succ]
      refine into_T (fun w' => w'.cell? ⟨w.heap.size, 0, none⟩ = some (.int .i64 (kd : Nat)) ∧ w'.cell? ⟨w.heap.size, 1, none⟩ = some (.int .u32 (fl : Nat)) ∧ w'.cell? ⟨w.heap.size, 2, none⟩ = some (.int .u32 (ex : Nat)) ∧ w'.cell? ⟨w.heap.size, 3, none⟩ = some (.int .u64 (sq : Nat)) ∧ w'.cell? ⟨w.heap.size, 4, none⟩ = some (.slice AK nk ck) ∧ w'.cell? ⟨w.heap.size, 5, none⟩ = some (.slice AV nv cv)) 7 ?_
      refine takeU (i := 0) (v := ?_) rfl (by kernel_rfl) (by kernel_rfl) (by kernel_rfl) (by kernel_rfl) (by kernel_rfl) (fun _ _ _ h => h) (Or.inl ⟨by rfl, ?_⟩) hHeld ?_
      rotate_left
      · (intro wx hSw; (try dsimp only at hSw); go_simp; (first | done | (with_reducible rfl) | (simp only [h9', if_false, if_true]; done) | (simp only [h9', if_false, if_true]; with_reducible rfl) | skip))
      try simp only [Act.put, List.setIfInBounds_toArray, List.set_cons_zero, List.set_cons_succ]
      refine oneT (i := 1) rfl (by kernel_rfl) (fun K hK => ?_)
      clear q0 q1 q2 q3 q4 q5 hHeld
      go_simp
      refine (HA.out _ ((rk.below b).more b.size) ((rv.below b).more b.size)).mono ?_
      rintro e w2 ⟨g1, c1, g2, c2, rfl, hne, oK, oV, b2⟩
      replace k1' := k1'.step b2
      replace b := below_step b b2
      obtain ⟨q0, q1, q2, q3, q4, q5⟩ := box6 k1'
      have x0 := k1'.frozen 0
      have x1 := k1'.frozen 1
      have x2 := k1'.frozen 2
      have x3 := k1'.frozen 3
      have x4 := k1'.frozen 4
      have x5 := k1'.frozen 5
      have hHeld := (show _ ∧ _ ∧ _ ∧ _ ∧ _ ∧ _ from ⟨q0, q1, q2, q3, q4, q5⟩)
      refine hK.out _ _ (fun _ => hHeld) ?_
      clear hK K hHeld
      try simp only [Act.put, List.setIfInBounds_toArray, List.set_cons_zero, List.set_cons_succ]
      have kf := blk_set6 k1' (.int .i64 (kd : Nat)) (.int .u32 (fl : Nat)) (.int .u32 (ex : Nat)) (.int .u64 (sq : Nat)) (.slice (some ⟨g1, 0, none⟩) mk c1) (.slice (some ⟨g2, 0, none⟩) mv c2)
      have hg := grown_set6 w2 w.heap.size (.int .i64 (kd : Nat)) (.int .u32 (fl : Nat)) (.int .u32 (ex : Nat)) (.int .u64 (sq : Nat)) (.slice (some ⟨g1, 0, none⟩) mk c1) (.slice (some ⟨g2, 0, none⟩) mv c2)
      have bf := b.trans (below_grown hg (Nat.le_refl _) k1'.lt)
      have pK := own_fore (oK.kept hg hlt)
      have pV := own_fore (oV.kept hg hlt)
      refine oneT (i := 7) rfl (by kernel_rfl) (fun K hK => ?_)
      go_simp
      refine hK.out _ _ (fun h => absurd h (by decide)) ?_
      clear hK K
      try simp only [Act.put, List.setIfInBounds_toArray, List.set_cons_zero, List.set_cons_succ]
      generalize (((((w2.setCell ⟨w.heap.size, 0, none⟩ (.int .i64 (kd : Nat))).setCell ⟨w.heap.size, 1, none⟩ (.int .u32 (fl : Nat))).setCell ⟨w.heap.size, 2, none⟩ (.int .u32 (ex : Nat))).setCell ⟨w.heap.size, 3, none⟩ (.int .u64 (sq : Nat))).setCell ⟨w.heap.size, 4, none⟩ (.slice (some ⟨g1, 0, none⟩) mk c1)).setCell ⟨w.heap.size, 5, none⟩ (.slice (some ⟨g2, 0, none⟩) mv c2) = w3 at kf bf pK pV ⊢
      refine oneT (i := 8) rfl (by kernel_rfl) (fun K hK => ?_)
      go_simp
      refine hK.out _ _ (fun h => absurd h (by decide)) ?_
      clear hK K
      try simp only [Act.put, List.setIfInBounds_toArray, List.set_cons_zero, List.set_cons_succ]
      refine doneT (by kernel_rfl) ?_ _
      refine NoPanic.normal ?_
      go_wp2_with fail
      go_meet
      exact ⟨X, cx, by rw [HMN.out], by rw [HMN.out]; exact fun w' r => (hX _ _ r), g1, c1, g2, c2, kf, pK, pV, bf⟩
  case rest =>
    obtain ⟨X, cx, rfl, hX, g1, c1, g2, c2, k1, pK, pV, b⟩ := hcut
    have HX := Lib.hid hX
    have HEW := Lib.hid (HE.out g1 c1 g2 c2 _ pK pV)
    obtain ⟨q0, q1, q2, q3, q4, q5⟩ := box6 k1
    clear hX HE HA
    go_wp2_with fail
    refine HEW.out.mono ?_
    rintro e w3 ⟨C, cc, rfl, oC, b3⟩
    replace b := below_step b b3
    replace k1 := k1.step b3
    replace pK := (pK.below b3).more b3.size
    replace pV := (pV.below b3).more b3.size
    have hmb : min nb 100 ≤ 100 := Nat.min_le_right _ _
    have rX := HX.out _ (rb.below b)
    have rC := oC.rd
    clear q0 q1 q2 q3 q4 q5 b3 HEW oC
    generalize min nb 100 = mb at HD rX hmb ⊢
    generalize lb.take mb = lb' at HD rX ⊢
    go_wp2_with (at_builtin; refine wpList_app8 _ rfl _ _ rfl w3.heap.size (some ⟨w3.heap.size, 0, none⟩) 0 0 [] rfl (Own.empty w3 _ (Nat.le_refl _)) w3.heap.size C N cc L rfl (rC.alloc (Nat.le_refl _) _) (by omega) (by simp) ?_)
    intro A4 c4 w4 o4 b4
    have b4' : Below w3.heap.size w3 w4 := ((Below.refl _ _).alloc (Nat.le_refl _) _).trans b4
    go_wp2_with (at_builtin; refine wpList_app8 _ rfl _ _ rfl w3.heap.size A4 N c4 L rfl o4 w.heap.size X mb cx lb' rfl (rX.below (b4'.mono b.size)) (by omega) b4'.size ?_)
    intro A5 c5 w5 o5 b5
    have b5' := b4'.trans b5
    replace b := below_step b b5'
    replace k1 := k1.step b5'
    replace pK := (pK.below b5').more b5'.size
    replace pV := (pV.below b5').more b5'.size
    have HDW := Lib.hid (HD.out A5 (N + mb) c5 _ (by omega) o5.rd)
    clear b4 b4' b5 b5' o4 o5 HD rX rC
    go_wp2_with fail
    refine HDW.out.mono ?_
    rintro e w6 ⟨K, ck', V, cv', rfl, oK, oV, b6⟩
    have ba := below_a1' (Below.refl w6.heap.size w6) (.cells #[.int .i64 (kd : Nat), .int .u32 (fl : Nat), .int .u32 (ex : Nat), .int .u64 (sq : Nat), .slice K mk ck', .slice V mv cv'] 26)
    have k2 := Blk.new w6 #[.int .i64 (kd : Nat), .int .u32 (fl : Nat), .int .u32 (ex : Nat), .int .u64 (sq : Nat), .slice K mk ck', .slice V mv cv'] 26
    replace b := below_step (below_step b b6) ba
    replace k1 := (k1.step b6).step ba
    have gK := (oK.rd.below ba).more ba.size
    have gV := (oV.rd.below ba).more ba.size
    replace pK := ((pK.below b6).more b6.size |>.below ba).more ba.size
    replace pV := ((pV.below b6).more b6.size |>.below ba).more ba.size
    clear HDW b6 ba oK oV
    obtain ⟨q0, q1, q2, q3, q4, q5⟩ := box6 k1
    obtain ⟨y0, y1, y2, y3, y4, y5⟩ := box6 k2
    go_wp2_with fail
    refine (HZ.out g1 c1 g2 c2 _).mono ?_
    rintro e w7 ⟨rfl, b7⟩
    clear q0 q1 q2 q3 q4 q5 y0 y1 y2 y3 y4 y5
    replace pK := (pK.below b7).more b7.size
    replace pV := (pV.below b7).more b7.size
    replace gK := (gK.below b7).more b7.size
    replace gV := (gV.below b7).more b7.size
    replace k1 := k1.step b7
    replace k2 := k2.step b7
    replace b := below_step b b7
    obtain ⟨q0, q1, q2, q3, q4, q5⟩ := box6 k1
    obtain ⟨y0, y1, y2, y3, y4, y5⟩ := box6 k2
    go_wp2_with fail
    refine (HM.out g1 c1 g2 c2 K ck' V cv' _ pK pV gK gV).mono ?_
    rintro e w8 ⟨rfl, b8⟩
    clear q0 q1 q2 q3 q4 q5 y0 y1 y2 y3 y4 y5
    replace k1 := k1.step b8
    replace k2 := k2.step b8
    replace b := below_step b b8
    obtain ⟨q0, q1, q2, q3, q4, q5⟩ := box6 k1
    obtain ⟨y0, y1, y2, y3, y4, y5⟩ := box6 k2
    clear pK pV gK gV b7 b8 HM
    go_wp2_with fail
    refine (HC.out g1 c1 g2 c2 _).mono ?_
    rintro e w9 ⟨rfl, b9⟩
    clear q0 q1 q2 q3 q4 q5 y0 y1 y2 y3 y4 y5
    replace k1 := k1.step b9
    replace k2 := k2.step b9
    replace b := below_step b b9
    obtain ⟨q0, q1, q2, q3, q4, q5⟩ := box6 k1
    obtain ⟨y0, y1, y2, y3, y4, y5⟩ := box6 k2
    clear b9
    go_wp2_with fail
    refine (HC.out g1 c1 g2 c2 _).mono ?_
    rintro e wa ⟨rfl, b10⟩
    replace b := below_step b b10
    go_wp2_with fail
    go_ret
    exact ⟨rfl, b⟩
theorem walk_recordBack (kind : Int) (fl ex sq : Nat) (AK : Option Addr) (nk ck : Nat) (lk : List UInt8) (AV : Option Addr) (nv cv : Nat) (lv : List UInt8) (AB : Option Addr) (nb cb : Nat) (lb : List UInt8) (w : World) (r0 : Rcd w w.heap.size kind fl ex sq AK nk ck lk AV nv cv lv) (z0 : ck ≤ 140737488351232 ∧ cv ≤ 140737488351232)
    (rb : Rd w w.heap.size AB nb cb lb) (zb : cb ≤ 140737488351232) :
    Calls Try.prog 6 #[recV kind fl ex sq (.slice AK nk ck) (.slice AV nv cv), .slice AB nb cb] w fun e w' => e = .returned (.bool true) ∧ Below w.heap.size w w' := by
  obtain ⟨rk, rv, b1, b2, b3⟩ := r0
  have hlk := rk.len
  have hlv := rv.len
  cases hr : rightR kind fl ex sq (min nk 600) (min nv 600)
  · refine back_no kind fl ex sq AK nk ck lk AV nv cv lv AB nb cb lb (min nk 600) (min nv 600) (lk.take (min nk 600)) (lv.take (min nv 600)) w rk rv rb (fun W r r' => short_any kind fl ex sq AK AV nk ck nv cv lk lv W r r')
      (fun g1 c1 g2 c2 W r r' => enc_no kind fl ex sq _ _ _ c1 _ c2 W hr) (fun g1 c1 g2 c2 W => ?_)
    have := size_any kind fl ex sq (some ⟨g1, 0, none⟩) (some ⟨g2, 0, none⟩) (min nk 600) c1 (min nv 600) c2 W
    rw [show sizeR kind fl ex sq (min nk 600) (min nv 600) = 0 from by unfold sizeR; rw [hr]; rfl] at this
    exact this
  · obtain ⟨kd, rfl, hkd, hmk, hmv⟩ := right_kd hr
    have hf : RcF kd fl ex sq (min nk 600) (min nv 600) := ⟨hkd, by omega, by omega, by omega, by omega, by omega⟩
    have e1 : (lk.take (min nk 600)).length = min nk 600 := by rw [List.length_take]; omega
    have e2 : (lv.take (min nv 600)).length = min nv 600 := by rw [List.length_take]; omega
    generalize hmk' : min nk 600 = mk at *
    generalize hmv' : min nv 600 = mv at *
    have ez : sizeR (kd : Int) fl ex sq mk mv = 21 + mk + mv := by unfold sizeR; rw [hr]; rfl
    have hsc : 1 ≤ secR (kd : Int) fl ex sq mk mv ∧ secR (kd : Int) fl ex sq mk mv ≤ 17 := by unfold secR; rw [ez]; omega
    refine back_ok kd fl ex sq AK nk ck lk AV nv cv lv AB nb cb lb mk mv (lk.take mk) (lv.take mv) w rk rv rb (recB kd fl ex sq (lk.take mk) (lv.take mv)) (21 + mk + mv) (secR (kd : Int) fl ex sq mk mv) (by omega) (by omega) (by omega) ?_ ?_ ?_ ?_ ?_ ?_
    · intro W r r'
      have := short_any (kd : Int) fl ex sq AK AV nk ck nv cv lk lv W r r'
      rw [hmk', hmv'] at this
      exact this
    · intro g1 c1 g2 c2 W r r'
      exact enc_ok kd fl ex sq hkd (by omega) (by omega) (by omega) _ _ mk c1 mv c2 _ _ W r r' hr
    · intro g1 c1 g2 c2 W
      have := size_any (kd : Int) fl ex sq (some ⟨g1, 0, none⟩) (some ⟨g2, 0, none⟩) mk c1 mv c2 W
      rw [ez] at this
      exact this
    · intro A n c W hn r
      exact dec_made hf hr _ _ _ e1 e2 A n c W r (by omega)
    · intro g1 c1 g2 c2 K ck V cv W r1 r2 r3 r4
      have := psame_5 (kd : Int) kd fl fl ex ex sq sq (some ⟨g1, 0, none⟩) (some ⟨g2, 0, none⟩) K V mk c1 mv c2 mk ck mv cv _ _ _ _ W r1 r2 r3 r4 (beq_self_eq_true _) (beq_self_eq_true _) (beq_self_eq_true _) (beq_self_eq_true _) (eqB_rfl _)
      rw [eqB_rfl] at this
      exact this
    · intro g1 c1 g2 c2 W
      exact sectors_any (kd : Int) fl ex sq (some ⟨g1, 0, none⟩) (some ⟨g2, 0, none⟩) mk c1 mv c2 W


set_option maxRecDepth 100000 in
theorem lifted_recordBack (os : Os) (started : os.Started) (H : Type) (enc : TypeId × Value → H) :
    ReturnsInHanded {} Try.checked os 6 .any (Rows.recordBackSpec.pre6 enc Try.prog Try.f6 Rows.recordBackRow.domain false) (Rows.recordBackSpec.post enc Try.prog Try.f6 false true false false) := by
  refine returnsInHanded_of_change_sized (C := Try.checked) own started (by kernel_rfl) Try.func6
    (ChangeSpec.witness6 (enc := enc) (C := Try.checked) false ⟨#[], #[.agg #[.int .i64 0, .int .u32 0, .int .u32 0, .int .u64 0, .slice none 0 0, .slice none 0 0], .slice none 0 0], []⟩ 8 (by kernel_rfl) (by kernel_rfl) (by kernel_rfl) (by kernel_rfl)) ?_
  intro W base args ds gs before hval0 hW hcnd hsz0 _
  have hval : ∀ (j : Nat) t v, Try.f6.params[j]? = some t → args[j]? = some v → Value.okWide Try.prog W .any base t v := hval0
  have hsz : (DataW.weightsEach Try.prog (Try.f6.params.toList ++ Rows.recordBackSpec.plain.varTypes Try.prog) (ds ++ gs)).all (· ≤ reachBytes) = true := hsz0
  have hW' := hW
  obtain ⟨p, q, hA0, hV, rfl, hfz, hnd⟩ := hW
  have hA : DataW.TrodAll enc Try.prog W 0 (fun _ => true) true Try.f6.params.toList args.toList ds p := hA0
  rw [Try.params6] at hA hval hsz
  obtain ⟨v0, vs0, d0, ds0, p0, q0, hargs, rfl, rfl, h0, t0⟩ := trodAll_cons hA
  obtain ⟨v1, vs1, d1, ds1, p1, q1, rfl, rfl, rfl, h1, t1⟩ := trodAll_cons t0
  obtain ⟨rfl, rfl, rfl⟩ := trodAll_nil t1
  obtain rfl : args = #[v0, v1] := by cases args; simp_all
  obtain ⟨rfl, rfl⟩ := trodVars_none hV
  have k0 := h0
  obtain ⟨kind0, fl0, ex0, sq0, AK0, nk0, ck0, lk0, AV0, nv0, cv0, lv0, rfl, r0, y0⟩ := open_rec (hval 0 26 v0 rfl rfl) h0
  have s0 := y0 (weights_of hsz (j := 0) rfl rfl)
  have k1 := h1
  obtain ⟨A1, n1, c1, l1, rfl, r1, y1⟩ := open_bytes (hval 1 24 v1 rfl rfl) h1
  have s1 := y1 (weights_of hsz (j := 1) rfl rfl)
  clear hA0 hval0
  refine (walk_recordBack kind0 fl0 ex0 sq0 AK0 nk0 ck0 lk0 AV0 nv0 cv0 lv0 A1 n1 c1 l1 W r0 s0 r1 s1).mono fun e W' ⟨he, bel⟩ => ?_
  subst he
  exact ⟨_, rfl, _, _, _, [], _, [], hW', trodAll_mk1 (shut_bool Try.underlying4 _), (trodAll_cons_mk (Below.trod laidOut (by kernel_rfl) (of_decide_eq_true (by kernel_rfl)) k0 bel (trod_places k0)) (trodAll_cons_mk (Below.trod laidOut (by kernel_rfl) (of_decide_eq_true (by kernel_rfl)) k1 bel (trod_places k1)) trodAll_mk0)), rfl, bel.frame _, fun h => by cases h⟩

theorem over_recordBack : Rows.recordBackRow.holds Try.pinned (OpenSpec.ofChange Rows.recordBackSpec) :=
  OpenClaim.holds_of_wide 6 Try.f6 rfl rfl rfl rfl rfl rfl rfl ⟨rfl, rfl, rfl, rfl, rfl⟩ rfl rfl rfl rfl rfl (by kernel_rfl) Try.func6 (by kernel_rfl)
    (of_decide_eq_true (by kernel_rfl)) (by unfold Func.isWrapper; first | (rw [if_pos (by decide +kernel)]; kernel_rfl) | (rw [if_neg (by decide +kernel)]; exact ⟨rfl, rfl⟩))
    (fun os started H enc _ => lifted_recordBack os started H enc)

/-- The statement. -/
theorem recordBack_holds : Rows.RecordBackSaid := over_recordBack
#print axioms recordBack_holds

end Go.Proofs.Ytkdkmdjfimnkaaa

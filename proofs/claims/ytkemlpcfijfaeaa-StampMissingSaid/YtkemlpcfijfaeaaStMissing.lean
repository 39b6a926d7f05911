/- StampMissing: sectors with one left out, in another order, or one of another generation, are joined to nothing. Conditions: none. -/
import Derived.Test.YtkemlpcfijfaeaaSps
import Derived.Test.YtkemlpcfijfaeaaSpr
import Derived.Test.YtkemlpcfijfaeaaHold
namespace Go.Proofs.Ytkemlpcfijfaeaa
set_option linter.unusedVariables false
set_option linter.unusedSimpArgs false
open Go.ChangeShapes Go.WideShapes Go.ChangeAt Go.RowKit

def LawM5 (w : World) (e : Ending) (w' : World) : Prop := e = .returned (.bool true) ∧ Below w.heap.size w w'
set_option maxRecDepth 100000 in
set_option maxHeartbeats 1000000 in
theorem miss_big (g : Nat) (A : Option Addr) (n c : Nat) (a0 : Int) (hn : 16384 < n ∨ (n ≤ 16384 ∧ g = 0) ∨ (n ≤ 16384 ∧ g ≠ 0 ∧ g = 18446744073709551615)) (w : World) : Calls Try.prog 7 #[.int .u64 g, .slice A n c, .int .i64 a0] w (LawM5 w) := by
  rcases hn with hn | ⟨hn, hg⟩ | ⟨hn, hg, hg2⟩
  · have i1 : (16384 : Int) < (n : Int) := by omega
    go_enter Try.func7, Try.ntmps7
    go_wp2_with fail
    refine (wakes05 _).mono ?_
    rintro e w1 ⟨rfl, b1⟩
    go_wp2_with fail
    go_ret
    exact ⟨rfl, b1⟩
  · have i1 : ((16384 : Int) < (n : Int)) = False := by simp; omega
    have t0 : ((g : Int) == 0) = true := by rw [beq_iff_eq]; omega
    clear hg
    go_enter Try.func7, Try.ntmps7
    go_wp2_with fail
    refine (wakes05 _).mono ?_
    rintro e w1 ⟨rfl, b1⟩
    go_wp2_with fail
    go_ret
    exact ⟨rfl, b1⟩
  · have i1 : ((16384 : Int) < (n : Int)) = False := by simp; omega
    have t0 : ((g : Int) == 0) = false := by rw [beq_eq_false_iff_ne]; omega
    have t1 : ((g : Int) == 18446744073709551615) = true := by rw [beq_iff_eq]; omega
    clear hg hg2
    go_enter Try.func7, Try.ntmps7
    go_wp2_with fail
    refine (wakes05 _).mono ?_
    rintro e w1 ⟨rfl, b1⟩
    go_wp2_with fail
    go_ret
    exact ⟨rfl, b1⟩
theorem left_64 {L : List (List UInt8)} (h : ∀ x ∈ L, x.length = 64) (k : Nat) : ∀ x ∈ leftB L k, x.length = 64 := by
  intro x hx
  unfold leftB at hx
  rcases List.mem_append.1 hx with h1 | h1
  · exact h x (List.mem_of_mem_take h1)
  · exact h x (List.mem_of_mem_drop h1)
def MissR (w V0 V3 : World) (LL : List (List UInt8)) (x y : List UInt8) (A2 A4 : Option Addr) (m c2 c4 c5 gt k : Nat) (wx : World) : Prop :=
  RdB wx V0.heap.size A2 m c2 LL ∧ OwB wx V0.heap.size A4 (m - 1) c4 (leftB LL k) ∧ OwB wx V3.heap.size (some ⟨gt, 0, none⟩) m c5 (turnB LL k x y) ∧ Below w.heap.size w wx ∧ V3.heap.size ≤ wx.heap.size
theorem missR_mk {w V0 V3 V5 V7 : World} {LL : List (List UInt8)} {x y : List UInt8} {A2 A4 : Option Addr} {m c2 c4 c5 gt k : Nat} (r2 : RdB V5 V0.heap.size A2 m c2 LL) (o4 : OwB V5 V0.heap.size A4 (m - 1) c4 (leftB LL k)) (hat : ∀ q, (Value.slice A4 (m - 1) c4).ownBlock = some q → q ≠ gt) (b : Below w.heap.size w V5) (hsz2 : w.heap.size ≤ V0.heap.size) (hV3 : V0.heap.size ≤ V3.heap.size) (hV4 : V3.heap.size ≤ V5.heap.size) (hgt1 : V3.heap.size ≤ gt) (hgt2 : gt < V5.heap.size) (g : V5.grownBy V7 (some gt)) (o7 : OwB V7 V3.heap.size (some ⟨gt, 0, none⟩) m c5 ((LL.set k y).set (k + 1) x)) : MissR w V0 V3 LL x y A2 A4 m c2 c4 c5 gt k V7 :=
  ⟨Rz.below r2 (below_grown g (by omega) hgt2), Oz.grown o4 g hat, o7, b.trans (below_grown g (by omega) hgt2), Nat.le_trans hV4 g.size⟩
set_option maxRecDepth 100000 in
set_option maxHeartbeats 4000000 in
theorem miss_z (g k f : Nat) (hg : g ≠ 0) (hg2 : g < 18446744073709551615) (A : Option Addr) (n c m : Nat) (l pl : List UInt8) (a0 : Int) (hn : n ≤ 16384) (w : World) (r : Rd w w.heap.size A n c l) (hk : m ≤ 1000) (hm2 : 2 ≤ m) (hkm : k + 1 < m) (hk0 : k = 0) (hkk : ∀ q : Nat, (if a0 < 0 then 0 else a0) = (q : Int) → (q : Int) % ((m : Int) - 1) = (k : Int))
    (LL : List (List UInt8)) (x y z : List UInt8) (H64 : Hid (∀ x ∈ LL, x.length = 64)) (HLL : Hid (LL.length = m)) (HX : Hid (LL[k]? = some x)) (HY : Hid (LL[k + 1]? = some y)) (HX64 : Hid (x.length = 64)) (HY64 : Hid (y.length = 64)) (HZ64 : Hid (z.length = 64))
    (HS : Hid (∀ W, Rd W W.heap.size A n c l → Calls Try.prog 15 #[.int .u64 g, .int .u32 7, .slice A n c] W fun e w' => ∃ A' c', e = .returned (.tuple #[.slice A' m c', .int .i64 0]) ∧ OwB w' W.heap.size A' m c' LL ∧ Below W.heap.size W w'))
    (HREAD : Hid (∀ W, Calls Try.prog 20 #[.agg (ar x)] W fun e w' => ∃ P cP, e = .returned (.tuple #[.agg #[.int .u64 (g : Nat), .int .u32 (7 + (k : Int)), .int .i64 (f : Nat)], .slice P f cP, .int .i64 0]) ∧ Own w' W.heap.size P f cP pl ∧ Below W.heap.size W w'))
    (HPACK : Hid (∀ A c W, Rd W W.heap.size A f c pl → Calls Try.prog 21 #[.int .u64 ((g : Int) + 1), .int .u32 (7 + (k : Int)), .slice A f c] W fun e w' => e = .returned (.tuple #[.agg (ar z), .int .i64 0]) ∧ Below W.heap.size W w'))
    (HTURN : Hid (∀ A c W, RdB W W.heap.size A m c (turnB LL k x y) → Calls Try.prog 12 #[.slice A m c] W fun e w' => e = .returned (.tuple #[.slice none 0 0, .int .i64 150]) ∧ Below W.heap.size W w'))
    (HOTHER : Hid (∀ A c W, RdB W W.heap.size A m c (LL.set k z) → Calls Try.prog 12 #[.slice A m c] W fun e w' => e = .returned (.tuple #[.slice none 0 0, .int .i64 150]) ∧ Below W.heap.size W w'))
    (HLEFT : Hid (∀ A c W, RdB W W.heap.size A (m - 1) c (leftB LL k) → Calls Try.prog 12 #[.slice A (m - 1) c] W fun e w' => ∃ A' c', e = .returned (.tuple #[.slice A' (n - 48) c', .int .i64 0]) ∧ Own w' W.heap.size A' (n - 48) c' (l.drop 48) ∧ Below W.heap.size W w')) (hn48 : 48 ≤ n) : Calls Try.prog 7 #[.int .u64 g, .slice A n c, .int .i64 a0] w (LawM5 w) := by
  have i1 : ((16384 : Int) < (n : Int)) = False := by simp; omega
  have b := Below.refl w.heap.size w
  have hl := r.len
  have t0 : ((g : Int) == 0) = false := by rw [beq_eq_false_iff_ne]; omega
  have t1 : ((g : Int) == 18446744073709551615) = false := by rw [beq_eq_false_iff_ne]; omega
  have im : ((m : Int) < 2) = False := by simp; omega
  have eg1 : IntKind.u64.wrap ((g : Int) + 1) = (g : Int) + 1 := IntWalk.u64_in _ (by omega)
  have ek1 : IntKind.u32.wrap (k : Int) = (k : Int) := IntWalk.u32_in _ (by omega)
  have ek7 : IntKind.u32.wrap (7 + (k : Int)) = 7 + (k : Int) := IntWalk.u32_in _ (by omega)
  have ek0 : ((k : Int) == 0) = true := by first | (rw [beq_iff_eq]; omega) | (rw [beq_eq_false_iff_ne]; omega)
  have hw1 : IntKind.i64.wrap ((k : Int) + 1) = (k : Int) + 1 := IntWalk.i64_in _ (by omega)
  obtain ⟨q, hq⟩ : ∃ q : Nat, (if a0 < 0 then 0 else a0) = (q : Int) := by
    split
    · exact ⟨0, rfl⟩
    · exact ⟨a0.toNat, by omega⟩
  have hkq := hkk q hq
  have HL := Lib.hid hl
  clear hkk hk0 hg hg2 hl
  go_enter Try.func7, Try.ntmps7
  go_wp2_with fail
  refine (wakes05 _).mono ?_
  rintro e w1 ⟨rfl, b1⟩
  replace b := below_step b b1
  clear b1
  have HSx := HS.out w1 (r.step b)
  go_wp2_with fail
  refine HSx.mono ?_
  rintro e w2 ⟨A2, c2, rfl, o2, b2⟩
  replace b := below_step b b2
  clear HSx b2
  have r2 : RdB w2 w2.heap.size A2 m c2 LL := o2.rdB
  clear o2
  go_upto_region 11 with fail
  refine wp_region_noPanic ?_
  refine region_T (fun _ => True) 11 (by kernel_rfl) ?_
  replace r2 : RdB w2.drew w2.heap.size A2 m c2 LL := r2
  replace b : Below w.heap.size w w2.drew := b.drew
  have hsz2 : w.heap.size ≤ w2.drew.heap.size := b.size
  obtain ⟨X1, cx1, eS1, rS1⟩ := slb_h r2 H64.out k (by omega)
  obtain ⟨X2, cx2, eS2, rS2⟩ := slb_l r2 H64.out (k + 1) ((k : Int) + 1) (by omega) (by omega)
  have rX1 := rS1 _ _ r2
  have rX2 := rS2 _ _ r2
  clear rS1 rS2
  rw [show w2.heap.size = w2.drew.heap.size from rfl] at r2 rX1 rX2
  generalize w2.drew = V0 at r2 b hsz2 rX1 rX2 ⊢
  refine takeT (i := 1) (v := ?_) rfl (by kernel_rfl) (by kernel_rfl) (by decide) (by kernel_rfl) (by kernel_rfl) (fun _ _ _ h => h) (Or.inl ⟨by rfl, ?_⟩) trivial ?_
  rotate_left
  · (intro wx hSw; (try dsimp only at hSw); go_simp; try (with_reducible rfl))
  try simp only [Act.put, List.setIfInBounds_toArray, List.set_cons_zero, List.set_cons_succ]
  refine takeT (i := 2) (v := ?_) rfl (by kernel_rfl) (by kernel_rfl) (by decide) (by kernel_rfl) (by kernel_rfl) (fun _ _ _ h => h) (Or.inl ⟨by rfl, ?_⟩) trivial ?_
  rotate_left
  · (intro wx hSw; (try dsimp only at hSw); go_simp; try (with_reducible rfl))
  try simp only [Act.put, List.setIfInBounds_toArray, List.set_cons_zero, List.set_cons_succ]
  refine takeT (i := 3) (v := ?_) rfl (by kernel_rfl) (by kernel_rfl) (by decide) (by kernel_rfl) (by kernel_rfl) (fun _ _ _ h => h) (Or.inl ⟨by rfl, ?_⟩) trivial ?_
  rotate_left
  · (intro wx hSw; (try dsimp only at hSw); go_simp; try (with_reducible rfl))
  try simp only [Act.put, List.setIfInBounds_toArray, List.set_cons_zero, List.set_cons_succ]
  refine takeT (i := 5) (v := ?_) rfl (by kernel_rfl) (by kernel_rfl) (by decide) (by kernel_rfl) (by kernel_rfl) (fun _ _ _ h => h) (Or.inl ⟨by rfl, ?_⟩) trivial ?_
  rotate_left
  · (intro wx hSw; (try dsimp only at hSw); go_simp; try (with_reducible rfl))
  try simp only [Act.put, List.setIfInBounds_toArray, List.set_cons_zero, List.set_cons_succ]
  refine takeT (i := 6) (v := ?_) rfl (by kernel_rfl) (by kernel_rfl) (by decide) (by kernel_rfl) (by kernel_rfl) (fun _ _ _ h => h) (Or.inl ⟨by rfl, ?_⟩) trivial ?_
  rotate_left
  · (intro wx hSw; (try dsimp only at hSw); go_simp; try (with_reducible rfl))
  try simp only [Act.put, List.setIfInBounds_toArray, List.set_cons_zero, List.set_cons_succ]
  refine takeT (i := 7) (v := ?_) rfl (by kernel_rfl) (by kernel_rfl) (by decide) (by kernel_rfl) (by kernel_rfl) (fun _ _ _ h => h) (Or.inl ⟨by rfl, ?_⟩) trivial ?_
  rotate_left
  · (intro wx hSw; (try dsimp only at hSw); go_simp; try (with_reducible rfl))
  try simp only [Act.put, List.setIfInBounds_toArray, List.set_cons_zero, List.set_cons_succ]
  refine takeT (i := 8) (v := ?_) rfl (by kernel_rfl) (by kernel_rfl) (by decide) (by kernel_rfl) (by kernel_rfl) (fun _ _ _ h => h) (Or.inl ⟨by rfl, ?_⟩) trivial ?_
  rotate_left
  · (intro wx hSw; (try dsimp only at hSw); go_simp; try (with_reducible rfl))
  try simp only [Act.put, List.setIfInBounds_toArray, List.set_cons_zero, List.set_cons_succ]
  refine oneT (i := 0) rfl (by kernel_rfl) (fun K hK => ?_)
  go_simp
  have o0 := owB_empty V0 V0.heap.size (Nat.le_refl _)
  have ba := below_a1' (Below.refl V0.heap.size V0) (.cells #[] 47)
  replace r2 : RdB (V0.alloc (.cells #[] 47)) V0.heap.size _ _ _ _ := Rz.alloc r2 (Nat.le_refl _) _
  replace rX1 : RdB (V0.alloc (.cells #[] 47)) V0.heap.size _ _ _ _ := Rz.alloc rX1 (Nat.le_refl _) _
  replace rX2 : RdB (V0.alloc (.cells #[] 47)) V0.heap.size _ _ _ _ := Rz.alloc rX2 (Nat.le_refl _) _
  replace b := below_step b ba
  have hV0 := ba.size
  generalize hW : V0.alloc (.cells #[] 47) = V1 at o0 r2 rX1 rX2 b ba hV0 ⊢
  clear hW ba
  refine hK.out _ _ (fun _ => trivial) ?_
  clear hK K
  try simp only [Act.put, List.setIfInBounds_toArray, List.set_cons_zero, List.set_cons_succ]
  refine oneT (i := 4) rfl (by kernel_rfl) (fun K hK => ?_)
  refine step_appA V1 rfl _ _ rfl V0.heap.size _ 0 0 [] rfl o0 _ X1 k cx1 _ rfl rX1 (by omega) hV0 ?_
  intro A3 c3 V2 o3 b3
  clear o0 rX1
  replace r2 := Rz.below r2 b3
  replace rX2 := Rz.below rX2 b3
  replace b := b.trans (b3.mono hsz2)
  have hV2 : V0.heap.size ≤ V2.heap.size := Nat.le_trans hV0 b3.size
  refine hK.out _ _ (fun _ => trivial) ?_
  clear hK K b3
  try simp only [Act.put, List.setIfInBounds_toArray, List.set_cons_zero, List.set_cons_succ]
  refine oneT (i := 9) rfl (by kernel_rfl) (fun K hK => ?_)
  refine step_appA V2 rfl _ _ rfl V0.heap.size _ (0 + k) c3 _ rfl o3 _ X2 (m - (k + 1)) cx2 _ rfl rX2 (by omega) hV2 ?_
  intro A4 c4 V3 o4 b4
  clear o3 rX2
  replace r2 := Rz.below r2 b4
  replace b := b.trans (b4.mono hsz2)
  have hV3 : V0.heap.size ≤ V3.heap.size := Nat.le_trans hV2 b4.size
  refine hK.out _ _ (fun _ => trivial) ?_
  clear hK K b4 eS1 eS2
  try simp only [Act.put, List.setIfInBounds_toArray, List.set_cons_zero, List.set_cons_succ]
  replace o4 : OwB V3 V0.heap.size A4 (m - 1) c4 (leftB LL k) := by
    have := o4
    rw [show 0 + k + (m - (k + 1)) = m - 1 from by omega] at this
    exact this
  rw [show 0 + k + (m - (k + 1)) = m - 1 from by omega]
  refine oneT (i := 10) rfl (by kernel_rfl) (fun K hK => ?_)
  go_simp
  refine hK.out _ _ (fun _ => trivial) ?_
  clear hK K
  try simp only [Act.put, List.setIfInBounds_toArray, List.set_cons_zero, List.set_cons_succ]
  refine doneT (by kernel_rfl) ?_ _
  refine NoPanic.normal ?_
  have rr := r2
  go_upto_region 13 with (at_builtin; refine wpl_appA _ rfl _ _ rfl V3.heap.size (some ⟨V3.heap.size, 0, none⟩) 0 0 [] rfl (owB_empty V3 _ (Nat.le_refl _)) V0.heap.size A2 m c2 LL rfl (Rz.alloc r2 hV3 _) (by omega) (by simp) ?_)
  intro A5 c5 V4 o5 b5
  replace o5 : OwB V4 V3.heap.size A5 m c5 LL := by simpa using o5
  have bb : Below V3.heap.size V3 V4 := ((Below.refl V3.heap.size V3).alloc (Nat.le_refl _) _).trans b5
  clear b5 rr
  replace r2 := Rz.below r2 (bb.mono hV3)
  have hat3 := Oz.at' o4
  replace o4 : OwB V4 V0.heap.size _ _ _ _ := Oz.below o4 bb
  replace b := b.trans (bb.mono (Nat.le_trans hsz2 hV3))
  have hV4 : V3.heap.size ≤ V4.heap.size := bb.size
  clear bb
  obtain ⟨gt, rfl, hgt1, hgt2⟩ := Oz.form o5 (by omega)
  have hat4 : ∀ q, (Value.slice A4 (m - 1) c4).ownBlock = some q → q ≠ gt := fun q hq => by have := hat3 q hq; omega
  clear hat3
  go_upto_region 13 with fail
  go_cut [] (fun wx => MissR w V0 V3 LL x y A2 A4 m c2 c4 c5 gt k wx)
  case first =>
    refine wp_region_noPanic ?_
    refine region_T (fun _ => True) 18 (by kernel_rfl) ?_
    replace r2 : RdB V4.drew V0.heap.size A2 m c2 LL := r2
    replace o4 : OwB V4.drew V0.heap.size _ _ _ _ := o4
    replace o5 : OwB V4.drew V3.heap.size _ _ _ _ := o5
    replace b : Below w.heap.size w V4.drew := b.drew
    replace hV4 : V3.heap.size ≤ V4.drew.heap.size := hV4
    replace hgt2 : gt < V4.drew.heap.size := hgt2
    generalize V4.drew = V5 at r2 o4 o5 b hV4 hgt2 ⊢
    have j1 : (0 : Int) ≤ (k : Int) + 1 := by omega
    have j2 : (k : Int) + 1 < (m : Int) := by omega
    have j3 : (k : Int) < (m : Int) := by omega
    refine takeT (i := 0) (v := ?_) rfl (by kernel_rfl) (by kernel_rfl) (by decide) (by kernel_rfl) (by kernel_rfl) (fun _ _ _ h => h) (Or.inl ⟨by rfl, ?_⟩) trivial ?_
    rotate_left
    · (intro wx hSw; (try dsimp only at hSw); go_simp; try (with_reducible rfl))
    try simp only [Act.put, List.setIfInBounds_toArray, List.set_cons_zero, List.set_cons_succ]
    refine takeT (i := 1) (v := ?_) rfl (by kernel_rfl) (by kernel_rfl) (by decide) (by kernel_rfl) (by kernel_rfl) (fun _ _ _ h => h) (Or.inl ⟨by rfl, ?_⟩) trivial ?_
    rotate_left
    · (intro wx hSw; (try dsimp only at hSw); go_simp; try (with_reducible rfl))
    try simp only [Act.put, List.setIfInBounds_toArray, List.set_cons_zero, List.set_cons_succ]
    refine takeT (i := 2) (v := ?_) rfl (by kernel_rfl) (by kernel_rfl) (by decide) (by kernel_rfl) (by kernel_rfl) (fun _ _ _ h => h) (Or.inl ⟨by rfl, ?_⟩) trivial ?_
    rotate_left
    · (intro wx hSw; (try dsimp only at hSw); go_simp; try (with_reducible rfl))
    try simp only [Act.put, List.setIfInBounds_toArray, List.set_cons_zero, List.set_cons_succ]
    refine takeT (i := 3) (v := ?_) rfl (by kernel_rfl) (by kernel_rfl) (by decide) (by kernel_rfl) (by kernel_rfl) (fun _ _ _ h => h) (Or.inl ⟨by rfl, ?_⟩) trivial ?_
    rotate_left
    · (intro wx hSw; (try dsimp only at hSw); go_simp; try (with_reducible rfl))
    try simp only [Act.put, List.setIfInBounds_toArray, List.set_cons_zero, List.set_cons_succ]
    refine takeT (i := 4) (v := ?_) rfl (by kernel_rfl) (by kernel_rfl) (by decide) (by kernel_rfl) (by kernel_rfl) (fun _ _ _ h => h) (Or.inl ⟨by rfl, ?_⟩) trivial ?_
    rotate_left
    · (intro wx hSw; (try dsimp only at hSw); go_simp; try (with_reducible rfl))
    try simp only [Act.put, List.setIfInBounds_toArray, List.set_cons_zero, List.set_cons_succ]
    refine takeT (i := 5) (v := ?_) rfl (by kernel_rfl) (by kernel_rfl) (by decide) (by kernel_rfl) (by kernel_rfl) (fun _ _ _ h => h) (Or.inl ⟨by rfl, ?_⟩) trivial ?_
    rotate_left
    · (intro wx hSw; (try dsimp only at hSw); go_simp; try (with_reducible rfl))
    try simp only [Act.put, List.setIfInBounds_toArray, List.set_cons_zero, List.set_cons_succ]
    refine takeT (i := 6) (v := ?_) rfl (by kernel_rfl) (by kernel_rfl) (by decide) (by kernel_rfl) (by kernel_rfl) (fun _ _ _ h => h) (Or.inl ⟨by rfl, ?_⟩) trivial ?_
    rotate_left
    · (intro wx hSw; (try dsimp only at hSw); go_simp; try (with_reducible rfl))
    try simp only [Act.put, List.setIfInBounds_toArray, List.set_cons_zero, List.set_cons_succ]
    refine takeT (i := 7) (v := ?_) rfl (by kernel_rfl) (by kernel_rfl) (by decide) (by kernel_rfl) (by kernel_rfl) (fun _ _ _ h => h) (Or.inl ⟨by rfl, ?_⟩) trivial ?_
    rotate_left
    · (intro wx hSw; (try dsimp only at hSw); go_simp; try (with_reducible rfl))
    try simp only [Act.put, List.setIfInBounds_toArray, List.set_cons_zero, List.set_cons_succ]
    refine takeT (i := 8) (v := ?_) rfl (by kernel_rfl) (by kernel_rfl) (by decide) (by kernel_rfl) (by kernel_rfl) (fun _ _ _ h => h) (Or.inl ⟨by rfl, ?_⟩) trivial ?_
    rotate_left
    · (intro wx hSw; (try dsimp only at hSw); go_simp; try (with_reducible rfl))
    try simp only [Act.put, List.setIfInBounds_toArray, List.set_cons_zero, List.set_cons_succ]
    refine takeT (i := 10) (v := ?_) rfl (by kernel_rfl) (by kernel_rfl) (by decide) (by kernel_rfl) (by kernel_rfl) (fun _ _ _ h => h) (Or.inl ⟨by rfl, ?_⟩) trivial ?_
    rotate_left
    · (intro wx hSw; (try dsimp only at hSw); go_simp; try (with_reducible rfl))
    try simp only [Act.put, List.setIfInBounds_toArray, List.set_cons_zero, List.set_cons_succ]
    refine takeT (i := 11) (v := ?_) rfl (by kernel_rfl) (by kernel_rfl) (by decide) (by kernel_rfl) (by kernel_rfl) (fun _ _ _ h => h) (Or.inl ⟨by rfl, ?_⟩) trivial ?_
    rotate_left
    · (intro wx hSw; (try dsimp only at hSw); go_simp; try (with_reducible rfl))
    try simp only [Act.put, List.setIfInBounds_toArray, List.set_cons_zero, List.set_cons_succ]
    refine takeT (i := 12) (v := ?_) rfl (by kernel_rfl) (by kernel_rfl) (by decide) (by kernel_rfl) (by kernel_rfl) (fun _ _ _ h => h) (Or.inl ⟨by rfl, ?_⟩) trivial ?_
    rotate_left
    · (intro wx hSw; (try dsimp only at hSw); go_simp; try (with_reducible rfl))
    try simp only [Act.put, List.setIfInBounds_toArray, List.set_cons_zero, List.set_cons_succ]
    refine twoT (i := 9) (j := 13) rfl rfl (by kernel_rfl) (fun K hK => ?_) (fun K hK => ?_)
    · refine step_ldS _ rfl _ rfl o5 H64.out (k := k + 1) (by omega) HY.out rfl ?_
      refine hK.out _ _ (fun _ => trivial) ?_
      clear hK K
      try simp only [Act.put, List.setIfInBounds_toArray, List.set_cons_zero, List.set_cons_succ]
      refine oneT (i := 13) rfl (by kernel_rfl) (fun K hK => ?_)
      refine step_ldS _ rfl _ rfl o5 H64.out (k := k) (by omega) HX.out rfl ?_
      refine hK.out _ _ (fun _ => trivial) ?_
      clear hK K
      try simp only [Act.put, List.setIfInBounds_toArray, List.set_cons_zero, List.set_cons_succ]
      refine takeT (i := 14) (v := ?_) rfl (by kernel_rfl) (by kernel_rfl) (by decide) (by kernel_rfl) (by kernel_rfl) (fun _ _ _ h => h) (Or.inl ⟨by rfl, ?_⟩) trivial ?_
      rotate_left
      · (intro wx hSw; (try dsimp only at hSw); go_simp; try (with_reducible rfl))
      try simp only [Act.put, List.setIfInBounds_toArray, List.set_cons_zero, List.set_cons_succ]
      refine oneT (i := 15) rfl (by kernel_rfl) (fun K hK => ?_)
      refine step_putS _ rfl _ _ rfl o5 H64.out (k := k) (by omega) y HY64.out rfl rfl ?_
      intro V6 o6 g6
      refine hK.out _ _ (fun _ => trivial) ?_
      clear hK K
      try simp only [Act.put, List.setIfInBounds_toArray, List.set_cons_zero, List.set_cons_succ]
      refine takeT (i := 16) (v := ?_) rfl (by kernel_rfl) (by kernel_rfl) (by decide) (by kernel_rfl) (by kernel_rfl) (fun _ _ _ h => h) (Or.inl ⟨by rfl, ?_⟩) trivial ?_
      rotate_left
      · (intro wx hSw; (try dsimp only at hSw); go_simp; try (with_reducible rfl))
      try simp only [Act.put, List.setIfInBounds_toArray, List.set_cons_zero, List.set_cons_succ]
      refine oneT (i := 17) rfl (by kernel_rfl) (fun K hK => ?_)
      refine step_putS _ rfl _ _ rfl o6 (set_64 H64.out HY64.out) (k := k + 1) (by omega) x HX64.out rfl rfl ?_
      intro V7 o7 g7
      refine hK.out _ _ (fun _ => trivial) ?_
      clear hK K
      try simp only [Act.put, List.setIfInBounds_toArray, List.set_cons_zero, List.set_cons_succ]
      refine doneT (by kernel_rfl) ?_ _
      refine NoPanic.normal ?_
      go_wp2_with fail
      go_meet
      exact missR_mk r2 o4 hat4 b hsz2 hV3 hV4 hgt1 hgt2 (grown_trans g6 g7) o7
    · refine step_ldS _ rfl _ rfl o5 H64.out (k := k) (by omega) HX.out rfl ?_
      refine hK.out _ _ (fun _ => trivial) ?_
      clear hK K
      try simp only [Act.put, List.setIfInBounds_toArray, List.set_cons_zero, List.set_cons_succ]
      refine oneT (i := 9) rfl (by kernel_rfl) (fun K hK => ?_)
      refine step_ldS _ rfl _ rfl o5 H64.out (k := k + 1) (by omega) HY.out rfl ?_
      refine hK.out _ _ (fun _ => trivial) ?_
      clear hK K
      try simp only [Act.put, List.setIfInBounds_toArray, List.set_cons_zero, List.set_cons_succ]
      refine takeT (i := 14) (v := ?_) rfl (by kernel_rfl) (by kernel_rfl) (by decide) (by kernel_rfl) (by kernel_rfl) (fun _ _ _ h => h) (Or.inl ⟨by rfl, ?_⟩) trivial ?_
      rotate_left
      · (intro wx hSw; (try dsimp only at hSw); go_simp; try (with_reducible rfl))
      try simp only [Act.put, List.setIfInBounds_toArray, List.set_cons_zero, List.set_cons_succ]
      refine oneT (i := 15) rfl (by kernel_rfl) (fun K hK => ?_)
      refine step_putS _ rfl _ _ rfl o5 H64.out (k := k) (by omega) y HY64.out rfl rfl ?_
      intro V6 o6 g6
      refine hK.out _ _ (fun _ => trivial) ?_
      clear hK K
      try simp only [Act.put, List.setIfInBounds_toArray, List.set_cons_zero, List.set_cons_succ]
      refine takeT (i := 16) (v := ?_) rfl (by kernel_rfl) (by kernel_rfl) (by decide) (by kernel_rfl) (by kernel_rfl) (fun _ _ _ h => h) (Or.inl ⟨by rfl, ?_⟩) trivial ?_
      rotate_left
      · (intro wx hSw; (try dsimp only at hSw); go_simp; try (with_reducible rfl))
      try simp only [Act.put, List.setIfInBounds_toArray, List.set_cons_zero, List.set_cons_succ]
      refine oneT (i := 17) rfl (by kernel_rfl) (fun K hK => ?_)
      refine step_putS _ rfl _ _ rfl o6 (set_64 H64.out HY64.out) (k := k + 1) (by omega) x HX64.out rfl rfl ?_
      intro V7 o7 g7
      refine hK.out _ _ (fun _ => trivial) ?_
      clear hK K
      try simp only [Act.put, List.setIfInBounds_toArray, List.set_cons_zero, List.set_cons_succ]
      refine doneT (by kernel_rfl) ?_ _
      refine NoPanic.normal ?_
      go_wp2_with fail
      go_meet
      exact missR_mk r2 o4 hat4 b hsz2 hV3 hV4 hgt1 hgt2 (grown_trans g6 g7) o7
  case rest =>
    obtain ⟨r2, o4, o5, b, hV⟩ := hcut
    clear hV4 hgt2 hat4
    have hat4 := Oz.at' o4
    have hat5 := Oz.at' o5
    go_upto_region 15 with (at_builtin; refine wpl_appA _ rfl _ _ rfl wc.heap.size (some ⟨wc.heap.size, 0, none⟩) 0 0 [] rfl (owB_empty wc _ (Nat.le_refl _)) V0.heap.size A2 m c2 LL rfl (Rz.alloc r2 (Nat.le_trans hV3 hV) _) (by omega) (by simp) ?_)
    intro A6 c6 V8 o6 b6
    replace o6 : OwB V8 wc.heap.size A6 m c6 LL := by simpa using o6
    have bb : Below wc.heap.size wc V8 := ((Below.refl wc.heap.size wc).alloc (Nat.le_refl _) _).trans b6
    clear b6 r2
    replace o4 : OwB V8 V0.heap.size _ _ _ _ := Oz.below o4 bb
    replace o5 : OwB V8 V3.heap.size _ _ _ _ := Oz.below o5 bb
    replace b := below_step b bb
    have hV8 := bb.size
    clear bb
    obtain ⟨go, rfl, hgo1, hgo2⟩ := Oz.form o6 (by omega)
    have hld := own_ld o6 H64.out (by omega) HX.out
    go_wp2_with (refine wpl_loadS rfl _ rfl ⟨go, k * 64, none⟩ rfl x HX64.out hld ?_)
    refine (HREAD.out _).mono ?_
    rintro e V9 ⟨P, cP, rfl, oP, b9⟩
    replace o4 : OwB V9 V0.heap.size _ _ _ _ := Oz.below o4 b9
    replace o5 : OwB V9 V3.heap.size _ _ _ _ := Oz.below o5 b9
    replace o6 : OwB V9 wc.heap.size _ _ _ _ := Oz.below o6 b9
    replace b := below_step b b9
    have hV9 := b9.size
    clear b9 hld
    have ba := below_a1' (Below.refl V9.heap.size V9) (.cells #[.int .u64 (g : Nat), .int .u32 (7 + (k : Int)), .int .i64 (f : Nat)] 49)
    replace o4 : OwB (V9.alloc (.cells #[.int .u64 (g : Nat), .int .u32 (7 + (k : Int)), .int .i64 (f : Nat)] 49)) V0.heap.size _ _ _ _ := Oz.below o4 ba
    replace o5 : OwB (V9.alloc (.cells #[.int .u64 (g : Nat), .int .u32 (7 + (k : Int)), .int .i64 (f : Nat)] 49)) V3.heap.size _ _ _ _ := Oz.below o5 ba
    replace o6 : OwB (V9.alloc (.cells #[.int .u64 (g : Nat), .int .u32 (7 + (k : Int)), .int .i64 (f : Nat)] 49)) wc.heap.size _ _ _ _ := Oz.below o6 ba
    replace b := below_step b ba
    have rP := (oP.below ba).rd
    have hVa := ba.size
    clear ba oP
    go_upto_region 16 with fail
    generalize V9.alloc (.cells #[.int .u64 (g : Nat), .int .u32 (7 + (k : Int)), .int .i64 (f : Nat)] 49) = Va at o4 o5 o6 b rP hVa ⊢
    go_wp2_with fail
    refine (HPACK.out P cP Va rP).mono ?_
    rintro e Vb ⟨rfl, bb⟩
    replace o4 : OwB Vb V0.heap.size _ _ _ _ := Oz.below o4 bb
    replace o5 : OwB Vb V3.heap.size _ _ _ _ := Oz.below o5 bb
    replace o6 : OwB Vb wc.heap.size _ _ _ _ := Oz.below o6 bb
    replace b := below_step b bb
    have hVb := bb.size
    clear bb rP
    go_upto_region 17 with (refine wpl_putS _ rfl _ _ rfl o6 H64.out (k := k) (by omega) z HZ64.out rfl rfl ?_)
    intro Vc o6' gc
    replace o4 : OwB Vc V0.heap.size _ _ _ _ := Oz.grown o4 gc (fun q hq => by have := hat4 q hq; omega)
    replace o5 : OwB Vc V3.heap.size _ _ _ _ := Oz.grown o5 gc (fun q hq => by have := hat5 q hq; omega)
    replace b := b.trans (below_grown gc (by omega) (by omega))
    clear gc o6 hat4 hat5
    have hj := HTURN.out _ _ Vc o5.rdB
    go_wp2_with fail
    refine hj.mono ?_
    rintro e Vd ⟨rfl, bd⟩
    clear hj o5
    replace o4 : OwB Vd V0.heap.size _ _ _ _ := Oz.below o4 bd
    replace o6' : OwB Vd wc.heap.size _ _ _ _ := Oz.below o6' bd
    replace b := below_step b bd
    clear bd
    have hj := HOTHER.out _ _ Vd o6'.rdB
    go_wp2_with fail
    refine hj.mono ?_
    rintro e Ve ⟨rfl, bd⟩
    clear hj o6'
    replace o4 : OwB Ve V0.heap.size _ _ _ _ := Oz.below o4 bd
    replace b := below_step b bd
    clear bd
    have hj := HLEFT.out _ _ Ve o4.rdB
    go_wp2_with fail
    refine hj.mono ?_
    rintro e Vf ⟨A9, c9, rfl, o9, b9⟩
    clear hj o4
    replace b := below_step b b9
    clear b9
    have rr := r.step b
    obtain ⟨X, cx, eS, rS⟩ := slc_l rr 48 48 rfl hn48
    have rX := rS _ _ rr
    clear rS
    have hE := equal_any A9 X (n - 48) c9 (n - 48) cx _ _ _ Vf o9.rd rX
    go_wp2_with fail
    refine hE.mono ?_
    rintro e Vg ⟨rfl, hq2⟩
    have b4 := quiet_self hq2
    replace b := below_step b b4
    clear hq2 b4 hE rX rr eS o9
    rw [show eqB (l.drop 48) (l.drop 48) = true from decide_eq_true rfl]
    go_wp2_with fail
    go_ret
    exact ⟨rfl, b⟩
set_option maxRecDepth 100000 in
set_option maxHeartbeats 4000000 in
theorem miss_p (g k f : Nat) (hg : g ≠ 0) (hg2 : g < 18446744073709551615) (A : Option Addr) (n c m : Nat) (l pl : List UInt8) (a0 : Int) (hn : n ≤ 16384) (w : World) (r : Rd w w.heap.size A n c l) (hk : m ≤ 1000) (hm2 : 2 ≤ m) (hkm : k + 1 < m) (hk0 : k ≠ 0) (hkk : ∀ q : Nat, (if a0 < 0 then 0 else a0) = (q : Int) → (q : Int) % ((m : Int) - 1) = (k : Int))
    (LL : List (List UInt8)) (x y z : List UInt8) (H64 : Hid (∀ x ∈ LL, x.length = 64)) (HLL : Hid (LL.length = m)) (HX : Hid (LL[k]? = some x)) (HY : Hid (LL[k + 1]? = some y)) (HX64 : Hid (x.length = 64)) (HY64 : Hid (y.length = 64)) (HZ64 : Hid (z.length = 64))
    (HS : Hid (∀ W, Rd W W.heap.size A n c l → Calls Try.prog 15 #[.int .u64 g, .int .u32 7, .slice A n c] W fun e w' => ∃ A' c', e = .returned (.tuple #[.slice A' m c', .int .i64 0]) ∧ OwB w' W.heap.size A' m c' LL ∧ Below W.heap.size W w'))
    (HREAD : Hid (∀ W, Calls Try.prog 20 #[.agg (ar x)] W fun e w' => ∃ P cP, e = .returned (.tuple #[.agg #[.int .u64 (g : Nat), .int .u32 (7 + (k : Int)), .int .i64 (f : Nat)], .slice P f cP, .int .i64 0]) ∧ Own w' W.heap.size P f cP pl ∧ Below W.heap.size W w'))
    (HPACK : Hid (∀ A c W, Rd W W.heap.size A f c pl → Calls Try.prog 21 #[.int .u64 ((g : Int) + 1), .int .u32 (7 + (k : Int)), .slice A f c] W fun e w' => e = .returned (.tuple #[.agg (ar z), .int .i64 0]) ∧ Below W.heap.size W w'))
    (HTURN : Hid (∀ A c W, RdB W W.heap.size A m c (turnB LL k x y) → Calls Try.prog 12 #[.slice A m c] W fun e w' => e = .returned (.tuple #[.slice none 0 0, .int .i64 150]) ∧ Below W.heap.size W w'))
    (HOTHER : Hid (∀ A c W, RdB W W.heap.size A m c (LL.set k z) → Calls Try.prog 12 #[.slice A m c] W fun e w' => e = .returned (.tuple #[.slice none 0 0, .int .i64 150]) ∧ Below W.heap.size W w'))
    (HLEFT : Hid (∀ A c W, RdB W W.heap.size A (m - 1) c (leftB LL k) → Calls Try.prog 12 #[.slice A (m - 1) c] W fun e w' => e = .returned (.tuple #[.slice none 0 0, .int .i64 150]) ∧ Below W.heap.size W w')) : Calls Try.prog 7 #[.int .u64 g, .slice A n c, .int .i64 a0] w (LawM5 w) := by
  have i1 : ((16384 : Int) < (n : Int)) = False := by simp; omega
  have b := Below.refl w.heap.size w
  have hl := r.len
  have t0 : ((g : Int) == 0) = false := by rw [beq_eq_false_iff_ne]; omega
  have t1 : ((g : Int) == 18446744073709551615) = false := by rw [beq_eq_false_iff_ne]; omega
  have im : ((m : Int) < 2) = False := by simp; omega
  have eg1 : IntKind.u64.wrap ((g : Int) + 1) = (g : Int) + 1 := IntWalk.u64_in _ (by omega)
  have ek1 : IntKind.u32.wrap (k : Int) = (k : Int) := IntWalk.u32_in _ (by omega)
  have ek7 : IntKind.u32.wrap (7 + (k : Int)) = 7 + (k : Int) := IntWalk.u32_in _ (by omega)
  have ek0 : ((k : Int) == 0) = false := by first | (rw [beq_iff_eq]; omega) | (rw [beq_eq_false_iff_ne]; omega)
  have hw1 : IntKind.i64.wrap ((k : Int) + 1) = (k : Int) + 1 := IntWalk.i64_in _ (by omega)
  obtain ⟨q, hq⟩ : ∃ q : Nat, (if a0 < 0 then 0 else a0) = (q : Int) := by
    split
    · exact ⟨0, rfl⟩
    · exact ⟨a0.toNat, by omega⟩
  have hkq := hkk q hq
  have HL := Lib.hid hl
  clear hkk hk0 hg hg2 hl
  go_enter Try.func7, Try.ntmps7
  go_wp2_with fail
  refine (wakes05 _).mono ?_
  rintro e w1 ⟨rfl, b1⟩
  replace b := below_step b b1
  clear b1
  have HSx := HS.out w1 (r.step b)
  go_wp2_with fail
  refine HSx.mono ?_
  rintro e w2 ⟨A2, c2, rfl, o2, b2⟩
  replace b := below_step b b2
  clear HSx b2
  have r2 : RdB w2 w2.heap.size A2 m c2 LL := o2.rdB
  clear o2
  go_upto_region 11 with fail
  refine wp_region_noPanic ?_
  refine region_T (fun _ => True) 11 (by kernel_rfl) ?_
  replace r2 : RdB w2.drew w2.heap.size A2 m c2 LL := r2
  replace b : Below w.heap.size w w2.drew := b.drew
  have hsz2 : w.heap.size ≤ w2.drew.heap.size := b.size
  obtain ⟨X1, cx1, eS1, rS1⟩ := slb_h r2 H64.out k (by omega)
  obtain ⟨X2, cx2, eS2, rS2⟩ := slb_l r2 H64.out (k + 1) ((k : Int) + 1) (by omega) (by omega)
  have rX1 := rS1 _ _ r2
  have rX2 := rS2 _ _ r2
  clear rS1 rS2
  rw [show w2.heap.size = w2.drew.heap.size from rfl] at r2 rX1 rX2
  generalize w2.drew = V0 at r2 b hsz2 rX1 rX2 ⊢
  refine takeT (i := 1) (v := ?_) rfl (by kernel_rfl) (by kernel_rfl) (by decide) (by kernel_rfl) (by kernel_rfl) (fun _ _ _ h => h) (Or.inl ⟨by rfl, ?_⟩) trivial ?_
  rotate_left
  · (intro wx hSw; (try dsimp only at hSw); go_simp; try (with_reducible rfl))
  try simp only [Act.put, List.setIfInBounds_toArray, List.set_cons_zero, List.set_cons_succ]
  refine takeT (i := 2) (v := ?_) rfl (by kernel_rfl) (by kernel_rfl) (by decide) (by kernel_rfl) (by kernel_rfl) (fun _ _ _ h => h) (Or.inl ⟨by rfl, ?_⟩) trivial ?_
  rotate_left
  · (intro wx hSw; (try dsimp only at hSw); go_simp; try (with_reducible rfl))
  try simp only [Act.put, List.setIfInBounds_toArray, List.set_cons_zero, List.set_cons_succ]
  refine takeT (i := 3) (v := ?_) rfl (by kernel_rfl) (by kernel_rfl) (by decide) (by kernel_rfl) (by kernel_rfl) (fun _ _ _ h => h) (Or.inl ⟨by rfl, ?_⟩) trivial ?_
  rotate_left
  · (intro wx hSw; (try dsimp only at hSw); go_simp; try (with_reducible rfl))
  try simp only [Act.put, List.setIfInBounds_toArray, List.set_cons_zero, List.set_cons_succ]
  refine takeT (i := 5) (v := ?_) rfl (by kernel_rfl) (by kernel_rfl) (by decide) (by kernel_rfl) (by kernel_rfl) (fun _ _ _ h => h) (Or.inl ⟨by rfl, ?_⟩) trivial ?_
  rotate_left
  · (intro wx hSw; (try dsimp only at hSw); go_simp; try (with_reducible rfl))
  try simp only [Act.put, List.setIfInBounds_toArray, List.set_cons_zero, List.set_cons_succ]
  refine takeT (i := 6) (v := ?_) rfl (by kernel_rfl) (by kernel_rfl) (by decide) (by kernel_rfl) (by kernel_rfl) (fun _ _ _ h => h) (Or.inl ⟨by rfl, ?_⟩) trivial ?_
  rotate_left
  · (intro wx hSw; (try dsimp only at hSw); go_simp; try (with_reducible rfl))
  try simp only [Act.put, List.setIfInBounds_toArray, List.set_cons_zero, List.set_cons_succ]
  refine takeT (i := 7) (v := ?_) rfl (by kernel_rfl) (by kernel_rfl) (by decide) (by kernel_rfl) (by kernel_rfl) (fun _ _ _ h => h) (Or.inl ⟨by rfl, ?_⟩) trivial ?_
  rotate_left
  · (intro wx hSw; (try dsimp only at hSw); go_simp; try (with_reducible rfl))
  try simp only [Act.put, List.setIfInBounds_toArray, List.set_cons_zero, List.set_cons_succ]
  refine takeT (i := 8) (v := ?_) rfl (by kernel_rfl) (by kernel_rfl) (by decide) (by kernel_rfl) (by kernel_rfl) (fun _ _ _ h => h) (Or.inl ⟨by rfl, ?_⟩) trivial ?_
  rotate_left
  · (intro wx hSw; (try dsimp only at hSw); go_simp; try (with_reducible rfl))
  try simp only [Act.put, List.setIfInBounds_toArray, List.set_cons_zero, List.set_cons_succ]
  refine oneT (i := 0) rfl (by kernel_rfl) (fun K hK => ?_)
  go_simp
  have o0 := owB_empty V0 V0.heap.size (Nat.le_refl _)
  have ba := below_a1' (Below.refl V0.heap.size V0) (.cells #[] 47)
  replace r2 : RdB (V0.alloc (.cells #[] 47)) V0.heap.size _ _ _ _ := Rz.alloc r2 (Nat.le_refl _) _
  replace rX1 : RdB (V0.alloc (.cells #[] 47)) V0.heap.size _ _ _ _ := Rz.alloc rX1 (Nat.le_refl _) _
  replace rX2 : RdB (V0.alloc (.cells #[] 47)) V0.heap.size _ _ _ _ := Rz.alloc rX2 (Nat.le_refl _) _
  replace b := below_step b ba
  have hV0 := ba.size
  generalize hW : V0.alloc (.cells #[] 47) = V1 at o0 r2 rX1 rX2 b ba hV0 ⊢
  clear hW ba
  refine hK.out _ _ (fun _ => trivial) ?_
  clear hK K
  try simp only [Act.put, List.setIfInBounds_toArray, List.set_cons_zero, List.set_cons_succ]
  refine oneT (i := 4) rfl (by kernel_rfl) (fun K hK => ?_)
  refine step_appA V1 rfl _ _ rfl V0.heap.size _ 0 0 [] rfl o0 _ X1 k cx1 _ rfl rX1 (by omega) hV0 ?_
  intro A3 c3 V2 o3 b3
  clear o0 rX1
  replace r2 := Rz.below r2 b3
  replace rX2 := Rz.below rX2 b3
  replace b := b.trans (b3.mono hsz2)
  have hV2 : V0.heap.size ≤ V2.heap.size := Nat.le_trans hV0 b3.size
  refine hK.out _ _ (fun _ => trivial) ?_
  clear hK K b3
  try simp only [Act.put, List.setIfInBounds_toArray, List.set_cons_zero, List.set_cons_succ]
  refine oneT (i := 9) rfl (by kernel_rfl) (fun K hK => ?_)
  refine step_appA V2 rfl _ _ rfl V0.heap.size _ (0 + k) c3 _ rfl o3 _ X2 (m - (k + 1)) cx2 _ rfl rX2 (by omega) hV2 ?_
  intro A4 c4 V3 o4 b4
  clear o3 rX2
  replace r2 := Rz.below r2 b4
  replace b := b.trans (b4.mono hsz2)
  have hV3 : V0.heap.size ≤ V3.heap.size := Nat.le_trans hV2 b4.size
  refine hK.out _ _ (fun _ => trivial) ?_
  clear hK K b4 eS1 eS2
  try simp only [Act.put, List.setIfInBounds_toArray, List.set_cons_zero, List.set_cons_succ]
  replace o4 : OwB V3 V0.heap.size A4 (m - 1) c4 (leftB LL k) := by
    have := o4
    rw [show 0 + k + (m - (k + 1)) = m - 1 from by omega] at this
    exact this
  rw [show 0 + k + (m - (k + 1)) = m - 1 from by omega]
  refine oneT (i := 10) rfl (by kernel_rfl) (fun K hK => ?_)
  go_simp
  refine hK.out _ _ (fun _ => trivial) ?_
  clear hK K
  try simp only [Act.put, List.setIfInBounds_toArray, List.set_cons_zero, List.set_cons_succ]
  refine doneT (by kernel_rfl) ?_ _
  refine NoPanic.normal ?_
  have rr := r2
  go_upto_region 13 with (at_builtin; refine wpl_appA _ rfl _ _ rfl V3.heap.size (some ⟨V3.heap.size, 0, none⟩) 0 0 [] rfl (owB_empty V3 _ (Nat.le_refl _)) V0.heap.size A2 m c2 LL rfl (Rz.alloc r2 hV3 _) (by omega) (by simp) ?_)
  intro A5 c5 V4 o5 b5
  replace o5 : OwB V4 V3.heap.size A5 m c5 LL := by simpa using o5
  have bb : Below V3.heap.size V3 V4 := ((Below.refl V3.heap.size V3).alloc (Nat.le_refl _) _).trans b5
  clear b5 rr
  replace r2 := Rz.below r2 (bb.mono hV3)
  have hat3 := Oz.at' o4
  replace o4 : OwB V4 V0.heap.size _ _ _ _ := Oz.below o4 bb
  replace b := b.trans (bb.mono (Nat.le_trans hsz2 hV3))
  have hV4 : V3.heap.size ≤ V4.heap.size := bb.size
  clear bb
  obtain ⟨gt, rfl, hgt1, hgt2⟩ := Oz.form o5 (by omega)
  have hat4 : ∀ q, (Value.slice A4 (m - 1) c4).ownBlock = some q → q ≠ gt := fun q hq => by have := hat3 q hq; omega
  clear hat3
  go_upto_region 13 with fail
  go_cut [] (fun wx => MissR w V0 V3 LL x y A2 A4 m c2 c4 c5 gt k wx)
  case first =>
    refine wp_region_noPanic ?_
    refine region_T (fun _ => True) 18 (by kernel_rfl) ?_
    replace r2 : RdB V4.drew V0.heap.size A2 m c2 LL := r2
    replace o4 : OwB V4.drew V0.heap.size _ _ _ _ := o4
    replace o5 : OwB V4.drew V3.heap.size _ _ _ _ := o5
    replace b : Below w.heap.size w V4.drew := b.drew
    replace hV4 : V3.heap.size ≤ V4.drew.heap.size := hV4
    replace hgt2 : gt < V4.drew.heap.size := hgt2
    generalize V4.drew = V5 at r2 o4 o5 b hV4 hgt2 ⊢
    have j1 : (0 : Int) ≤ (k : Int) + 1 := by omega
    have j2 : (k : Int) + 1 < (m : Int) := by omega
    have j3 : (k : Int) < (m : Int) := by omega
    refine takeT (i := 0) (v := ?_) rfl (by kernel_rfl) (by kernel_rfl) (by decide) (by kernel_rfl) (by kernel_rfl) (fun _ _ _ h => h) (Or.inl ⟨by rfl, ?_⟩) trivial ?_
    rotate_left
    · (intro wx hSw; (try dsimp only at hSw); go_simp; try (with_reducible rfl))
    try simp only [Act.put, List.setIfInBounds_toArray, List.set_cons_zero, List.set_cons_succ]
    refine takeT (i := 1) (v := ?_) rfl (by kernel_rfl) (by kernel_rfl) (by decide) (by kernel_rfl) (by kernel_rfl) (fun _ _ _ h => h) (Or.inl ⟨by rfl, ?_⟩) trivial ?_
    rotate_left
    · (intro wx hSw; (try dsimp only at hSw); go_simp; try (with_reducible rfl))
    try simp only [Act.put, List.setIfInBounds_toArray, List.set_cons_zero, List.set_cons_succ]
    refine takeT (i := 2) (v := ?_) rfl (by kernel_rfl) (by kernel_rfl) (by decide) (by kernel_rfl) (by kernel_rfl) (fun _ _ _ h => h) (Or.inl ⟨by rfl, ?_⟩) trivial ?_
    rotate_left
    · (intro wx hSw; (try dsimp only at hSw); go_simp; try (with_reducible rfl))
    try simp only [Act.put, List.setIfInBounds_toArray, List.set_cons_zero, List.set_cons_succ]
    refine takeT (i := 3) (v := ?_) rfl (by kernel_rfl) (by kernel_rfl) (by decide) (by kernel_rfl) (by kernel_rfl) (fun _ _ _ h => h) (Or.inl ⟨by rfl, ?_⟩) trivial ?_
    rotate_left
    · (intro wx hSw; (try dsimp only at hSw); go_simp; try (with_reducible rfl))
    try simp only [Act.put, List.setIfInBounds_toArray, List.set_cons_zero, List.set_cons_succ]
    refine takeT (i := 4) (v := ?_) rfl (by kernel_rfl) (by kernel_rfl) (by decide) (by kernel_rfl) (by kernel_rfl) (fun _ _ _ h => h) (Or.inl ⟨by rfl, ?_⟩) trivial ?_
    rotate_left
    · (intro wx hSw; (try dsimp only at hSw); go_simp; try (with_reducible rfl))
    try simp only [Act.put, List.setIfInBounds_toArray, List.set_cons_zero, List.set_cons_succ]
    refine takeT (i := 5) (v := ?_) rfl (by kernel_rfl) (by kernel_rfl) (by decide) (by kernel_rfl) (by kernel_rfl) (fun _ _ _ h => h) (Or.inl ⟨by rfl, ?_⟩) trivial ?_
    rotate_left
    · (intro wx hSw; (try dsimp only at hSw); go_simp; try (with_reducible rfl))
    try simp only [Act.put, List.setIfInBounds_toArray, List.set_cons_zero, List.set_cons_succ]
    refine takeT (i := 6) (v := ?_) rfl (by kernel_rfl) (by kernel_rfl) (by decide) (by kernel_rfl) (by kernel_rfl) (fun _ _ _ h => h) (Or.inl ⟨by rfl, ?_⟩) trivial ?_
    rotate_left
    · (intro wx hSw; (try dsimp only at hSw); go_simp; try (with_reducible rfl))
    try simp only [Act.put, List.setIfInBounds_toArray, List.set_cons_zero, List.set_cons_succ]
    refine takeT (i := 7) (v := ?_) rfl (by kernel_rfl) (by kernel_rfl) (by decide) (by kernel_rfl) (by kernel_rfl) (fun _ _ _ h => h) (Or.inl ⟨by rfl, ?_⟩) trivial ?_
    rotate_left
    · (intro wx hSw; (try dsimp only at hSw); go_simp; try (with_reducible rfl))
    try simp only [Act.put, List.setIfInBounds_toArray, List.set_cons_zero, List.set_cons_succ]
    refine takeT (i := 8) (v := ?_) rfl (by kernel_rfl) (by kernel_rfl) (by decide) (by kernel_rfl) (by kernel_rfl) (fun _ _ _ h => h) (Or.inl ⟨by rfl, ?_⟩) trivial ?_
    rotate_left
    · (intro wx hSw; (try dsimp only at hSw); go_simp; try (with_reducible rfl))
    try simp only [Act.put, List.setIfInBounds_toArray, List.set_cons_zero, List.set_cons_succ]
    refine takeT (i := 10) (v := ?_) rfl (by kernel_rfl) (by kernel_rfl) (by decide) (by kernel_rfl) (by kernel_rfl) (fun _ _ _ h => h) (Or.inl ⟨by rfl, ?_⟩) trivial ?_
    rotate_left
    · (intro wx hSw; (try dsimp only at hSw); go_simp; try (with_reducible rfl))
    try simp only [Act.put, List.setIfInBounds_toArray, List.set_cons_zero, List.set_cons_succ]
    refine takeT (i := 11) (v := ?_) rfl (by kernel_rfl) (by kernel_rfl) (by decide) (by kernel_rfl) (by kernel_rfl) (fun _ _ _ h => h) (Or.inl ⟨by rfl, ?_⟩) trivial ?_
    rotate_left
    · (intro wx hSw; (try dsimp only at hSw); go_simp; try (with_reducible rfl))
    try simp only [Act.put, List.setIfInBounds_toArray, List.set_cons_zero, List.set_cons_succ]
    refine takeT (i := 12) (v := ?_) rfl (by kernel_rfl) (by kernel_rfl) (by decide) (by kernel_rfl) (by kernel_rfl) (fun _ _ _ h => h) (Or.inl ⟨by rfl, ?_⟩) trivial ?_
    rotate_left
    · (intro wx hSw; (try dsimp only at hSw); go_simp; try (with_reducible rfl))
    try simp only [Act.put, List.setIfInBounds_toArray, List.set_cons_zero, List.set_cons_succ]
    refine twoT (i := 9) (j := 13) rfl rfl (by kernel_rfl) (fun K hK => ?_) (fun K hK => ?_)
    · refine step_ldS _ rfl _ rfl o5 H64.out (k := k + 1) (by omega) HY.out rfl ?_
      refine hK.out _ _ (fun _ => trivial) ?_
      clear hK K
      try simp only [Act.put, List.setIfInBounds_toArray, List.set_cons_zero, List.set_cons_succ]
      refine oneT (i := 13) rfl (by kernel_rfl) (fun K hK => ?_)
      refine step_ldS _ rfl _ rfl o5 H64.out (k := k) (by omega) HX.out rfl ?_
      refine hK.out _ _ (fun _ => trivial) ?_
      clear hK K
      try simp only [Act.put, List.setIfInBounds_toArray, List.set_cons_zero, List.set_cons_succ]
      refine takeT (i := 14) (v := ?_) rfl (by kernel_rfl) (by kernel_rfl) (by decide) (by kernel_rfl) (by kernel_rfl) (fun _ _ _ h => h) (Or.inl ⟨by rfl, ?_⟩) trivial ?_
      rotate_left
      · (intro wx hSw; (try dsimp only at hSw); go_simp; try (with_reducible rfl))
      try simp only [Act.put, List.setIfInBounds_toArray, List.set_cons_zero, List.set_cons_succ]
      refine oneT (i := 15) rfl (by kernel_rfl) (fun K hK => ?_)
      refine step_putS _ rfl _ _ rfl o5 H64.out (k := k) (by omega) y HY64.out rfl rfl ?_
      intro V6 o6 g6
      refine hK.out _ _ (fun _ => trivial) ?_
      clear hK K
      try simp only [Act.put, List.setIfInBounds_toArray, List.set_cons_zero, List.set_cons_succ]
      refine takeT (i := 16) (v := ?_) rfl (by kernel_rfl) (by kernel_rfl) (by decide) (by kernel_rfl) (by kernel_rfl) (fun _ _ _ h => h) (Or.inl ⟨by rfl, ?_⟩) trivial ?_
      rotate_left
      · (intro wx hSw; (try dsimp only at hSw); go_simp; try (with_reducible rfl))
      try simp only [Act.put, List.setIfInBounds_toArray, List.set_cons_zero, List.set_cons_succ]
      refine oneT (i := 17) rfl (by kernel_rfl) (fun K hK => ?_)
      refine step_putS _ rfl _ _ rfl o6 (set_64 H64.out HY64.out) (k := k + 1) (by omega) x HX64.out rfl rfl ?_
      intro V7 o7 g7
      refine hK.out _ _ (fun _ => trivial) ?_
      clear hK K
      try simp only [Act.put, List.setIfInBounds_toArray, List.set_cons_zero, List.set_cons_succ]
      refine doneT (by kernel_rfl) ?_ _
      refine NoPanic.normal ?_
      go_wp2_with fail
      go_meet
      exact missR_mk r2 o4 hat4 b hsz2 hV3 hV4 hgt1 hgt2 (grown_trans g6 g7) o7
    · refine step_ldS _ rfl _ rfl o5 H64.out (k := k) (by omega) HX.out rfl ?_
      refine hK.out _ _ (fun _ => trivial) ?_
      clear hK K
      try simp only [Act.put, List.setIfInBounds_toArray, List.set_cons_zero, List.set_cons_succ]
      refine oneT (i := 9) rfl (by kernel_rfl) (fun K hK => ?_)
      refine step_ldS _ rfl _ rfl o5 H64.out (k := k + 1) (by omega) HY.out rfl ?_
      refine hK.out _ _ (fun _ => trivial) ?_
      clear hK K
      try simp only [Act.put, List.setIfInBounds_toArray, List.set_cons_zero, List.set_cons_succ]
      refine takeT (i := 14) (v := ?_) rfl (by kernel_rfl) (by kernel_rfl) (by decide) (by kernel_rfl) (by kernel_rfl) (fun _ _ _ h => h) (Or.inl ⟨by rfl, ?_⟩) trivial ?_
      rotate_left
      · (intro wx hSw; (try dsimp only at hSw); go_simp; try (with_reducible rfl))
      try simp only [Act.put, List.setIfInBounds_toArray, List.set_cons_zero, List.set_cons_succ]
      refine oneT (i := 15) rfl (by kernel_rfl) (fun K hK => ?_)
      refine step_putS _ rfl _ _ rfl o5 H64.out (k := k) (by omega) y HY64.out rfl rfl ?_
      intro V6 o6 g6
      refine hK.out _ _ (fun _ => trivial) ?_
      clear hK K
      try simp only [Act.put, List.setIfInBounds_toArray, List.set_cons_zero, List.set_cons_succ]
      refine takeT (i := 16) (v := ?_) rfl (by kernel_rfl) (by kernel_rfl) (by decide) (by kernel_rfl) (by kernel_rfl) (fun _ _ _ h => h) (Or.inl ⟨by rfl, ?_⟩) trivial ?_
      rotate_left
      · (intro wx hSw; (try dsimp only at hSw); go_simp; try (with_reducible rfl))
      try simp only [Act.put, List.setIfInBounds_toArray, List.set_cons_zero, List.set_cons_succ]
      refine oneT (i := 17) rfl (by kernel_rfl) (fun K hK => ?_)
      refine step_putS _ rfl _ _ rfl o6 (set_64 H64.out HY64.out) (k := k + 1) (by omega) x HX64.out rfl rfl ?_
      intro V7 o7 g7
      refine hK.out _ _ (fun _ => trivial) ?_
      clear hK K
      try simp only [Act.put, List.setIfInBounds_toArray, List.set_cons_zero, List.set_cons_succ]
      refine doneT (by kernel_rfl) ?_ _
      refine NoPanic.normal ?_
      go_wp2_with fail
      go_meet
      exact missR_mk r2 o4 hat4 b hsz2 hV3 hV4 hgt1 hgt2 (grown_trans g6 g7) o7
  case rest =>
    obtain ⟨r2, o4, o5, b, hV⟩ := hcut
    clear hV4 hgt2 hat4
    have hat4 := Oz.at' o4
    have hat5 := Oz.at' o5
    go_upto_region 15 with (at_builtin; refine wpl_appA _ rfl _ _ rfl wc.heap.size (some ⟨wc.heap.size, 0, none⟩) 0 0 [] rfl (owB_empty wc _ (Nat.le_refl _)) V0.heap.size A2 m c2 LL rfl (Rz.alloc r2 (Nat.le_trans hV3 hV) _) (by omega) (by simp) ?_)
    intro A6 c6 V8 o6 b6
    replace o6 : OwB V8 wc.heap.size A6 m c6 LL := by simpa using o6
    have bb : Below wc.heap.size wc V8 := ((Below.refl wc.heap.size wc).alloc (Nat.le_refl _) _).trans b6
    clear b6 r2
    replace o4 : OwB V8 V0.heap.size _ _ _ _ := Oz.below o4 bb
    replace o5 : OwB V8 V3.heap.size _ _ _ _ := Oz.below o5 bb
    replace b := below_step b bb
    have hV8 := bb.size
    clear bb
    obtain ⟨go, rfl, hgo1, hgo2⟩ := Oz.form o6 (by omega)
    have hld := own_ld o6 H64.out (by omega) HX.out
    go_wp2_with (refine wpl_loadS rfl _ rfl ⟨go, k * 64, none⟩ rfl x HX64.out hld ?_)
    refine (HREAD.out _).mono ?_
    rintro e V9 ⟨P, cP, rfl, oP, b9⟩
    replace o4 : OwB V9 V0.heap.size _ _ _ _ := Oz.below o4 b9
    replace o5 : OwB V9 V3.heap.size _ _ _ _ := Oz.below o5 b9
    replace o6 : OwB V9 wc.heap.size _ _ _ _ := Oz.below o6 b9
    replace b := below_step b b9
    have hV9 := b9.size
    clear b9 hld
    have ba := below_a1' (Below.refl V9.heap.size V9) (.cells #[.int .u64 (g : Nat), .int .u32 (7 + (k : Int)), .int .i64 (f : Nat)] 49)
    replace o4 : OwB (V9.alloc (.cells #[.int .u64 (g : Nat), .int .u32 (7 + (k : Int)), .int .i64 (f : Nat)] 49)) V0.heap.size _ _ _ _ := Oz.below o4 ba
    replace o5 : OwB (V9.alloc (.cells #[.int .u64 (g : Nat), .int .u32 (7 + (k : Int)), .int .i64 (f : Nat)] 49)) V3.heap.size _ _ _ _ := Oz.below o5 ba
    replace o6 : OwB (V9.alloc (.cells #[.int .u64 (g : Nat), .int .u32 (7 + (k : Int)), .int .i64 (f : Nat)] 49)) wc.heap.size _ _ _ _ := Oz.below o6 ba
    replace b := below_step b ba
    have rP := (oP.below ba).rd
    have hVa := ba.size
    clear ba oP
    go_upto_region 16 with fail
    generalize V9.alloc (.cells #[.int .u64 (g : Nat), .int .u32 (7 + (k : Int)), .int .i64 (f : Nat)] 49) = Va at o4 o5 o6 b rP hVa ⊢
    go_wp2_with fail
    refine (HPACK.out P cP Va rP).mono ?_
    rintro e Vb ⟨rfl, bb⟩
    replace o4 : OwB Vb V0.heap.size _ _ _ _ := Oz.below o4 bb
    replace o5 : OwB Vb V3.heap.size _ _ _ _ := Oz.below o5 bb
    replace o6 : OwB Vb wc.heap.size _ _ _ _ := Oz.below o6 bb
    replace b := below_step b bb
    have hVb := bb.size
    clear bb rP
    go_upto_region 17 with (refine wpl_putS _ rfl _ _ rfl o6 H64.out (k := k) (by omega) z HZ64.out rfl rfl ?_)
    intro Vc o6' gc
    replace o4 : OwB Vc V0.heap.size _ _ _ _ := Oz.grown o4 gc (fun q hq => by have := hat4 q hq; omega)
    replace o5 : OwB Vc V3.heap.size _ _ _ _ := Oz.grown o5 gc (fun q hq => by have := hat5 q hq; omega)
    replace b := b.trans (below_grown gc (by omega) (by omega))
    clear gc o6 hat4 hat5
    have hj := HTURN.out _ _ Vc o5.rdB
    go_wp2_with fail
    refine hj.mono ?_
    rintro e Vd ⟨rfl, bd⟩
    clear hj o5
    replace o4 : OwB Vd V0.heap.size _ _ _ _ := Oz.below o4 bd
    replace o6' : OwB Vd wc.heap.size _ _ _ _ := Oz.below o6' bd
    replace b := below_step b bd
    clear bd
    have hj := HOTHER.out _ _ Vd o6'.rdB
    go_wp2_with fail
    refine hj.mono ?_
    rintro e Ve ⟨rfl, bd⟩
    clear hj o6'
    replace o4 : OwB Ve V0.heap.size _ _ _ _ := Oz.below o4 bd
    replace b := below_step b bd
    clear bd
    have hj := HLEFT.out _ _ Ve o4.rdB
    go_wp2_with fail
    refine hj.mono ?_
    rintro e Vf ⟨rfl, b9⟩
    clear hj o4
    replace b := below_step b b9
    clear b9
    go_wp2_with fail
    go_ret
    exact ⟨rfl, b⟩
set_option maxRecDepth 100000 in
set_option maxHeartbeats 1000000 in
theorem miss_few (g : Nat) (hg : g ≠ 0) (hg2 : g < 18446744073709551615) (A : Option Addr) (n c m : Nat) (a0 : Int) (hn : n ≤ 16384) (w : World) (l : List UInt8) (r : Rd w w.heap.size A n c l) (hm2 : m < 2) (LL : List (List UInt8))
    (HS : Hid (∀ W, Rd W W.heap.size A n c l → Calls Try.prog 15 #[.int .u64 g, .int .u32 7, .slice A n c] W fun e w' => ∃ A' c', e = .returned (.tuple #[.slice A' m c', .int .i64 0]) ∧ OwB w' W.heap.size A' m c' LL ∧ Below W.heap.size W w')) : Calls Try.prog 7 #[.int .u64 g, .slice A n c, .int .i64 a0] w (LawM5 w) := by
  have i1 : ((16384 : Int) < (n : Int)) = False := by simp; omega
  have b := Below.refl w.heap.size w
  have t0 : ((g : Int) == 0) = false := by rw [beq_eq_false_iff_ne]; omega
  have t1 : ((g : Int) == 18446744073709551615) = false := by rw [beq_eq_false_iff_ne]; omega
  have im : ((m : Int) < 2) = True := by simp; omega
  clear hg hg2
  go_enter Try.func7, Try.ntmps7
  go_wp2_with fail
  refine (wakes05 _).mono ?_
  rintro e w1 ⟨rfl, b1⟩
  replace b := below_step b b1
  clear b1
  have HSx := HS.out w1 (r.step b)
  go_wp2_with fail
  refine HSx.mono ?_
  rintro e w2 ⟨A2, c2, rfl, o2, b2⟩
  replace b := below_step b b2
  clear HSx b2
  go_wp2_with fail
  go_ret
  exact ⟨rfl, b⟩
theorem walk_stampMissing (g : Nat) (A : Option Addr) (n c : Nat) (l : List UInt8) (a0 : Int) (w : World) (mg : (g : Int) ≤ 18446744073709551615) (r : Rd w w.heap.size A n c l) (_ : c ≤ 140737488351232) (ma : -9223372036854775808 ≤ a0 ∧ a0 ≤ 9223372036854775807) :
    Calls Try.prog 7 #[.int .u64 g, .slice A n c, .int .i64 a0] w fun e w' => e = .returned (.bool true) ∧ Below w.heap.size w w' := by
  by_cases hb : 16384 < n ∨ (n ≤ 16384 ∧ g = 0) ∨ (n ≤ 16384 ∧ g ≠ 0 ∧ g = 18446744073709551615)
  · exact miss_big g A n c a0 hb w
  · have hn : n ≤ 16384 := by omega
    have hg : g ≠ 0 := by omega
    have hg2 : g < 18446744073709551615 := by omega
    have hl := r.len
    have hle := secN_le n
    have hk : secN n ≤ 1000 := by omega
    have HS := Lib.hid (fun W r => split_ok g 7 hg (by omega) A n c l (by omega) (by omega) W r)
    by_cases hm : secN n < 2
    · exact miss_few g hg hg2 A n c (secN n) a0 hn w l r hm (splitL g 7 l (secN n)) HS
    · have hm2 : 2 ≤ secN n := by omega
      obtain ⟨k, hkd⟩ : ∃ k, k = (if a0 < 0 then 0 else a0).toNat % (secN n - 1) := ⟨_, rfl⟩
      have hkm : k + 1 < secN n := by
        have := Nat.mod_lt ((if a0 < 0 then 0 else a0).toNat) (show 0 < secN n - 1 by omega)
        omega
      have hkk : ∀ q : Nat, (if a0 < 0 then 0 else a0) = (q : Int) → (q : Int) % ((secN n : Int) - 1) = (k : Int) := by
        intro q hq
        rw [hq, Int.toNat_natCast] at hkd
        rw [hkd, show (secN n : Int) - 1 = ((secN n - 1 : Nat) : Int) from by omega]
        exact (Int.natCast_emod _ _).symm
      have hx := splitL_get g 7 l (k := secN n) (j := k) (by omega)
      have hy := splitL_get g 7 l (k := secN n) (j := k + 1) (by omega)
      have hle48 := piece_le l k
      have hx64 : (packL g (7 + k) (pieceB l k)).length = 64 := packL_length _ _ _ hle48
      have hz64 : (packL (g + 1) (7 + k) (pieceB l k)).length = 64 := packL_length _ _ _ hle48
      have e7 : ((7 + k : Nat) : Int) = 7 + (k : Int) := by omega
      have HREAD : Hid (∀ W, Calls Try.prog 20 #[.agg (ar (packL g (7 + k) (pieceB l k)))] W fun e w' => ∃ P cP, e = .returned (.tuple #[.agg #[.int .u64 (g : Nat), .int .u32 (7 + (k : Int)), .int .i64 ((pieceB l k).length : Nat)], .slice P (pieceB l k).length cP, .int .i64 0]) ∧ Own w' W.heap.size P (pieceB l k).length cP (pieceB l k) ∧ Below W.heap.size W w') := Lib.hid (fun W => by
        have h := read_yes _ hx64 W (okS_pack g (7 + k) (pieceB l k) hg (by omega) (by omega) hle48)
        unfold ReadOk at h
        have hp := payl_pack g (7 + k) (pieceB l k) hle48
        unfold paylS at hp
        rw [hp, fld_gen _ _ _ (by omega), fld_pos _ _ _ (by omega), fld_fil _ _ _ hle48, e7] at h
        exact h)
      have HPACK : Hid (∀ A c W, Rd W W.heap.size A (pieceB l k).length c (pieceB l k) → Calls Try.prog 21 #[.int .u64 ((g : Int) + 1), .int .u32 (7 + (k : Int)), .slice A (pieceB l k).length c] W fun e w' => e = .returned (.tuple #[.agg (ar (packL (g + 1) (7 + k) (pieceB l k))), .int .i64 0]) ∧ Below W.heap.size W w') := Lib.hid (fun A c W rr => by
        have h := pack_ok (g + 1) (7 + k) (by omega) (by omega) (by omega) A _ c (pieceB l k) hle48 W rr
        rw [e7, show ((g + 1 : Nat) : Int) = (g : Int) + 1 from by omega] at h
        exact h)
      have h64 := splitL_64 g 7 l (secN n)
      have hLL := splitL_length g 7 l (secN n)
      have HTURN := Lib.hid (fun A c W rr => join_no (turnB (splitL g 7 l (secN n)) k _ _) (secN n) (set_64 (set_64 h64 (packL_length _ _ _ (piece_le l (k + 1)))) hx64) (by unfold turnB; rw [List.length_set, List.length_set, hLL]) hk (Or.inr (turn_bad (by omega) hk hkm _ _ hx hy)) A c W rr)
      have HOTHER := Lib.hid (fun A c W rr => join_no ((splitL g 7 l (secN n)).set k (packL (g + 1) (7 + k) (pieceB l k))) (secN n) (set_64 h64 hz64) (by rw [List.length_set, hLL]) hk (Or.inr (other_bad (by omega) hk hkm _)) A c W rr)
      by_cases hk0 : k = 0
      · have h48 := secN_sub hm2
        have HLEFT : Hid (∀ A c W, RdB W W.heap.size A (secN n - 1) c (leftB (splitL g 7 l (secN n)) k) → Calls Try.prog 12 #[.slice A (secN n - 1) c] W fun e w' => ∃ A' c', e = .returned (.tuple #[.slice A' (n - 48) c', .int .i64 0]) ∧ Own w' W.heap.size A' (n - 48) c' (l.drop 48) ∧ Below W.heap.size W w') := Lib.hid (fun A c W rr => by
          have hdl : (l.drop 48).length = n - 48 := by rw [List.length_drop, hl]
          rw [hk0, left_zero hm2] at rr
          rw [show secN n - 1 = secN (n - 48) from by omega] at rr ⊢
          have h := join_yes (splitL g 8 (l.drop 48) (secN (n - 48))) (secN (n - 48)) (splitL_64 _ _ _ _) (splitL_length _ _ _ _) (by omega) (by have := secN_pos (n - 48); omega) (split_good hg (by omega) hdl (by omega)) A c W rr
          rw [join_split hdl] at h
          unfold JoinOk at h
          rw [hdl] at h
          exact h)
        exact miss_z g k _ hg hg2 A n c (secN n) l (pieceB l k) a0 hn w r hk hm2 hkm hk0 hkk _ _ _ _ (Lib.hid h64) (Lib.hid hLL) (Lib.hid hx) (Lib.hid hy) (Lib.hid hx64) (Lib.hid (packL_length _ _ _ (piece_le l (k + 1)))) (Lib.hid hz64) HS HREAD HPACK HTURN HOTHER HLEFT (by omega)
      · have HLEFT := Lib.hid (fun A c W rr => join_no (leftB (splitL g 7 l (secN n)) k) (secN n - 1) (left_64 h64 k) (by unfold leftB; rw [List.length_append, List.length_take, List.length_drop, hLL]; omega) (by omega) (Or.inr (left_bad (by omega) hk hkm hk0)) A c W rr)
        exact miss_p g k _ hg hg2 A n c (secN n) l (pieceB l k) a0 hn w r hk hm2 hkm hk0 hkk _ _ _ _ (Lib.hid h64) (Lib.hid hLL) (Lib.hid hx) (Lib.hid hy) (Lib.hid hx64) (Lib.hid (packL_length _ _ _ (piece_le l (k + 1)))) (Lib.hid hz64) HS HREAD HPACK HTURN HOTHER HLEFT


set_option maxRecDepth 100000 in
theorem lifted_stampMissing (os : Os) (started : os.Started) (H : Type) (enc : TypeId × Value → H) :
    ReturnsInHanded {} Try.checked os 7 .any (Rows.stampMissingSpec.pre6 enc Try.prog Try.f7 Rows.stampMissingRow.domain false) (Rows.stampMissingSpec.post enc Try.prog Try.f7 false true false false) := by
  refine returnsInHanded_of_change_sized (C := Try.checked) own started (by kernel_rfl) Try.func7
    (ChangeSpec.witness6 (enc := enc) (C := Try.checked) false ⟨#[], #[.int .u64 0, .slice none 0 0, .int .i64 0], []⟩ 8 (by kernel_rfl) (by kernel_rfl) (by kernel_rfl) (by kernel_rfl)) ?_
  intro W base args ds gs before hval0 hW hcnd hsz0 _
  have hval : ∀ (j : Nat) t v, Try.f7.params[j]? = some t → args[j]? = some v → Value.okWide Try.prog W .any base t v := hval0
  have hsz : (DataW.weightsEach Try.prog (Try.f7.params.toList ++ Rows.stampMissingSpec.plain.varTypes Try.prog) (ds ++ gs)).all (· ≤ reachBytes) = true := hsz0
  have hW' := hW
  obtain ⟨p, q, hA0, hV, rfl, hfz, hnd⟩ := hW
  have hA : DataW.TrodAll enc Try.prog W 0 (fun _ => true) true Try.f7.params.toList args.toList ds p := hA0
  rw [Try.params7] at hA hval hsz
  obtain ⟨v0, vs0, d0, ds0, p0, q0, hargs, rfl, rfl, h0, t0⟩ := trodAll_cons hA
  obtain ⟨v1, vs1, d1, ds1, p1, q1, rfl, rfl, rfl, h1, t1⟩ := trodAll_cons t0
  obtain ⟨v2, vs2, d2, ds2, p2, q2, rfl, rfl, rfl, h2, t2⟩ := trodAll_cons t1
  obtain ⟨rfl, rfl, rfl⟩ := trodAll_nil t2
  obtain rfl : args = #[v0, v1, v2] := by cases args; simp_all
  obtain ⟨rfl, rfl⟩ := trodVars_none hV
  have k0 := h0
  obtain ⟨z0, rfl, rfl, rfl, wf0⟩ := open_int Try.underlying38 (hval 0 38 v0 rfl rfl) h0
  obtain ⟨x0, rfl, m0⟩ := wf_nat (M := 18446744073709551615) wf0 rfl rfl
  have k1 := h1
  obtain ⟨A1, n1, c1, l1, rfl, r1, y1⟩ := open_bytes (hval 1 31 v1 rfl rfl) h1
  have s1 := y1 (weights_of hsz (j := 1) rfl rfl)
  have k2 := h2
  obtain ⟨x2, rfl, rfl, rfl, wf2⟩ := open_int Try.underlying3 (hval 2 3 v2 rfl rfl) h2
  have m2 := wf_int wf2
  clear hA0 hval0
  refine (walk_stampMissing x0 A1 n1 c1 l1 x2 W m0 r1 s1 m2).mono fun e W' ⟨he, bel⟩ => ?_
  subst he
  exact ⟨_, rfl, _, _, _, [], _, [], hW', trodAll_mk1 (shut_bool Try.underlying4 _), (trodAll_cons_mk (Below.trod laidOut (by kernel_rfl) (of_decide_eq_true (by kernel_rfl)) k0 bel (trod_places k0)) (trodAll_cons_mk (Below.trod laidOut (by kernel_rfl) (of_decide_eq_true (by kernel_rfl)) k1 bel (trod_places k1)) (trodAll_cons_mk (Below.trod laidOut (by kernel_rfl) (of_decide_eq_true (by kernel_rfl)) k2 bel (trod_places k2)) trodAll_mk0))), rfl, bel.frame _, fun h => by cases h⟩

theorem over_stampMissing : Rows.stampMissingRow.holds Try.pinned (OpenSpec.ofChange Rows.stampMissingSpec) :=
  OpenClaim.holds_of_wide 7 Try.f7 rfl rfl rfl rfl rfl rfl rfl ⟨rfl, rfl, rfl, rfl, rfl⟩ rfl rfl rfl rfl rfl (by kernel_rfl) Try.func7 (by kernel_rfl)
    (of_decide_eq_true (by kernel_rfl)) (by unfold Func.isWrapper; first | (rw [if_pos (by decide +kernel)]; kernel_rfl) | (rw [if_neg (by decide +kernel)]; exact ⟨rfl, rfl⟩))
    (fun os started H enc _ => lifted_stampMissing os started H enc)

/-- The statement. -/
theorem stampMissing_holds : Rows.StampMissingSaid := over_stampMissing
#print axioms stampMissing_holds

end Go.Proofs.Ytkemlpcfijfaeaa

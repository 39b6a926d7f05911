/- icehouseref05.Block. Conditions: typed in each theorem. -/
import Derived.Test.YtkemlpcfijfaeaaSta
namespace Go.Proofs.Ytkemlpcfijfaeaa
set_option linter.unusedVariables false
open Go.RowKit

theorem ar_set (l : List UInt8) (k : Nat) (x : UInt8) : (ar l).setIfInBounds k (cb x) = ar (l.set k x) := by
  apply Array.toList_inj.1
  simp [ar, cbs, List.map_set]
theorem fill_step {L : List UInt8} {k : Nat} {x : UInt8} (h : L[k]? = some x) (hk : k < 64) : (L.take k ++ List.replicate (64 - k) 0).set k x = L.take (k + 1) ++ List.replicate (64 - (k + 1)) 0 := by
  obtain ⟨h1, h2⟩ := List.getElem?_eq_some_iff.1 h
  rw [List.set_append, List.length_take, if_neg (by omega), show k - min k L.length = 0 from by omega, show 64 - k = (64 - (k + 1)) + 1 from by omega, List.replicate_succ, List.set_cons_zero, take_snoc_of h]
  simp
theorem highB_nil_app (l : List UInt8) : [] ++ l = l := rfl
theorem Blk.left {w w' : World} {k g : Nat} {cs : Array Value} {T : TypeId} (h : Blk w k cs T) (hg : w.grownBy w' (some g)) (hne : k ≠ g) : Blk w' k cs T :=
  (hg.block _ h.lt (fun e => by injection e with e; omega)).trans h
def BlockQ (L : List UInt8) (w : World) (e : Ending) (w' : World) : Prop := e = .returned (.agg (ar L)) ∧ Below w.heap.size w w'
set_option maxRecDepth 100000 in
set_option maxHeartbeats 8000000 in
theorem rblock_any (g ps : Nat) (hg2 : g < 18446744073709551616) (hps : ps < 4294967296) (A : Option Addr) (n c : Nat) (l : List UInt8) (hn : n ≤ 48) (w : World) (r : Rd w w.heap.size A n c l) :
    Calls Try.prog 32 #[.int .u64 g, .int .u32 ps, .slice A n c] w (BlockQ (packL g ps l) w) := by
  have k6 := Blk.new w (ar zeroA) 47
  have b : Below w.heap.size w (w.alloc (.cells (ar zeroA) 47)) := below_a1' (Below.refl _ _) _
  have hl := r.len
  have Wp : IntKind.u64.wrap (ps : Int) = (ps : Int) := IntWalk.u64_in _ (by omega)
  have Wn : IntKind.u64.wrap (n : Int) = (n : Int) := IntWalk.u64_in _ (by omega)
  have HL := Lib.hid hl
  have hH8 := fun W => high_any g 8 hg2 (by omega) W
  have hH4 := fun W => high_any ps 4 (by omega) (by omega) W
  have hH2 := fun W => high_any n 2 (by omega) (by omega) W
  have H8 : Hid (∀ W, Calls Try.prog 45 #[.int .u64 g, .int .i64 8] W fun e w' => ∃ A' c', e = .returned (.slice A' 8 c') ∧ Own w' W.heap.size A' 8 c' (highB g 8) ∧ Below W.heap.size W w') := hH8
  have H4 : Hid (∀ W, Calls Try.prog 45 #[.int .u64 ps, .int .i64 4] W fun e w' => ∃ A' c', e = .returned (.slice A' 4 c') ∧ Own w' W.heap.size A' 4 c' (highB ps 4) ∧ Below W.heap.size W w') := hH4
  have H2 : Hid (∀ W, Calls Try.prog 45 #[.int .u64 n, .int .i64 2] W fun e w' => ∃ A' c', e = .returned (.slice A' 2 c') ∧ Own w' W.heap.size A' 2 c' (highB n 2) ∧ Below W.heap.size W w') := hH2
  clear hl hH8 hH4 hH2
  go_enter Try.func32, Try.ntmps32
  go_upto_region 1 with fail
  rw [z64]
  generalize w.alloc (.cells (ar zeroA) 47) = W0 at k6 b ⊢
  go_wp2_with fail
  refine (H8 _).mono ?_
  rintro e w1 ⟨A1, c1, rfl, o1, b1⟩
  replace k6 := k6.step b1
  replace b := below_step b b1
  go_wp2_with fail
  refine (H4 _).mono ?_
  rintro e w2 ⟨A2, c2, rfl, o2, b2⟩
  replace k6 := k6.step b2
  replace b := below_step b b2
  replace o1 := o1.below b2
  go_wp2_with fail
  refine (both_any A1 A2 8 c1 4 c2 _ _ _ w2 o1.rd o2.rd (Nat.le_refl _) (by omega)).mono ?_
  rintro e w3 ⟨A3, c3, rfl, o3, b3⟩
  replace k6 := k6.step b3
  replace b := below_step b b3
  clear o1 o2 b1 b2 b3
  go_wp2_with fail
  refine (H2 _).mono ?_
  rintro e w4 ⟨A4, c4, rfl, o4, b4⟩
  replace k6 := k6.step b4
  replace b := below_step b b4
  replace o3 := o3.below b4
  go_wp2_with fail
  refine (both_any A3 A4 12 c3 2 c4 _ _ _ w4 o3.rd o4.rd (Nat.le_refl _) (by omega)).mono ?_
  rintro e w5 ⟨A5, c5, rfl, o5, b5⟩
  replace k6 := k6.step b5
  replace b := below_step b b5
  have r5 : Rd w5 w5.heap.size A5 14 c5 (stH g ps n) := o5.rd
  clear o3 o4 o5 b4 b5
  have b0 := below_a1' (Below.refl w5.heap.size w5) (.cells #[.int .u8 0, .int .u8 0] 5)
  have o0 : Own (w5.alloc (.cells #[.int .u8 0, .int .u8 0] 5)) w5.heap.size (some ⟨w5.heap.size, 0, none⟩) 2 2 [0, 0] := Own.litK w5 _ _ _ 2 [0, 0] rfl (Nat.le_refl _) (by simp [maxLen]) rfl rfl
  replace k6 := k6.step b0
  replace b := below_step b b0
  replace r5 := (r5.below b0).more b0.size
  go_wp2_with fail
  refine (both_any A5 (some ⟨w5.heap.size, 0, none⟩) 14 c5 2 2 _ _ _ _ r5 o0.rd (Nat.le_refl _) (by omega)).mono ?_
  rintro e w6 ⟨A6, c6, rfl, o6, b6⟩
  replace k6 := k6.step b6
  replace b := below_step b b6
  have rA := (r.below b).more b.size
  clear o0 b0 b6 r5
  go_wp2_with fail
  refine (both_any A6 A 16 c6 n c _ _ _ w6 o6.rd rA (Nat.le_refl _) (by omega)).mono ?_
  rintro e w7 ⟨A7, c7, rfl, o7, b7⟩
  replace k6 := k6.step b7
  replace b := below_step b b7
  have r7 := o7.rd
  clear o6 o7 b7 rA r H8 H4 H2
  have hlL : (stH g ps n ++ [0, 0] ++ l).length = 16 + n := r7.len
  have hF : packL g ps l = (stH g ps n ++ [0, 0] ++ l) ++ List.replicate (64 - (16 + n)) 0 := by
    unfold packL
    rw [HL.out, show 48 - n = 64 - (16 + n) from by omega]
  have pl := packL_length g ps l (by rw [HL.out]; exact hn)
  generalize stH g ps n ++ [0, 0] ++ l = L at r7 hlL hF
  have HF := Lib.hid hF
  have HLL := Lib.hid hlL
  clear hF hlL
  have k8 := Blk.new w7 (ar zeroA) 47
  have b8 := below_a1' (Below.refl w7.heap.size w7) (.cells (ar zeroA) 47)
  have r8 := r7.below b8
  have hlt6 := k6.lt
  replace k6 := k6.step b8
  replace b := below_step b b8
  clear b8 r7
  go_wp2_with fail
  rw [z64]
  generalize w7.alloc (.cells (ar zeroA) 47) = W8 at k6 k8 b r8 ⊢
  go_loopw [9] (fun i wr => ∃ k : Nat, k ≤ 16 + n ∧ i = .int .i64 k ∧ Blk wr w7.heap.size (ar (L.take k ++ List.replicate (64 - k) 0)) 47 ∧ W8.grownBy wr (some w7.heap.size)) (fun i _ => 16 + n - (intOf i).toNat)
  case atStart => exact ⟨0, Nat.zero_le _, rfl, k8, World.grownBy.refl _ _⟩
  case round =>
    obtain ⟨k, hk, rfl, k8', hg⟩ := hrel
    have r9 := r8.below (below_grown hg (Nat.le_refl _) k8.lt)
    by_cases hlt : k < 16 + n
    · obtain ⟨ad, x, rfl, -, hx, hc⟩ := r9.at_ hlt
      have hk64 : (k : Int) < 64 := by omega
      have hkn : (k : Int) < 16 + (n : Int) := by omega
      have hf := k8'.frozen k
      obtain ⟨v0, hv0⟩ : ∃ v0, wr.cell? ⟨w7.heap.size, k, none⟩ = some v0 := by
        have h1 := cell_of_row wr w7.heap.size k _ _ (0, 0) k8'
        have h2 : (ar (L.take k ++ List.replicate (64 - k) 0))[k]? ≠ none := by
          rw [Ne, Array.getElem?_eq_none_iff, ar_size, List.length_append, List.length_take, List.length_replicate, HLL.out]; omega
        cases hv : (ar (L.take k ++ List.replicate (64 - k) 0))[k]? with
        | none => exact absurd hv h2
        | some v0 => exact ⟨v0, by rw [h1, hv]⟩
      have k9 : Blk (wr.setCell ⟨w7.heap.size, k, none⟩ (.int .u8 (x.toNat : Int))) w7.heap.size (ar (L.take (k + 1) ++ List.replicate (64 - (k + 1)) 0)) 47 := by
        have := k8'.set_ k (cb x)
        rw [ar_set, fill_step hx (by omega)] at this
        exact this
      have hg9 := grown_trans hg (rdr_grown_set wr w7.heap.size k (.int .u8 (x.toNat : Int)))
      clear hx r8 k8' hg
      go_wp2
      go_roundw
      case rel => exact ⟨k + 1, by omega, by go_num, k9, hg9⟩
      case measure => simp [intOf]; omega
    · obtain rfl : k = 16 + n := by omega
      rw [List.take_of_length_le (by rw [HLL.out]; omega), ← HF.out] at k8'
      replace k6 := k6.left hg (by omega)
      replace b := b.trans (below_grown hg (by omega) k8.lt)
      go_wp2_with (first | refine wpl_loadA _ rfl _ rfl _ (packL g ps l) rfl k8' pl ?_ | refine wpl_storeA _ rfl _ _ rfl _ zeroA (packL g ps l) rfl rfl k6 zl pl ?_)
      intro w9 k7 g1
      have b1 := b.trans (below_grown g1 (Nat.le_refl _) k6.lt)
      have hld := run_lv k7 pl
      go_wp2_with fail
      refine bodyPost_ret (v := .agg (ar (packL g ps l))) (by simp [results, Try.results32, asAddr, hld]) rfl ?_
      exact ⟨rfl, b1⟩
end Go.Proofs.Ytkemlpcfijfaeaa

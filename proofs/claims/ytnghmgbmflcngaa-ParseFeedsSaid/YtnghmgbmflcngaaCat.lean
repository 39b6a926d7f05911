/- slices.Grow of nothing; slices.Concat of slices of bytes. Conditions: typed in each theorem. -/
import Derived.Test.YtnghmgbmflcngaaOctb
import Derived.Lib.AppendZeros
namespace Go.Proofs.Ytnghmgbmflcngaa
set_option linter.unusedVariables false
open Go.RowKit

/-- The bytes that n more are wanted for, onto nothing: a row of the call's own, of no length. -/
theorem wpList_grown8 (w : World) {ops : Array Oper} {rest : List Oper} {o : Oper} {a : Act} {Q : Exit → Act → World → Prop}
    (hg : Region.wanted o (yielded ops a.tmps) = true) (s x : Operand) (hop : o.op = Op.call { callee := Callee.builtin Builtin.append, args := #[s, x], argTypes := #[23, 3] })
    (n : Nat) (hs : a.eval s = .slice none 0 0) (hx : a.eval x = .int .i64 (n : Int)) (h0 : 0 < n) (hn : n ≤ 281474976710656) (B : Nat) (hB : B ≤ w.heap.size)
    (hK : ∀ c' w', n ≤ c' → Own w' B (some ⟨w.heap.size, 0, none⟩) 0 c' [] → Below w.heap.size w w' → wpList Try.prog ops Q rest (a.put o.dst (.slice (some ⟨w.heap.size, 0, none⟩) n c')) w') :
    wpList Try.prog ops Q (o :: rest) a w := by
  refine wpList_want hg fun K hK' => ?_
  obtain ⟨i0, hi0, hz0, hz1, hz2⟩ := info_parts u8info
  have hrun := Go.Lib.run_append_nil_zeros (P := Try.prog) w 23 3 o.type 5 i0 _ .i64 .i64 Try.underlying23 Try.underlying3 hi0 hz0 n h0 (by rw [hz1]; omega) (by omega) (by rw [hz2]; omega)
  have hle := grownCap_ge w n 0 5
  have hmx := grownCap_le_maxLen w n 0 5 (by unfold maxLen; omega)
  unfold Oper.wp
  simp [execOp, hop, resolve, invoke, builtin, hs, hx, hrun, Result.andThen]
  refine hK' _ _ (hK _ _ hle ?_ (((Below.refl _ w).drew).alloc (Nat.le_refl _) _))
  refine ⟨rfl, .inr ⟨w.heap.size, _, _, rfl, hB, heap_alloc_new w.drew _, Nat.zero_le _, hmx, ?_, by simp [cbs]⟩⟩
  simp only [Array.size_append, size_zeroCells, show (Value.int .u8 0).cells.size = 1 from rfl]
  omega

set_option maxRecDepth 100000 in
set_option maxHeartbeats 400000 in
theorem grow_nil (n : Nat) (hn : n ≤ 281474976710656) (w : World) :
    Calls Try.prog 125 #[.slice none 0 0, .int .i64 (n : Int)] w fun e w' => ∃ A' c', e = .returned (.slice A' 0 c') ∧ Own w' w.heap.size A' 0 c' [] ∧ Below w.heap.size w w' := by
  by_cases h0 : 0 < n
  · skip
    go_enter Try.func125, Try.ntmps125
    go_wp2_with (at_builtin; refine wpList_grown8 _ rfl _ _ rfl n rfl (by go_num) h0 hn w.heap.size (Nat.le_refl _) ?_)
    intro c' w' hc ho hb
    go_wp2_with fail
    go_ret
    exact ⟨_, c', rfl, ho, hb⟩
  · obtain rfl : n = 0 := by omega
    go_enter Try.func125, Try.ntmps125
    go_wp2_with fail
    go_ret
    exact ⟨none, 0, rfl, Own.nil _ _, Below.refl _ _⟩

def partV (p : Option Addr × Nat × Nat × List UInt8) : Value := .slice p.1 p.2.1 p.2.2.1
def catB (ps : List (Option Addr × Nat × Nat × List UInt8)) : List UInt8 := ps.flatMap fun p => p.2.2.2
theorem catB_step {ps : List (Option Addr × Nat × Nat × List UInt8)} {i : Nat} {p : Option Addr × Nat × Nat × List UInt8} (h : ps[i]? = some p) : catB (ps.take (i + 1)) = catB (ps.take i) ++ p.2.2.2 := by
  unfold catB
  rw [List.take_add_one, h]; simp
theorem catB_le (ps : List (Option Addr × Nat × Nat × List UInt8)) (i : Nat) : (catB (ps.take i)).length ≤ (catB ps).length := by
  have h : catB ps = catB (ps.take i) ++ catB (ps.drop i) := by
    unfold catB
    rw [← List.flatMap_append, List.take_append_drop]
  rw [h, List.length_append]; omega

set_option maxRecDepth 100000 in
set_option maxHeartbeats 1000000 in
theorem concat_any (A : Option Addr) (k c : Nat) (ps : List (Option Addr × Nat × Nat × List UInt8)) (N : Nat) (w : World) (h : Rv w w.heap.size A k c (ps.map partV))
    (hp : ∀ p ∈ ps, Rd w w.heap.size p.1 p.2.1 p.2.2.1 p.2.2.2) (hN : (catB ps).length = N) (hs : N ≤ 140737488355328) :
    Calls Try.prog 103 #[.slice A k c] w fun e w' => ∃ A' c', e = .returned (.slice A' N c') ∧ Own w' w.heap.size A' N c' (catB ps) ∧ Below w.heap.size w w' := by
  have m1 : (k : Int) ≤ 9223372036854775807 := by have := h.cap; have := h.max; unfold maxLen at this; omega
  have hk : ps.length = k := by have := h.1; simpa using this
  have HP := Lib.hid hp; clear hp
  go_enter Try.func103, Try.ntmps103
  go_wp2_with fail
  go_loop [3, 11] (fun x i => ∃ j m : Nat, j ≤ k ∧ i = .int .i64 j ∧ m = (catB (ps.take j)).length ∧ x = .int .i64 (m : Int)) (fun _ i => k - (intOf i).toNat)
  case atStart => exact ⟨0, 0, Nat.zero_le _, rfl, rfl, rfl⟩
  case round =>
    obtain ⟨j, m, hj, rfl, hm, rfl⟩ := hrel
    have hml : m ≤ N := by rw [hm, ← hN]; exact catB_le _ _
    have HM := Lib.hid hm; clear hm
    by_cases hlt : j < k
    · obtain ⟨p, hpj⟩ : ∃ p, ps[j]? = some p := ⟨_, List.getElem?_eq_getElem (by omega)⟩
      obtain ⟨a1, u, rfl, -, hu, hc⟩ := h.some_ hlt
      rw [List.getElem?_map, hpj] at hu
      obtain rfl : partV p = u := by simpa using hu
      have hr := HP.out p (List.mem_of_getElem? hpj)
      obtain ⟨A2, n2, c2, l2⟩ := p
      have hst := catB_step hpj
      have hl2 := hr.len
      have hle := catB_le ps (j + 1)
      rw [hst, hN, List.length_append] at hle
      have hmj := HM.out
      have HS := Lib.hid hst
      clear hu hpj hst
      simp only [partV] at hc
      dsimp only at hl2 hle
      have hn2 : m + n2 ≤ N := by omega
      have HL := Lib.hid (show m + n2 = (catB (ps.take (j + 1))).length from by rw [HS.out, List.length_append, ← hmj]; dsimp only; omega)
      clear hle hmj hl2
      go_wp2
      go_round
      case rel => exact ⟨j + 1, m + n2, by omega, by go_num, HL.out, by go_num⟩
      case measure => simp [intOf]; omega
    · obtain rfl : j = k := by omega
      have hmN : m = N := by rw [HM.out, ← hN, List.take_of_length_le (by omega)]
      clear HM
      subst hmN
      go_wp2_with fail
      refine (grow_nil m (by omega) _).mono ?_
      rintro e w1 ⟨A1, c1, rfl, o1, b1⟩
      go_wp2_with fail
      go_loopw [6, 27] (fun x i wr => ∃ (j' : Nat) (A2 : Option Addr) (m2 c2 : Nat), j' ≤ j ∧ i = .int .i64 j' ∧ x = .slice A2 m2 c2 ∧ Own wr w.heap.size A2 m2 c2 (catB (ps.take j')) ∧ Below w.heap.size w wr) (fun _ i _ => j - (intOf i).toNat)
      case atStart => exact ⟨0, A1, 0, c1, Nat.zero_le _, rfl, rfl, o1, b1⟩
      case round =>
        obtain ⟨j', A2, m2, c2, hj', rfl, rfl, o2, b2⟩ := hrel
        by_cases hlt2 : j' < j
        · obtain ⟨p, hpj⟩ : ∃ p, ps[j']? = some p := ⟨_, List.getElem?_eq_getElem (by omega)⟩
          obtain ⟨a1, u, rfl, -, hu, hc⟩ := (h.below b2).some_ hlt2
          rw [List.getElem?_map, hpj] at hu
          obtain rfl : partV p = u := by simpa using hu
          have hr := (HP.out p (List.mem_of_getElem? hpj)).below b2
          obtain ⟨Ap, np, cp, lp⟩ := p
          have hst := catB_step hpj
          have hl2 := hr.len
          have hl3 := o2.len
          have hle := catB_le ps (j' + 1)
          rw [hst, hN, List.length_append] at hle
          have HS := Lib.hid hst
          clear hu hpj hst
          simp only [partV] at hc
          dsimp only at hl2 hle hr
          have hn2 : m2 + np ≤ m := by omega
          clear hle hl2 hl3
          go_wp2_with (at_builtin; refine wpList_app8 _ rfl _ _ rfl w.heap.size A2 m2 c2 _ rfl o2 w.heap.size Ap np cp lp rfl hr (by omega) b2.size ?_)
          intro A3 c3 w3 o3 b3
          have b4 := b2.trans b3
          have HO := Lib.hid o3
          clear o3 b3 o2 hr
          go_wp2
          go_roundw
          case rel => exact ⟨j' + 1, A3, m2 + np, c3, by omega, by go_num, by go_num, by rw [HS.out]; exact HO.out, b4⟩
          case measure => simp [intOf]; omega
        · obtain rfl : j' = j := by omega
          have hl3 := o2.len
          rw [List.take_of_length_le (by omega)] at o2 hl3
          obtain rfl : m2 = m := by omega
          go_wp2
          go_ret
          exact ⟨A2, c2, rfl, o2, b2⟩
end Go.Proofs.Ytnghmgbmflcngaa

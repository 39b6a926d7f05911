/- ParseLimits: how many bytes are held. Conditions: none. -/
import Derived.Test.YtnghmgbmflcngaaWk20
import Derived.Test.YtnghmgbmflcngaaPsp
import Derived.Test.YtnghmgbmflcngaaOpen
namespace Go.Proofs.Ytnghmgbmflcngaa
set_option linter.unusedVariables false
open Go.ChangeShapes Go.WideShapes Go.ChangeAt Go.RowKit

theorem zeros_290 {T : Nat} (h : 24 ≤ T) : needE (List.replicate T 0) = 290 := by
  have e : fld (List.replicate T 0) 0 1 = 0 := fld_one (x := 0) (by rw [List.getElem?_replicate]; exact if_pos (by omega))
  unfold needE
  rw [if_neg (by rw [List.length_replicate]; omega), if_neg]
  rw [e]
  simp [mayB]
theorem zeros_9 {T : Nat} (h : T < 24) : needE (List.replicate T 0) = 9 := by
  unfold needE
  rw [if_pos (by rw [List.length_replicate]; omega)]
theorem lim_mod (x : Int) (k : Nat) (hk : 0 < k) : ∃ N : Nat, (if x < 0 then 0 else x) % (k : Int) = (N : Int) ∧ N < k := by
  refine ⟨((if x < 0 then 0 else x) % (k : Int)).toNat, ?_, ?_⟩
  · exact (Int.toNat_of_nonneg (Int.emod_nonneg _ (by omega))).symm
  · have h1 := Int.emod_lt_of_pos (if x < 0 then 0 else x) (show (0 : Int) < k by omega)
    have h0 := Int.emod_nonneg (if x < 0 then 0 else x) (show (k : Int) ≠ 0 by omega)
    omega
/-- The last of it: no request is told, and it breaks where a header stands. -/
def LimN (g : Nat) (er : Int) (br : Bool) (w : World) (e : Ending) (w' : World) : Prop := e = .returned (.tuple #[.agg #[.int .i64 0, .bool false, .bool false, .int .i64 0, .int .u32 0, .slice none 0 0, .slice none 0 0, .int .u32 0, .int .u32 0, .int .u64 0, .int .u64 0, .int .u64 0], .bool false, .int .i64 er]) ∧ (br = true → PrsA w' g none 0 0 [] true) ∧ w.grownBy w' (some g)
set_option maxRecDepth 100000 in
set_option maxHeartbeats 4000000 in
theorem walk_parseLimits (x0 x1 : Int) (w : World) (m0 : -9223372036854775808 ≤ x0 ∧ x0 ≤ 9223372036854775807) (m1 : -9223372036854775808 ≤ x1 ∧ x1 ≤ 9223372036854775807) :
    Calls Try.prog 8 #[.int .i64 x0, .int .i64 x1] w fun e w' => e = .returned (.bool true) ∧ Below w.heap.size w w' := by
  have HNX : Hid (∀ W g n c A, 24 ≤ n → PrsA W g A n c (List.replicate n 0) false → Calls Try.prog 49 #[.pointer (some ⟨g, 0, none⟩)] W (LimN g 300 true W)) := Lib.hid (fun W g n c A hn h => (next_bad_m g n c A _ W h (zeros_290 hn)).mono fun e w' h => ⟨h.1, fun _ => h.2.1, h.2.2⟩)
  have HNS : Hid (∀ W g n c A, n < 24 → PrsA W g A n c (List.replicate n 0) false → Calls Try.prog 49 #[.pointer (some ⟨g, 0, none⟩)] W (LimN g 0 false W)) := Lib.hid (fun W g n c A hn h => (next_short g n c A _ W h (zeros_9 hn)).mono fun e w' h => ⟨h.1, (fun h => by cases h), grown_of_below h.2⟩)
  go_enter Try.func8, Try.ntmps8
  go_wp2_with fail
  refine (wakes20 w).mono ?_
  rintro e w1 ⟨rfl, b⟩
  obtain ⟨N, hN, hN1⟩ := lim_mod x0 65538 (by decide)
  obtain ⟨M, hM, hM1⟩ := lim_mod x1 40 (by decide)
  rw [show ((65538 : Nat) : Int) = 65538 from rfl] at hN
  rw [show ((40 : Nat) : Int) = 40 from rfl] at hM
  go_upto_region 4 with fail
  rw [hN, hM]
  generalize (if x0 < 0 then 0 else x0 : Int) = y0
  generalize (if x1 < 0 then 0 else x1 : Int) = y1
  clear hN hM
  have HM1 := Lib.hid hM1
  clear hM1
  go_wp2_with fail
  refine (new_any w1).mono ?_
  rintro e w2 ⟨rfl, hp, b1⟩
  have hsz := Lib.hid b.size
  replace b := below_step b b1
  clear b1
  generalize w1.heap.size = g at hp hsz ⊢
  go_wp2_with (at_make; refine wpList_mk8 _ rfl _ _ rfl w2.heap.size N rfl rfl (by omega) (Nat.le_refl _) ?_)
  intro w3 o3 b3
  have hp3 := hp.step b3
  replace b := below_step b b3
  clear hp
  generalize hA3 : w2.heap.size = h3 at o3 b3 ⊢
  clear hA3 b3
  by_cases hl : 65536 < N
  · have hl' : ((65536 : Int) < (N : Int)) = True := eq_true (by omega)
    go_wp2_with fail
    refine (feed_long g 0 0 none [] _ N N w3 hp3 (by omega) (by omega)).mono ?_
    rintro e w4 ⟨rfl, rfl⟩
    go_wp2_with fail
    refine (held_any g 0 0 none [] false w3 hp3).mono ?_
    rintro e w4 ⟨rfl, rfl⟩
    go_wp2_with fail
    go_ret
    exact ⟨rfl, b⟩
  · have hl' : ((65536 : Int) < (N : Int)) = False := eq_false (by omega)
    have HL := Lib.hid hl
    clear hl
    go_wp2_with fail
    refine (feed_ok g 0 0 none [] _ N N (List.replicate N 0) w3 hp3 o3.rd (by have := HL.out; omega)).mono ?_
    rintro e w4 ⟨A4, c4, rfl, hp4, tk, -⟩
    rw [Nat.zero_add, List.nil_append] at hp4
    have hlt := hp3.lt
    replace b := b.trans ((tk.below (Nat.le_refl g) (fun k h => by cases h) (by omega)).mono hsz.out)
    clear hp3 o3 tk hlt
    go_wp2_with fail
    refine (held_any g N c4 A4 _ false w4 hp4).mono ?_
    rintro e w5 ⟨rfl, rfl⟩
    go_wp2_with (at_make; refine wpList_mk8 _ rfl _ _ rfl w4.heap.size M rfl rfl (by have := HM1.out; omega) (Nat.le_refl _) ?_)
    intro w6 o6 b6
    have hp6 := hp4.step b6
    replace b := below_step b b6
    clear hp4
    generalize hA6 : w4.heap.size = h6 at o6 b6 ⊢
    clear hA6 b6
    have W1 : IntKind.i64.wrap ((N : Int) + (M : Int)) = (N : Int) + (M : Int) := IntWalk.i64_in _ (by have := HL.out; have := HM1.out; omega)
    by_cases hm : 65536 < N + M
    · have hm' : ((65536 : Int) < (N : Int) + (M : Int)) = True := eq_true (by omega)
      have h24 : ((N : Int) < 24) = False := eq_false (by have := HM1.out; omega)
      have H24 : Hid (24 ≤ N) := Lib.hid (by have := HM1.out; omega)
      have HMM := Lib.hid hm
      clear hm
      go_wp2_with fail
      refine (feed_long g N c4 A4 _ _ M M w6 hp6 HMM.out (by have := HL.out; have := HM1.out; omega)).mono ?_
      rintro e w7 ⟨rfl, rfl⟩
      go_wp2_with fail
      refine (held_any g N c4 A4 _ false w6 hp6).mono ?_
      rintro e w7 ⟨rfl, rfl⟩
      go_wp2_with fail
      refine (held_any g N c4 A4 _ false w6 hp6).mono ?_
      rintro e w7 ⟨rfl, rfl⟩
      go_wp2_with fail
      refine (HNX.out w6 g N c4 A4 H24.out hp6).mono ?_
      rintro e w9 ⟨rfl, hb, gg⟩
      replace hb := hb rfl
      have b := b.trans (below_grown gg hsz.out hp6.lt)
      clear gg hp6
      have ba := below_a1' (Below.refl w9.heap.size w9) (.cells #[.int .i64 0, .bool false, .bool false, .int .i64 0, .int .u32 0, .slice none 0 0, .slice none 0 0, .int .u32 0, .int .u32 0, .int .u64 0, .int .u64 0, .int .u64 0] 26)
      replace hb := hb.step ba
      replace b := below_a1' b (.cells #[.int .i64 0, .bool false, .bool false, .int .i64 0, .int .u32 0, .slice none 0 0, .slice none 0 0, .int .u32 0, .int .u32 0, .int .u64 0, .int .u64 0, .int .u64 0] 26)
      clear ba
      go_wp2_with fail
      generalize w9.alloc (.cells #[.int .i64 0, .bool false, .bool false, .int .i64 0, .int .u32 0, .slice none 0 0, .slice none 0 0, .int .u32 0, .int .u32 0, .int .u64 0, .int .u64 0, .int .u64 0] 26) = W9 at hb b ⊢
      refine (held_any g 0 0 none [] true W9 hb).mono ?_
      rintro e w10 ⟨rfl, rfl⟩
      go_wp2_with fail
      refine (feed_broken g 0 0 none [] none 0 0 W9 hb).mono ?_
      rintro e w10 ⟨rfl, rfl⟩
      go_wp2_with fail
      go_ret
      exact ⟨rfl, b⟩
    · have hm' : ((65536 : Int) < (N : Int) + (M : Int)) = False := eq_false (by omega)
      have HMM := Lib.hid hm
      clear hm
      go_wp2_with fail
      refine (feed_ok g N c4 A4 _ _ M M (List.replicate M 0) w6 hp6 o6.rd (by have := HMM.out; omega)).mono ?_
      rintro e w7 ⟨A7, c7, rfl, hp7, tk, -⟩
      rw [List.replicate_append_replicate] at hp7
      have hlt := hp6.lt
      have hown : ∀ k, (Value.slice A4 N 0).ownBlock = some k → g ≤ k := fun k hk => Nat.le_trans (Nat.le_succ g) (hp6.2.owner k (by rw [ob_eq A4 N c4 N 0]; exact hk)).1
      replace b := b.trans ((tk.below (Nat.le_refl g) hown (by omega)).mono hsz.out)
      clear hp6 o6 tk hlt hown
      go_wp2_with fail
      refine (held_any g (N + M) c7 A7 _ false w7 hp7).mono ?_
      rintro e w8 ⟨rfl, rfl⟩
      by_cases h24 : N + M < 24
      · have H24 := Lib.hid h24
        have h24' : (((N + M : Nat) : Int) < 24) = True := eq_true (by omega)
        have h24b : ((N : Int) + (M : Int) < 24) = True := eq_true (by omega)
        clear h24
        go_wp2_with fail
        refine (held_any g (N + M) c7 A7 _ false w7 hp7).mono ?_
        rintro e w8 ⟨rfl, rfl⟩
        go_wp2_with fail
        refine (HNS.out w7 g (N + M) c7 A7 H24.out hp7).mono ?_
        rintro e w8 ⟨rfl, -, gg⟩
        have b := b.trans (below_grown gg hsz.out hp7.lt)
        clear gg
        go_wp2_with fail
        go_ret
        exact ⟨rfl, below_a1' b _⟩
      · have H24 := Lib.hid h24
        have h24' : (((N + M : Nat) : Int) < 24) = False := eq_false (by omega)
        have h24b : ((N : Int) + (M : Int) < 24) = False := eq_false (by omega)
        clear h24
        go_wp2_with fail
        refine (held_any g (N + M) c7 A7 _ false w7 hp7).mono ?_
        rintro e w8 ⟨rfl, rfl⟩
        go_wp2_with fail
        refine (HNX.out w7 g (N + M) c7 A7 (by have := H24.out; omega) hp7).mono ?_
        rintro e w9 ⟨rfl, hb, gg⟩
        replace hb := hb rfl
        have b := b.trans (below_grown gg hsz.out hp7.lt)
        clear gg hp7
        have ba := below_a1' (Below.refl w9.heap.size w9) (.cells #[.int .i64 0, .bool false, .bool false, .int .i64 0, .int .u32 0, .slice none 0 0, .slice none 0 0, .int .u32 0, .int .u32 0, .int .u64 0, .int .u64 0, .int .u64 0] 26)
        replace hb := hb.step ba
        replace b := below_a1' b (.cells #[.int .i64 0, .bool false, .bool false, .int .i64 0, .int .u32 0, .slice none 0 0, .slice none 0 0, .int .u32 0, .int .u32 0, .int .u64 0, .int .u64 0, .int .u64 0] 26)
        clear ba
        go_wp2_with fail
        generalize w9.alloc (.cells #[.int .i64 0, .bool false, .bool false, .int .i64 0, .int .u32 0, .slice none 0 0, .slice none 0 0, .int .u32 0, .int .u32 0, .int .u64 0, .int .u64 0, .int .u64 0] 26) = W9 at hb b ⊢
        refine (held_any g 0 0 none [] true W9 hb).mono ?_
        rintro e w10 ⟨rfl, rfl⟩
        go_wp2_with fail
        refine (feed_broken g 0 0 none [] none 0 0 W9 hb).mono ?_
        rintro e w10 ⟨rfl, rfl⟩
        go_wp2_with fail
        go_ret
        exact ⟨rfl, b⟩

end Go.Proofs.Ytnghmgbmflcngaa

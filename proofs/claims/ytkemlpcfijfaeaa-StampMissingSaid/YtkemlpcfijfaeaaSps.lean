/- The plain law of sectors left out, turned, of another generation. No program in sight. -/
import Derived.Test.YtkemlpcfijfaeaaSpq
namespace Go.Proofs.Ytkemlpcfijfaeaa
set_option linter.unusedVariables false

theorem bad_pos {X : List (List UInt8)} {j p0 p : Nat} {y x : List UInt8} (h0 : X[0]? = some y) (hp0 : fld y 8 4 = p0) (hj : X[j]? = some x) (hp : fld x 8 4 = p) (hne : p ≠ p0 + j) : ¬ GoodJ X j := by
  rintro ⟨z, h1, _, _, h4, _⟩
  rw [hj] at h1
  injection h1 with h1
  subst h1
  rw [(goodJ_head h0).2, hp, hp0] at h4
  exact hne h4
theorem bad_gen {X : List (List UInt8)} {j g0 g : Nat} {y x : List UInt8} (h0 : X[0]? = some y) (hg0 : fld y 0 8 = g0) (hj : X[j]? = some x) (hg : fld x 0 8 = g) (hne : g ≠ g0) : ¬ GoodJ X j := by
  rintro ⟨z, h1, _, h3, _, _⟩
  rw [hj] at h1
  injection h1 with h1
  subst h1
  rw [(goodJ_head h0).1, hg, hg0] at h3
  exact hne h3
def leftB (L : List (List UInt8)) (k : Nat) : List (List UInt8) := L.take k ++ L.drop (k + 1)
def turnB (L : List (List UInt8)) (k : Nat) (x y : List UInt8) : List (List UInt8) := (L.set k y).set (k + 1) x
section
variable {g n : Nat} {l : List UInt8} {k : Nat}
theorem turn_bad (hg : g < 18446744073709551616) (hm : secN n ≤ 1000) (hk : k + 1 < secN n) (x y : List UInt8) (hx : (splitL g 7 l (secN n))[k]? = some x) (hy : (splitL g 7 l (secN n))[k + 1]? = some y) :
    ∃ j, j < secN n ∧ ¬ GoodJ (turnB (splitL g 7 l (secN n)) k x y) j := by
  have hl := splitL_length g 7 l (secN n)
  have h0 := splitL_get g 7 l (k := secN n) (j := 0) (by omega)
  rw [splitL_get g 7 l (by omega)] at hx hy
  injection hx with hx
  injection hy with hy
  have p0 : fld (packL g (7 + 0) (pieceB l 0)) 8 4 = 7 := fld_pos _ _ _ (by omega)
  have px : fld x 8 4 = 7 + k := by rw [← hx]; exact fld_pos _ _ _ (by omega)
  have py : fld y 8 4 = 7 + (k + 1) := by rw [← hy]; exact fld_pos _ _ _ (by omega)
  unfold turnB
  by_cases hk0 : k = 0
  · subst hk0
    exact ⟨1, by omega, bad_pos (y := y) (x := x) (by rw [List.getElem?_set_ne (by omega), List.getElem?_set_self (by omega)]) py (by rw [List.getElem?_set_self (by rw [List.length_set]; omega)]) px (by omega)⟩
  · exact ⟨k, by omega, bad_pos (by rw [List.getElem?_set_ne (by omega), List.getElem?_set_ne (by omega)]; exact h0) p0 (by rw [List.getElem?_set_ne (by omega), List.getElem?_set_self (by omega)]) py (by omega)⟩
theorem other_bad (hg : g + 1 < 18446744073709551616) (hm : secN n ≤ 1000) (hk : k + 1 < secN n) (z : List UInt8) :
    ∃ j, j < secN n ∧ ¬ GoodJ ((splitL g 7 l (secN n)).set k (packL (g + 1) (7 + k) z)) j := by
  have hl := splitL_length g 7 l (secN n)
  have h0 := splitL_get g 7 l (k := secN n) (j := 0) (by omega)
  have h1 := splitL_get g 7 l (k := secN n) (j := 1) (by omega)
  have g0 : fld (packL g (7 + 0) (pieceB l 0)) 0 8 = g := fld_gen _ _ _ (by omega)
  have g1 : fld (packL g (7 + 1) (pieceB l 1)) 0 8 = g := fld_gen _ _ _ (by omega)
  have gz : fld (packL (g + 1) (7 + k) z) 0 8 = g + 1 := fld_gen _ _ _ hg
  by_cases hk0 : k = 0
  · subst hk0
    exact ⟨1, by omega, bad_gen (by rw [List.getElem?_set_self (by omega)]) gz (by rw [List.getElem?_set_ne (by omega)]; exact h1) g1 (by omega)⟩
  · exact ⟨k, by omega, bad_gen (by rw [List.getElem?_set_ne (by omega)]; exact h0) g0 (by rw [List.getElem?_set_self (by omega)]) gz (by omega)⟩
theorem left_bad (hg : g < 18446744073709551616) (hm : secN n ≤ 1000) (hk : k + 1 < secN n) (hk0 : k ≠ 0) : ∃ j, j < secN n - 1 ∧ ¬ GoodJ (leftB (splitL g 7 l (secN n)) k) j := by
  have hl := splitL_length g 7 l (secN n)
  have h0 := splitL_get g 7 l (k := secN n) (j := 0) (by omega)
  have h1 := splitL_get g 7 l (k := secN n) (j := k + 1) (by omega)
  have p0 : fld (packL g (7 + 0) (pieceB l 0)) 8 4 = 7 := fld_pos _ _ _ (by omega)
  have p1 : fld (packL g (7 + (k + 1)) (pieceB l (k + 1))) 8 4 = 7 + (k + 1) := fld_pos _ _ _ (by omega)
  have ht : ((splitL g 7 l (secN n)).take k).length = k := by rw [List.length_take]; omega
  unfold leftB
  refine ⟨k, by omega, bad_pos (by rw [List.getElem?_append_left (by omega), List.getElem?_take, if_pos (by omega)]; exact h0) p0 (by rw [List.getElem?_append_right (by omega), ht, List.getElem?_drop, Nat.sub_self, Nat.add_zero]; exact h1) p1 (by omega)⟩
theorem split_tail (g ps : Nat) (l : List UInt8) (k : Nat) : (splitL g ps l (k + 1)).drop 1 = splitL g (ps + 1) (l.drop 48) k := by
  unfold splitL
  rw [List.range_succ_eq_map, List.map_cons, List.drop_succ_cons, List.drop_zero, List.map_map]
  refine List.map_congr_left fun i hi => ?_
  simp only [Function.comp]
  rw [List.drop_drop, show ps + Nat.succ i = ps + 1 + i from by omega, show 48 * Nat.succ i = 48 + 48 * i from by omega]
theorem secN_sub (h : 2 ≤ secN n) : secN n = secN (n - 48) + 1 ∧ 48 < n := by
  have hn : 48 < n := by
    unfold secN at h
    split at h <;> omega
  refine ⟨?_, hn⟩
  unfold secN
  rw [if_neg (by omega), if_neg (by omega)]
  omega
theorem left_zero (h : 2 ≤ secN n) : leftB (splitL g 7 l (secN n)) 0 = splitL g 8 (l.drop 48) (secN (n - 48)) := by
  unfold leftB
  rw [List.take_zero, List.nil_append, (secN_sub h).1]
  exact split_tail g 7 l _
end
end Go.Proofs.Ytkemlpcfijfaeaa

/- Split and joined: the plain law of sectors. No program in sight. -/
import Derived.Test.YtkemlpcfijfaeaaSpj
namespace Go.Proofs.Ytkemlpcfijfaeaa
set_option linter.unusedVariables false

theorem mid_of {α : Type} {a b c : List α} {i j : Nat} (hi : a.length = i) (hj : b.length = j) : ((a ++ b ++ c).drop i).take j = b := by
  subst hi hj
  rw [List.append_assoc, List.drop_left, List.take_left]
section
variable (g ps : Nat) (l : List UInt8)
theorem fld_gen (hg : g < 18446744073709551616) : fld (packL g ps l) 0 8 = g := by
  unfold fld
  have e : packL g ps l = [] ++ highB g 8 ++ (highB ps 4 ++ highB l.length 2 ++ [0, 0] ++ l ++ List.replicate (48 - l.length) 0) := by simp [packL, stH]
  rw [e, mid_of (a := []) (i := 0) rfl (length_highB 8 g), numB_highB]
  exact Nat.mod_eq_of_lt hg
theorem fld_pos (hp : ps < 4294967296) : fld (packL g ps l) 8 4 = ps := by
  unfold fld
  have e : packL g ps l = highB g 8 ++ highB ps 4 ++ (highB l.length 2 ++ [0, 0] ++ l ++ List.replicate (48 - l.length) 0) := by simp [packL, stH]
  rw [e, mid_of (length_highB 8 g) (length_highB 4 ps), numB_highB]
  exact Nat.mod_eq_of_lt hp
theorem fld_fil (hl : l.length ≤ 48) : fld (packL g ps l) 12 2 = l.length := by
  unfold fld
  have e : packL g ps l = (highB g 8 ++ highB ps 4) ++ highB l.length 2 ++ ([0, 0] ++ l ++ List.replicate (48 - l.length) 0) := by simp [packL, stH]
  rw [e, mid_of (by simp [length_highB]) (length_highB 2 l.length), numB_highB]
  exact Nat.mod_eq_of_lt (by omega)
theorem payl_pack (hl : l.length ≤ 48) : paylS (packL g ps l) = l := by
  unfold paylS
  rw [fld_fil g ps l hl]
  have e : packL g ps l = (highB g 8 ++ highB ps 4 ++ highB l.length 2 ++ [0, 0]) ++ l ++ List.replicate (48 - l.length) 0 := by simp [packL, stH]
  rw [e, mid_of (by simp [length_highB]) rfl]
theorem okS_pack (h0 : g ≠ 0) (hg : g < 18446744073709551616) (hp : ps < 4294967296) (hl : l.length ≤ 48) : okS (packL g ps l) := by
  have h := payl_pack g ps l hl
  unfold paylS at h
  refine ⟨by rw [fld_gen g ps l hg]; exact h0, by rw [fld_fil g ps l hl]; exact hl, ?_⟩
  rw [h, fld_gen g ps l hg, fld_pos g ps l hp]
end
section
variable {g ps n : Nat} {l : List UInt8}
/-- Piece i of the bytes. -/
def pieceB (l : List UInt8) (i : Nat) : List UInt8 := (l.drop (48 * i)).take 48
theorem piece_le (l : List UInt8) (i : Nat) : (pieceB l i).length ≤ 48 := by unfold pieceB; rw [List.length_take]; omega
theorem splitL_get (g ps : Nat) (l : List UInt8) {k j : Nat} (h : j < k) : (splitL g ps l k)[j]? = some (packL g (ps + j) (pieceB l j)) := by
  unfold splitL pieceB
  rw [List.getElem?_map, List.getElem?_range h]; rfl
theorem splitL_head (g ps : Nat) (l : List UInt8) {k : Nat} (h : 0 < k) : (splitL g ps l k).headD [] = packL g ps (pieceB l 0) := by
  have := splitL_get g ps l h
  cases hs : splitL g ps l k with
  | nil => rw [hs] at this; simp at this
  | cons y L =>
    rw [hs] at this
    simp at this
    simpa using this
theorem piece_full (hl : l.length = n) {j : Nat} (h : j + 1 < secN n) : (pieceB l j).length = 48 := by
  have := (secN_lt (n := n) (k := j + 1) (by omega)).1 h
  unfold pieceB
  rw [List.length_take, List.length_drop]; omega
theorem split_good (h0 : g ≠ 0) (hg : g < 18446744073709551616) (hl : l.length = n) (hp : ps + secN n ≤ 4294967296) : ∀ j, j < secN n → GoodJ (splitL g ps l (secN n)) j := by
  intro j hj
  have hpos := secN_pos n
  refine ⟨_, splitL_get g ps l hj, okS_pack _ _ _ h0 hg (by omega) (piece_le l j), ?_, ?_, fun h => ?_⟩
  · unfold genJ
    rw [splitL_head g ps l hpos, fld_gen _ _ _ hg, fld_gen _ _ _ hg]
  · unfold posJ
    rw [splitL_head g ps l hpos, fld_pos _ _ _ (by omega), fld_pos _ _ _ (by omega)]
  · rw [splitL_length] at h
    rw [fld_fil _ _ _ (piece_le l j), piece_full hl h]
    exact Nat.le_refl _
theorem joinB_split (g ps : Nat) (l : List UInt8) (k : Nat) : ∀ j, j ≤ k → joinB (splitL g ps l k) j = l.take (48 * j)
  | 0, _ => by simp [joinB]
  | j + 1, h => by
    rw [joinB_snoc (splitL_get g ps l (by omega)), joinB_split g ps l k j (by omega), payl_pack _ _ _ (piece_le l j)]
    unfold pieceB
    rw [Nat.mul_add, Nat.mul_one, List.take_add]
theorem join_split (hl : l.length = n) : joinB (splitL g ps l (secN n)) (secN n) = l := by
  rw [joinB_split g ps l _ _ (Nat.le_refl _)]
  refine List.take_of_length_le ?_
  rw [hl]
  unfold secN
  split <;> omega
end
end Go.Proofs.Ytkemlpcfijfaeaa

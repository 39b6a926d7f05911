/- Plain facts on a filter's bits: eight bits a byte, the first one the highest; probes of a hash. No program in sight. -/
import Derived.Below
namespace Go.Proofs.Ytbncjacbggngiaa
set_option linter.unusedVariables false

/-- The step of a hash's probes. -/
def stp (h : Nat) : Nat := h / 8589934592 * 2 + 1
/-- The place of probe i. -/
def prb (h m i : Nat) : Nat := (h % 4294967296 + i * stp h) % 4294967296 % m
def prbs (h m : Nat) : List Nat := [prb h m 0, prb h m 1, prb h m 2, prb h m 3]
theorem prb_lt {h m i : Nat} (hm : 0 < m) : prb h m i < m := Nat.mod_lt _ hm
theorem prbs_lt {h m j : Nat} (hm : 0 < m) (hj : j ∈ prbs h m) : j < m := by
  simp only [prbs, List.mem_cons, List.not_mem_nil, or_false] at hj
  rcases hj with rfl | rfl | rfl | rfl <;> exact prb_lt hm

/-- The bits of a byte, the highest first. -/
def bit8 (x : UInt8) (k : Nat) : Bool := x.toNat.testBit (7 - k)
def bits8 (x : UInt8) : List Bool := [bit8 x 0, bit8 x 1, bit8 x 2, bit8 x 3, bit8 x 4, bit8 x 5, bit8 x 6, bit8 x 7]
def bitsL (l : List UInt8) : List Bool := l.flatMap bits8
theorem bitsL_nil : bitsL [] = [] := rfl
theorem bitsL_cons (x : UInt8) (l : List UInt8) : bitsL (x :: l) = bits8 x ++ bitsL l := rfl
theorem bitsL_append (a b : List UInt8) : bitsL (a ++ b) = bitsL a ++ bitsL b := by simp [bitsL]
theorem length_bitsL : ∀ l : List UInt8, (bitsL l).length = 8 * l.length
  | [] => rfl
  | x :: l => by rw [bitsL_cons, List.length_append, length_bitsL l]; simp [bits8]; omega
theorem bits8_get (x : UInt8) (k : Nat) (h : k < 8) : (bits8 x)[k]? = some (bit8 x k) := by
  rcases (by omega : k = 0 ∨ k = 1 ∨ k = 2 ∨ k = 3 ∨ k = 4 ∨ k = 5 ∨ k = 6 ∨ k = 7) with rfl | rfl | rfl | rfl | rfl | rfl | rfl | rfl <;> rfl
theorem bitsL_get : ∀ (l : List UInt8) (i : Nat) (x : UInt8), l[i / 8]? = some x → (bitsL l)[i]? = some (bit8 x (i % 8))
  | [], i, x, h => by simp at h
  | y :: l, i, x, h => by
    rw [bitsL_cons]
    by_cases hi : i < 8
    · rw [List.getElem?_append_left (by simpa [bits8] using hi)]
      have e0 : i / 8 = 0 := by omega
      have e1 : i % 8 = i := by omega
      rw [e0] at h
      obtain rfl : y = x := by simpa using h
      rw [e1]; exact bits8_get y i hi
    · rw [List.getElem?_append_right (by simp [bits8]; omega)]
      have e0 : i / 8 = (i - 8) / 8 + 1 := by omega
      have e1 : i % 8 = (i - 8) % 8 := by omega
      rw [e0, List.getElem?_cons_succ] at h
      have := bitsL_get l (i - 8) x h
      rw [e1]; simpa [bits8] using this
/-- Equal bits, equal bytes. -/
theorem byte_of_bits {x y : UInt8} (h : ∀ k, k < 8 → bit8 x k = bit8 y k) : x = y := by
  apply UInt8.toNat_inj.1
  apply Nat.eq_of_testBit_eq
  intro i
  by_cases hi : i < 8
  · have := h (7 - i) (by omega)
    unfold bit8 at this
    rwa [show 7 - (7 - i) = i from by omega] at this
  · have hp : 256 ≤ 2 ^ i := by
      have : (2 : Nat) ^ 8 ≤ 2 ^ i := Nat.pow_le_pow_right (by decide) (by omega)
      simpa using this
    rw [Nat.testBit_lt_two_pow (Nat.lt_of_lt_of_le x.toNat_lt hp), Nat.testBit_lt_two_pow (Nat.lt_of_lt_of_le y.toNat_lt hp)]
theorem bitsL_inj {a b : List UInt8} (hl : a.length = b.length) (h : bitsL a = bitsL b) : a = b := by
  apply List.ext_getElem hl
  intro i h1 h2
  refine byte_of_bits fun k hk => ?_
  have ha := bitsL_get a (8 * i + k) a[i] (by rw [show (8 * i + k) / 8 = i from by omega]; exact List.getElem?_eq_getElem h1)
  have hb := bitsL_get b (8 * i + k) b[i] (by rw [show (8 * i + k) / 8 = i from by omega]; exact List.getElem?_eq_getElem h2)
  rw [h, hb, show (8 * i + k) % 8 = k from by omega] at ha
  exact (Option.some.inj ha).symm

/-- The byte with bit k alone. -/
def one8 (k : Nat) : Nat := 2 ^ (7 - k)
/-- A bit is set. -/
def setB (l : List UInt8) (i : Nat) : List UInt8 := l.set (i / 8) (UInt8.ofNat ((l.getD (i / 8) 0).toNat ||| one8 (i % 8)))
theorem length_setB (l : List UInt8) (i : Nat) : (setB l i).length = l.length := by simp [setB]
theorem setB_of {l : List UInt8} {i : Nat} {x : UInt8} (h : l[i / 8]? = some x) : setB l i = l.set (i / 8) (UInt8.ofNat (x.toNat ||| one8 (i % 8))) := by
  unfold setB; rw [List.getD_eq_getElem?_getD, h]; rfl
theorem bit8_or (x : UInt8) (k j : Nat) (hk : k < 8) (hj : j < 8) : bit8 (UInt8.ofNat (x.toNat ||| one8 k)) j = (bit8 x j || decide (k = j)) := by
  unfold bit8 one8
  have hlt : x.toNat ||| 2 ^ (7 - k) < 2 ^ 8 := Nat.or_lt_two_pow x.toNat_lt (Nat.pow_lt_pow_right (by decide) (by omega))
  have e : (UInt8.ofNat (x.toNat ||| 2 ^ (7 - k))).toNat = x.toNat ||| 2 ^ (7 - k) := by
    rw [UInt8.toNat_ofNat']; exact Nat.mod_eq_of_lt hlt
  rw [e, Nat.testBit_or, Nat.testBit_two_pow]
  congr 1
  rw [decide_eq_decide]; omega
theorem bitsL_setB {l : List UInt8} {i : Nat} (hi : i < 8 * l.length) : bitsL (setB l i) = (bitsL l).set i true := by
  apply List.ext_getElem?
  intro j
  by_cases hj : j < 8 * l.length
  · have hx := List.getElem?_eq_getElem (l := l) (i := i / 8) (by omega)
    have hy := List.getElem?_eq_getElem (l := l) (i := j / 8) (by omega)
    rw [setB_of hx, List.getElem?_set]
    rw [length_bitsL]
    by_cases he : i / 8 = j / 8
    · have h1 : (l.set (i / 8) (UInt8.ofNat (l[i / 8].toNat ||| one8 (i % 8))))[j / 8]? = some (UInt8.ofNat (l[i / 8].toNat ||| one8 (i % 8))) := by
        rw [← he]; exact List.getElem?_set_self (by omega)
      rw [bitsL_get _ _ _ h1, bit8_or _ _ _ (by omega) (by omega)]
      have h2 := bitsL_get l j _ hy
      simp only [← he] at h2
      by_cases hij : i = j
      · subst hij; simp [hj]
      · rw [if_neg hij, h2]; simp; omega
    · have h1 : (l.set (i / 8) (UInt8.ofNat (l[i / 8].toNat ||| one8 (i % 8))))[j / 8]? = some l[j / 8] := by
        rw [List.getElem?_set_ne he]; exact hy
      rw [bitsL_get _ _ _ h1, bitsL_get _ _ _ hy, if_neg (by intro e; exact he (by rw [e]))]
  · rw [List.getElem?_eq_none (by rw [length_bitsL, length_setB]; omega), List.getElem?_eq_none (by rw [List.length_set, length_bitsL]; omega)]

/-- All of some bits are set. -/
def setsB (l : List UInt8) (ps : List Nat) : List UInt8 := ps.foldl setB l
theorem length_setsB : ∀ (ps : List Nat) (l : List UInt8), (setsB l ps).length = l.length
  | [], _ => rfl
  | p :: ps, l => by unfold setsB; rw [List.foldl_cons]; exact (length_setsB ps _).trans (length_setB l p)
def setsL (L : List Bool) (ps : List Nat) : List Bool := ps.foldl (fun L p => L.set p true) L
theorem length_setsL : ∀ (ps : List Nat) (L : List Bool), (setsL L ps).length = L.length
  | [], _ => rfl
  | p :: ps, L => by unfold setsL; rw [List.foldl_cons]; exact (length_setsL ps _).trans (List.length_set ..)
theorem bitsL_setsB : ∀ (ps : List Nat) (l : List UInt8), (∀ p ∈ ps, p < 8 * l.length) → bitsL (setsB l ps) = setsL (bitsL l) ps
  | [], _, _ => rfl
  | p :: ps, l, h => by
    unfold setsB setsL
    rw [List.foldl_cons, List.foldl_cons]
    have := bitsL_setsB ps (setB l p) (fun q hq => by rw [length_setB]; exact h q (List.mem_cons_of_mem _ hq))
    unfold setsB setsL at this
    rw [this, bitsL_setB (h p List.mem_cons_self)]
theorem setsB_snoc (l : List UInt8) (ps : List Nat) (p : Nat) : setsB l (ps ++ [p]) = setB (setsB l ps) p := by simp [setsB]
theorem setsL_snoc (l : List Bool) (ps : List Nat) (p : Nat) : setsL l (ps ++ [p]) = (setsL l ps).set p true := by simp [setsL]
theorem setsL_get : ∀ (ps : List Nat) (L : List Bool) (i : Nat) (hi : i < L.length), (setsL L ps)[i]? = some (L[i] || decide (i ∈ ps))
  | [], L, i, hi => by simp [setsL, hi]
  | p :: ps, L, i, hi => by
    unfold setsL
    rw [List.foldl_cons]
    have := setsL_get ps (L.set p true) i (by simpa using hi)
    unfold setsL at this
    rw [this, List.getElem_set]
    by_cases hp : p = i
    · subst hp; simp
    · rw [if_neg hp]
      have : decide (i ∈ p :: ps) = decide (i ∈ ps) := by
        rw [decide_eq_decide, List.mem_cons]; exact ⟨fun h => h.resolve_left (fun e => hp e.symm), Or.inr⟩
      rw [this]
/-- Are all of some bits set? -/
def allL (L : List Bool) (ps : List Nat) : Bool := ps.all fun p => L.getD p false

/-- How many bits of a byte are set. -/
def pc8 (x : UInt8) : Nat := ((bits8 x).filter id).length
theorem pc8_zero : pc8 0 = 0 := by decide
theorem pc8_step_all : ∀ x : Fin 256, x.val ≠ 0 → pc8 (UInt8.ofNat (x.val &&& (x.val - 1))) + 1 = pc8 (UInt8.ofNat x.val) := by decide +kernel
theorem and_pred_lt_all : ∀ x : Fin 256, x.val ≠ 0 → (x.val &&& (x.val - 1)) < x.val := by decide +kernel
theorem pc8_step {x : Nat} (h : x < 256) (h0 : x ≠ 0) : pc8 (UInt8.ofNat (x &&& (x - 1))) + 1 = pc8 (UInt8.ofNat x) := pc8_step_all ⟨x, h⟩ h0
theorem and_pred_lt {x : Nat} (h : x < 256) (h0 : x ≠ 0) : (x &&& (x - 1)) < x := and_pred_lt_all ⟨x, h⟩ h0
def cntL (L : List Bool) : Nat := (L.filter id).length
theorem cntL_append (a b : List Bool) : cntL (a ++ b) = cntL a + cntL b := by simp [cntL]
theorem cntL_le (a : List Bool) : cntL a ≤ a.length := List.length_filter_le _ _
def cntB (l : List UInt8) : Nat := (l.map pc8).sum
theorem cntB_append (a b : List UInt8) : cntB (a ++ b) = cntB a + cntB b := by simp [cntB]
theorem cntB_eq : ∀ l : List UInt8, cntB l = cntL (bitsL l)
  | [] => rfl
  | x :: l => by rw [bitsL_cons, cntL_append, ← cntB_eq l]; rfl
/-- A byte of eight bits. -/
def byte8 (b : List Bool) : Nat := b.foldl (fun x y => 2 * x + y.toNat) 0
theorem byte8_all : ∀ x : Fin 256, byte8 (bits8 (UInt8.ofNat x.val)) = x.val := by decide +kernel
theorem byte8_bits8 (x : UInt8) : byte8 (bits8 x) = x.toNat := by
  have := byte8_all ⟨x.toNat, x.toNat_lt⟩
  simpa using this
/-- Bits joined. -/
def orBs (a b : List UInt8) : List UInt8 := List.zipWith (fun x y => UInt8.ofNat (x.toNat ||| y.toNat)) a b
def orLs (a b : List Bool) : List Bool := List.zipWith (· || ·) a b
theorem ofNat_or (x y : UInt8) : (UInt8.ofNat (x.toNat ||| y.toNat)).toNat = x.toNat ||| y.toNat := by
  have : x.toNat ||| y.toNat < 2 ^ 8 := Nat.or_lt_two_pow x.toNat_lt y.toNat_lt
  rw [UInt8.toNat_ofNat']; exact Nat.mod_eq_of_lt this
theorem bits8_or (x y : UInt8) : bits8 (UInt8.ofNat (x.toNat ||| y.toNat)) = List.zipWith (· || ·) (bits8 x) (bits8 y) := by
  unfold bits8 bit8
  rw [ofNat_or]
  simp only [Nat.testBit_or]
  rfl
theorem bitsL_orBs : ∀ (a b : List UInt8), a.length = b.length → bitsL (orBs a b) = orLs (bitsL a) (bitsL b)
  | [], [], _ => rfl
  | x :: a, y :: b, h => by
    have ih := bitsL_orBs a b (by simpa using h)
    unfold orBs orLs at *
    rw [List.zipWith_cons_cons, bitsL_cons, bitsL_cons, bitsL_cons, ih, bits8_or, List.zipWith_append (by simp [bits8])]
  | [], _ :: _, h => by simp at h
  | _ :: _, [], h => by simp at h
theorem length_orBs {a b : List UInt8} (h : a.length = b.length) : (orBs a b).length = a.length := by simp [orBs, h]
end Go.Proofs.Ytbncjacbggngiaa

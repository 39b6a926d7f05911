/- Plain facts on hashes' probes, and the short contracts of icehouseref04.Right. Conditions: typed in each theorem. -/
import Derived.Test.YtbncjacbggngiaaBlt
namespace Go.Proofs.Ytbncjacbggngiaa
set_option linter.unusedVariables false
open Go.ChangeShapes Go.WideShapes Go.ChangeAt Go.RowKit

theorem Rv.pre {w : World} {B n c m : Nat} {A : Option Addr} {xs : List Value} (h : Rv w B A n c xs) (hm : m ≤ n) : Rv w B A m c (xs.take m) := by
  obtain ⟨h1, h2, h3, h4, h5, h6⟩ := h
  refine ⟨by rw [List.length_take]; omega, by omega, h3, h4, fun ad hA hm0 => h5 ad hA (by omega), fun ad i u hA hu => ?_⟩
  rw [List.getElem?_take] at hu
  split at hu
  · exact h6 ad i u hA hu
  · cases hu
theorem cus_take (k : IntKind) (l : List Nat) (m : Nat) : (cus k l).take m = cus k (l.take m) := by simp [cus, List.map_take]
theorem cus_get {k : IntKind} {l : List Nat} {j : Nat} {u : Value} (h : (cus k l)[j]? = some u) : ∃ p, l[j]? = some p ∧ u = .int k (p : Int) := by
  unfold cus at h
  rw [List.getElem?_map] at h
  obtain ⟨p, hp, rfl⟩ := Option.map_eq_some_iff.1 h
  exact ⟨p, hp, rfl⟩
theorem cus_length (k : IntKind) (l : List Nat) : (cus k l).length = l.length := by simp [cus]

/-- All probes of some hashes. -/
def allP (M : Nat) (hs : List Nat) : List Nat := hs.flatMap fun h => prbs h M
theorem allP_append (M : Nat) (a b : List Nat) : allP M (a ++ b) = allP M a ++ allP M b := by simp [allP]
theorem allP_snoc (M : Nat) (a : List Nat) (h : Nat) : allP M (a ++ [h]) = allP M a ++ prbs h M := by simp [allP]
theorem setsB_append (l : List UInt8) (a b : List Nat) : setsB l (a ++ b) = setsB (setsB l a) b := by simp [setsB]
theorem allP_lt {M : Nat} {hs : List Nat} {p : Nat} (hM : 0 < M) (hp : p ∈ allP M hs) : p < M := by
  unfold allP at hp
  obtain ⟨h, _, hq⟩ := List.mem_flatMap.1 hp
  exact prbs_lt hM hq
theorem sets_same {l : List UInt8} {a b : List Nat} (hl : 0 < l.length) (h : ∀ h, h ∈ a ↔ h ∈ b) : setsB l (allP (8 * l.length) a) = setsB l (allP (8 * l.length) b) := by
  refine bitsL_inj (by rw [length_setsB, length_setsB]) ?_
  rw [bitsL_setsB _ _ fun p hp => allP_lt (by omega) hp, bitsL_setsB _ _ fun p hp => allP_lt (by omega) hp]
  apply List.ext_getElem?
  intro i
  by_cases hi : i < (bitsL l).length
  · rw [setsL_get _ _ _ hi, setsL_get _ _ _ hi]
    congr 2
    rw [decide_eq_decide]
    unfold allP
    rw [List.mem_flatMap, List.mem_flatMap]
    exact ⟨fun ⟨x, hx, hp⟩ => ⟨x, (h x).1 hx, hp⟩, fun ⟨x, hx, hp⟩ => ⟨x, (h x).2 hx, hp⟩⟩
  · rw [List.getElem?_eq_none (by rw [length_setsL]; omega), List.getElem?_eq_none (by rw [length_setsL]; omega)]
/-- The hashes as the second filter gets them. -/
def gl (L : List Nat) (t : Nat) (j : Nat) : List Nat := (List.range j).flatMap fun i => [L.getD ((i + t) % L.length) 0, L.getD ((i + t) % L.length) 0]
theorem gl_succ (L : List Nat) (t j : Nat) : gl L t (j + 1) = gl L t j ++ [L.getD ((j + t) % L.length) 0] ++ [L.getD ((j + t) % L.length) 0] := by
  unfold gl; rw [List.range_succ, List.flatMap_append]; simp
theorem mem_gl {L : List Nat} {t : Nat} (ht : t < L.length) (h : Nat) : h ∈ L ↔ h ∈ gl L t L.length := by
  unfold gl
  rw [List.mem_flatMap]
  constructor
  · intro hm
    obtain ⟨i, hi, rfl⟩ := List.getElem_of_mem hm
    refine ⟨(i + (L.length - t)) % L.length, List.mem_range.2 (Nat.mod_lt _ (by omega)), ?_⟩
    have e : ((i + (L.length - t)) % L.length + t) % L.length = i := by
      rw [Nat.mod_add_mod, show i + (L.length - t) + t = i + L.length from by omega, Nat.add_mod_right, Nat.mod_eq_of_lt hi]
    rw [e, List.getD_eq_getElem?_getD, List.getElem?_eq_getElem hi]
    simp
  · rintro ⟨j, hj, hx⟩
    have hlt : (j + t) % L.length < L.length := Nat.mod_lt _ (by omega)
    rw [List.getD_eq_getElem?_getD, List.getElem?_eq_getElem hlt] at hx
    simp at hx
    rw [hx]
    exact List.getElem_mem hlt
theorem setsB_add {l : List UInt8} {M h : Nat} {hs : List Nat} : setsB (setsB l (allP M hs)) (prbs h M) = setsB l (allP M (hs ++ [h])) := by
  rw [allP_snoc, setsB_append]

theorem right04_yes (b : Int) (h1 : 8 ≤ b) (h2 : b ≤ 65536) (h3 : b % 8 = 0) (w : World) :
    Calls Try.prog 12 #[.int .i64 b] w fun e w' => e = .returned (.bool true) ∧ w = w' := by
  have t : (b % 8 == 0) = true := by rw [beq_iff_eq]; exact h3
  clear h3
  go_enter Try.func12, Try.ntmps12
  go_wp2
  go_ret
  exact ⟨rfl, rfl⟩
theorem right04_no (b : Int) (h : b < 8 ∨ 65536 < b ∨ b % 8 ≠ 0) (w : World) :
    Calls Try.prog 12 #[.int .i64 b] w fun e w' => e = .returned (.bool false) ∧ w = w' := by
  by_cases h1 : b < 8
  · clear h
    go_enter Try.func12, Try.ntmps12
    go_wp2
    go_ret
    exact ⟨rfl, rfl⟩
  by_cases h2 : 65536 < b
  · clear h
    go_enter Try.func12, Try.ntmps12
    go_wp2
    go_ret
    exact ⟨rfl, rfl⟩
  have t : (b % 8 == 0) = false := by rw [beq_eq_false_iff_ne]; omega
  clear h
  go_enter Try.func12, Try.ntmps12
  go_wp2
  go_ret
  exact ⟨rfl, rfl⟩

theorem bitsL_zero : ∀ n : Nat, bitsL (List.replicate n 0) = List.replicate (8 * n) false
  | 0 => rfl
  | n + 1 => by
    rw [List.replicate_succ, bitsL_cons, bitsL_zero n, show bits8 0 = List.replicate 8 false from by decide, List.replicate_append_replicate]
    congr 1; omega
theorem allL_sets {L : List Bool} {ps : List Nat} (h : ∀ p ∈ ps, p < L.length) : allL (setsL L ps) ps = true := by
  unfold allL
  rw [List.all_eq_true]
  intro p hp
  rw [List.getD_eq_getElem?_getD, setsL_get ps L p (h p hp)]
  simp [hp]
theorem cntB_zero (n : Nat) : cntB (List.replicate n 0) = 0 := by
  rw [cntB_eq, bitsL_zero]; simp [cntL]
theorem sets_bits (l : List UInt8) (h : Nat) (hl : 1 ≤ l.length) : bitsL (setsB l (prbs h (8 * l.length))) = setsL (bitsL l) (prbs h (8 * l.length)) :=
  bitsL_setsB _ _ fun p hp => prbs_lt (by omega) hp
theorem eqNat {a b : Nat} (h : a = b) : ((a : Int) == (b : Int)) = true := by rw [beq_iff_eq, h]
theorem rv_mkB {w : World} {B g m : Nat} (h : w.ownsRow B 4 1 (.slice (some ⟨g, 0, none⟩) m m) m (madeCells (Value.bool false).cells (m * 1)).toList) : Rv w w.heap.size (some ⟨g, 0, none⟩) m m (bls (List.replicate m false)) := by
  have e : (madeCells (Value.bool false).cells (m * 1)).toList = bls (List.replicate m false) := by
    apply List.ext_getElem
    · simp [madeCells, bls]
    · intro i h3 h4
      simp [madeCells, bls, Value.cells, Nat.mod_one]
  rw [e] at h
  exact Ov.rv h
end Go.Proofs.Ytbncjacbggngiaa

/- stamp.Sectors, stamp.Split, and the document's. Conditions: typed in each theorem. -/
import Derived.Test.YtkemlpcfijfaeaaStd
import Derived.Test.YtkemlpcfijfaeaaRow
namespace Go.Proofs.Ytkemlpcfijfaeaa
set_option linter.unusedVariables false
open Go.RowKit

/-- How many sectors bytes fill. -/
def secN (n : Nat) : Nat := if n = 0 then 1 else (n - 1) / 48 + 1
theorem secN_pos (n : Nat) : 1 ≤ secN n := by unfold secN; split <;> omega
theorem secN_le (n : Nat) : secN n ≤ n / 48 + 1 := by unfold secN; split <;> omega
theorem secN_lt {n k : Nat} (hk : 1 ≤ k) : k < secN n ↔ k * 48 < n := by unfold secN; split <;> omega
theorem secN_last {n k : Nat} (hk : k < secN n) : 48 * k ≤ n := by unfold secN at hk; split at hk <;> omega
/-- The sectors of bytes: the first k of them. -/
def splitL (g ps : Nat) (l : List UInt8) (k : Nat) : List (List UInt8) := (List.range k).map fun i => packL g (ps + i) ((l.drop (48 * i)).take 48)
theorem splitL_length (g ps : Nat) (l : List UInt8) (k : Nat) : (splitL g ps l k).length = k := by simp [splitL]
theorem splitL_snoc (g ps : Nat) (l : List UInt8) (k : Nat) : splitL g ps l (k + 1) = splitL g ps l k ++ [packL g (ps + k) ((l.drop (48 * k)).take 48)] := by
  simp [splitL, List.range_succ]
theorem splitL_64 (g ps : Nat) (l : List UInt8) (k : Nat) : ∀ x ∈ splitL g ps l k, x.length = 64 := by
  intro x hx
  obtain ⟨i, _, rfl⟩ := List.mem_map.1 hx
  exact packL_length _ _ _ (by rw [List.length_take]; omega)
/-- Sectors as cells. -/
def cbb (L : List (List UInt8)) : List Value := cbs L.flatten
theorem cbb_snoc (L : List (List UInt8)) (x : List UInt8) : cbb (L ++ [x]) = cbb L ++ cbs x := by simp [cbb, cbs]
theorem blkinfo : (Try.prog.info? 47).map (fun i => (i.size, i.bytes)) = some (64, 64) := by kernel_rfl
theorem blkzero : ((Try.prog.info? 47).bind (·.zero)).map (·.cells.size) = some 64 := by kernel_rfl
theorem blk_parts : ∃ (i : TypeInfo) (z : Value), Try.prog.info? 47 = some i ∧ i.zero = some z ∧ i.size = 64 ∧ i.bytes = 64 ∧ z.cells.size = 64 := by
  have h1 := blkinfo
  have h2 := blkzero
  cases hi : Try.prog.info? 47 with
  | none => rw [hi] at h1; cases h1
  | some i =>
    rw [hi] at h1 h2
    simp only [Option.map_some, Option.some.injEq, Prod.mk.injEq, Option.bind_some] at h1 h2
    cases hz : i.zero with
    | none => rw [hz] at h2; cases h2
    | some z =>
      rw [hz] at h2
      simp only [Option.map_some, Option.some.injEq] at h2
      exact ⟨i, z, rfl, hz, h1.1, h1.2, h2⟩
theorem cells_ar (l : List UInt8) : (Value.agg (ar l)).cells = ar l := rfl
/-- A slice literal of one sector. -/
theorem wpl_bsA (w : World) {ops : Array Oper} {rest : List Oper} {o : Oper} {a : Act} {Q : Exit → Act → World → Prop} (hg : o.guard = none) (x : Operand) (ho : o.op = .buildSlice 30 1 #[(0, x)]) (l : List UInt8) (hx : a.eval x = .agg (ar l)) (hl : l.length = 64)
    (h : wpList Try.prog ops Q rest (a.put o.dst (.slice (some ⟨w.heap.size, 0, none⟩) 1 1)) (w.alloc (.cells (ar l) 47))) : wpList Try.prog ops Q (o :: rest) a w := by
  obtain ⟨i, z, hi, hz, hs, _, _⟩ := blk_parts
  exact wpList_bs1 hg _ x ho 47 i z (.agg (ar l)) 64 hx Try.underlying30 hi hz hs (by rw [cells_ar]; exact sz_ar hl) (by omega) (by decide) h
theorem one_of_ar (l : List UInt8) : ∀ u ∈ cbs l, u.oneCell' = true := cbs_one l
/-- Owned sectors. -/
def OwB (w : World) (B : Nat) (A : Option Addr) (n c : Nat) (L : List (List UInt8)) : Prop := Oz w B 47 64 A n c (cbb L)
def RdB (w : World) (B : Nat) (A : Option Addr) (n c : Nat) (L : List (List UInt8)) : Prop := Rz w B 64 A n c (cbb L)
theorem OwB.rdB {w : World} {B n c : Nat} {A : Option Addr} {L : List (List UInt8)} (h : OwB w B A n c L) : RdB w w.heap.size A n c L := Oz.rz h
/-- append of sectors -/
theorem wpl_appA (w : World) {ops : Array Oper} {rest : List Oper} {o : Oper} {a : Act} {Q : Exit → Act → World → Prop}
    (hg : Region.wanted o (yielded ops a.tmps) = true) (s x : Operand) (hop : o.op = Op.call { callee := Callee.builtin Builtin.append, args := #[s, x], argTypes := #[30, 30] })
    (B : Nat) (A : Option Addr) (n c : Nat) (L : List (List UInt8)) (hs : a.eval s = .slice A n c) (hown : OwB w B A n c L)
    (B2 : Nat) (A2 : Option Addr) (m c2 : Nat) (M : List (List UInt8)) (hx : a.eval x = .slice A2 m c2) (hr : RdB w B2 A2 m c2 M)
    (hbytes : n + m ≤ 2000000000000) (hbase : B ≤ w.heap.size)
    (hK : ∀ A' c' w', OwB w' B A' (n + m) c' (L ++ M) → Below B w w' → wpList Try.prog ops Q rest (a.put o.dst (.slice A' (n + m) c')) w') :
    wpList Try.prog ops Q (o :: rest) a w := by
  obtain ⟨i, z, hi, hz, hsz, hby, hzs⟩ := blk_parts
  refine wpList_appz w hg s x _ hop B 47 i z 64 64 Try.underlying30 hi hz hsz hby hzs (by omega) A n c (cbb L) hs hown B2 A2 m c2 (cbb M) hx hr (fun u hu => cbs_one _ u hu) (by unfold maxLen; omega) (by omega) hbase ?_
  intro A' c' w' h1 h2
  refine hK A' c' w' ?_ h2
  unfold OwB
  rw [show cbb (L ++ M) = cbb L ++ cbb M from by simp [cbb, cbs]]
  exact h1
theorem rdB_new (w : World) (l : List UInt8) (hl : l.length = 64) : RdB (w.alloc (.cells (ar l) 47)) (w.heap.size + 1) (some ⟨w.heap.size, 0, none⟩) 1 1 [l] := by
  have := Rz.new1 w (ar l) 47 64 (sz_ar hl)
  unfold RdB
  rw [show cbb [l] = (ar l).toList from by simp [cbb, ar]]
  exact this

set_option maxHeartbeats 400000 in
theorem sectors_nat (n : Nat) (hn : n ≤ 140737488355328) (w : World) :
    Calls Try.prog 17 #[.int .i64 (n : Nat)] w fun e w' => e = .returned (.int .i64 (secN n : Nat)) ∧ w = w' := by
  by_cases h0 : n = 0
  · subst h0
    go_enter Try.func17, Try.ntmps17
    go_wp2_with fail
    go_ret
    exact ⟨rfl, rfl⟩
  · have t0 : ((n : Int) == 0) = false := by rw [beq_eq_false_iff_ne]; omega
    have t1 : ((n : Int) < 0) = False := by simp
    have hs : ((secN n : Nat) : Int) = ((n : Int) - 1) / 48 + 1 := by unfold secN; rw [if_neg h0]; omega
    have HS := Lib.hid hs
    clear hs
    have a1 : (0 : Int) ≤ (n : Int) - 1 := by omega
    go_enter Try.func17, Try.ntmps17
    go_wp2_with fail
    go_ret
    exact ⟨by rw [HS.out]; rfl, rfl⟩
set_option maxHeartbeats 400000 in
theorem sectors_neg (x : Int) (hx : x < 0) (w : World) :
    Calls Try.prog 17 #[.int .i64 x] w fun e w' => e = .returned (.int .i64 0) ∧ w = w' := by
  go_enter Try.func17, Try.ntmps17
  go_wp2_with fail
  go_ret
  exact ⟨rfl, rfl⟩
set_option maxHeartbeats 400000 in
theorem rsectors_any (n : Nat) (hn : n ≤ 140737488355328) (w : World) :
    Calls Try.prog 16 #[.int .i64 (n : Nat)] w fun e w' => e = .returned (.int .i64 (secN n : Nat)) ∧ w = w' := by
  have hle := secN_le n
  go_enter Try.func16, Try.ntmps16
  go_wp2_with fail
  go_loop [3] (fun x => ∃ k : Nat, 1 ≤ k ∧ k ≤ secN n ∧ x = .int .i64 k) (fun x => secN n - (intOf x).toNat)
  case atStart => exact ⟨1, by omega, secN_pos n, rfl⟩
  case round =>
    obtain ⟨k, hk1, hk2, rfl⟩ := hrel
    by_cases hlt : k < secN n
    · have h48 : (k : Int) * 48 < (n : Int) := by have := (secN_lt hk1).1 hlt; omega
      go_wp2_with fail
      go_round
      case rel => exact ⟨k + 1, by omega, by omega, by go_num⟩
      case measure => simp [intOf]; omega
    · have h48 : ¬ (k : Int) * 48 < (n : Int) := by have := (secN_lt (n := n) hk1); omega
      go_wp2_with fail
      go_ret
      obtain rfl : k = secN n := by omega
      exact ⟨rfl, rfl⟩
end Go.Proofs.Ytkemlpcfijfaeaa

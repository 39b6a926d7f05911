/- Which records may be and how many sectors they fill; an item's charge; the bound of segments. Conditions: typed in each theorem. -/
import Derived.Test.YtbofnmlddpbfeaaOctb
namespace Go.Proofs.Ytbofnmlddpbfeaa
set_option linter.unusedVariables false
open Go.RowKit

theorem eq0 {x : Nat} {c : Int} (h : (x : Int) = c) : ((x : Int) == c) = true := by rw [beq_iff_eq]; exact h
theorem ne0 {x : Nat} {c : Int} (h : (x : Int) ≠ c) : ((x : Int) == c) = false := by rw [beq_eq_false_iff_ne]; exact h
theorem eqI {x c : Int} (h : x = c) : (x == c) = true := by rw [beq_iff_eq]; exact h
theorem neI {x c : Int} (h : x ≠ c) : (x == c) = false := by rw [beq_eq_false_iff_ne]; exact h

theorem ret_bool {a b : Bool} (h : a = b) : Ending.returned (.bool a) = .returned (.bool b) := by rw [h]
theorem ret_int {k : IntKind} {a b : Int} (h : a = b) : Ending.returned (.int k a) = .returned (.int k b) := by rw [h]

/-- May a record be, of such a head, whose key and value have so many bytes? -/
def rightR (kind : Int) (fl ex sq k v : Nat) : Bool :=
  decide (sq ≠ 0 ∧ 1 ≤ k ∧ k ≤ 250 ∧ v ≤ 512 ∧ (kind = 1 ∨ kind = 2 ∧ fl = 0 ∧ ex = 0 ∧ v = 0))

/-- A record's cells. -/
def recV (kind : Int) (fl ex sq : Nat) (K V : Value) : Value := .agg #[.int .i64 kind, .int .u32 (fl : Int), .int .u32 (ex : Int), .int .u64 (sq : Int), K, V]

set_option maxHeartbeats 1000000 in
theorem right_any (kind : Int) (fl ex sq k v : Nat) (AK AV : Option Addr) (nk ck nv cv : Nat) (w : World) :
    Calls Try.prog 53 #[recV kind fl ex sq (.slice AK nk ck) (.slice AV nv cv), .int .i64 k, .int .i64 v] w fun e w' => e = .returned (.bool (rightR kind fl ex sq k v)) ∧ Below w.heap.size w w' := by
  unfold recV
  by_cases h1 : sq = 0
  · have b1 := eq0 (x := sq) (c := 0) (by omega)
    have hr : rightR kind fl ex sq k v = false := by unfold rightR; exact decide_eq_false (by omega)
    rw [hr]
    go_enter Try.func53, Try.ntmps53
    go_wp2
    go_ret
    exact ⟨rfl, (Below.refl _ _).alloc (Nat.le_refl _) _⟩
  have b1 := ne0 (x := sq) (c := 0) (by omega)
  by_cases h2 : k < 1
  · have hr : rightR kind fl ex sq k v = false := by unfold rightR; exact decide_eq_false (by omega)
    rw [hr]
    go_enter Try.func53, Try.ntmps53
    go_wp2
    go_ret
    exact ⟨rfl, (Below.refl _ _).alloc (Nat.le_refl _) _⟩
  by_cases h3 : 250 < k
  · have hr : rightR kind fl ex sq k v = false := by unfold rightR; exact decide_eq_false (by omega)
    rw [hr]
    go_enter Try.func53, Try.ntmps53
    go_wp2
    go_ret
    exact ⟨rfl, (Below.refl _ _).alloc (Nat.le_refl _) _⟩
  by_cases h4 : 512 < v
  · have hr : rightR kind fl ex sq k v = false := by unfold rightR; exact decide_eq_false (by omega)
    rw [hr]
    go_enter Try.func53, Try.ntmps53
    go_wp2
    go_ret
    exact ⟨rfl, (Below.refl _ _).alloc (Nat.le_refl _) _⟩
  by_cases h5 : kind = 1
  · have hr : rightR kind fl ex sq k v = true := by unfold rightR; exact decide_eq_true (by omega)
    rw [hr]
    subst h5
    go_enter Try.func53, Try.ntmps53
    go_wp2
    go_ret
    exact ⟨rfl, (Below.refl _ _).alloc (Nat.le_refl _) _⟩
  have b5 := neI h5
  by_cases h6 : kind ≠ 2
  · have hr : rightR kind fl ex sq k v = false := by unfold rightR; exact decide_eq_false (by omega)
    rw [hr]
    have b6 := neI h6
    go_enter Try.func53, Try.ntmps53
    go_wp2
    go_ret
    exact ⟨rfl, (Below.refl _ _).alloc (Nat.le_refl _) _⟩
  have h6 : kind = 2 := by omega
  subst h6
  by_cases h7 : fl ≠ 0
  · have hr : rightR 2 fl ex sq k v = false := by unfold rightR; exact decide_eq_false (by omega)
    rw [hr]
    have b7 := ne0 (x := fl) (c := 0) (by omega)
    go_enter Try.func53, Try.ntmps53
    go_wp2
    go_ret
    exact ⟨rfl, (Below.refl _ _).alloc (Nat.le_refl _) _⟩
  have b7 := eq0 (x := fl) (c := 0) (by omega)
  by_cases h8 : ex ≠ 0
  · have hr : rightR 2 fl ex sq k v = false := by unfold rightR; exact decide_eq_false (by omega)
    rw [hr]
    have b8 := ne0 (x := ex) (c := 0) (by omega)
    go_enter Try.func53, Try.ntmps53
    go_wp2
    go_ret
    exact ⟨rfl, (Below.refl _ _).alloc (Nat.le_refl _) _⟩
  have b8 := eq0 (x := ex) (c := 0) (by omega)
  by_cases h9 : v ≠ 0
  · have hr : rightR 2 fl ex sq k v = false := by unfold rightR; exact decide_eq_false (by omega)
    rw [hr]
    have b9 := ne0 (x := v) (c := 0) (by omega)
    go_enter Try.func53, Try.ntmps53
    go_wp2
    go_ret
    exact ⟨rfl, (Below.refl _ _).alloc (Nat.le_refl _) _⟩
  have b9 := eq0 (x := v) (c := 0) (by omega)
  have hr : rightR 2 fl ex sq k v = true := by unfold rightR; exact decide_eq_true (by omega)
  rw [hr]
  go_enter Try.func53, Try.ntmps53
  go_wp2
  go_ret
  exact ⟨rfl, (Below.refl _ _).alloc (Nat.le_refl _) _⟩

/-- What Check answers. -/
def checkR (kind : Int) (fl ex sq k v : Nat) : Int := if rightR kind fl ex sq k v then 0 else 160
set_option maxHeartbeats 1000000 in
theorem check_any (kind : Int) (fl ex sq : Nat) (AK AV : Option Addr) (nk ck nv cv : Nat) (w : World) :
    Calls Try.prog 52 #[recV kind fl ex sq (.slice AK nk ck) (.slice AV nv cv)] w fun e w' => e = .returned (.int .i64 (checkR kind fl ex sq nk nv)) ∧ Below w.heap.size w w' := by
  have hc := right_any kind fl ex sq nk nv AK AV nk ck nv cv
  unfold recV at hc
  unfold recV
  go_enter Try.func52, Try.ntmps52
  go_wp2_with fail
  refine (hc _).mono ?_
  rintro e w1 ⟨rfl, b1⟩
  have b := ((Below.refl w.heap.size w).alloc (Nat.le_refl _) _).trans (b1.mono (by simp))
  clear hc b1
  cases hr : rightR kind fl ex sq nk nv
  · have HF := Lib.hid (show checkR kind fl ex sq nk nv = 160 from by unfold checkR; rw [hr]; rfl)
    clear hr
    go_wp2_with fail
    go_ret
    exact ⟨by rw [HF.out]; rfl, b⟩
  · have HF := Lib.hid (show checkR kind fl ex sq nk nv = 0 from by unfold checkR; rw [hr]; rfl)
    clear hr
    go_wp2_with fail
    go_ret
    exact ⟨by rw [HF.out]; rfl, b⟩

/-- How many bytes a record has. -/
def sizeR (kind : Int) (fl ex sq k v : Nat) : Nat := if rightR kind fl ex sq k v then 21 + k + v else 0
set_option maxHeartbeats 1000000 in
theorem size_any (kind : Int) (fl ex sq : Nat) (AK AV : Option Addr) (nk ck nv cv : Nat) (w : World) :
    Calls Try.prog 49 #[recV kind fl ex sq (.slice AK nk ck) (.slice AV nv cv)] w fun e w' => e = .returned (.int .i64 (sizeR kind fl ex sq nk nv : Nat)) ∧ Below w.heap.size w w' := by
  have hc := check_any kind fl ex sq AK AV nk ck nv cv
  unfold recV at hc
  unfold recV
  go_enter Try.func49, Try.ntmps49
  go_wp2_with fail
  refine (hc _).mono ?_
  rintro e w1 ⟨rfl, b1⟩
  have c4 : w1.cell? ⟨w.heap.size, 4, none⟩ = some (.slice AK nk ck) := by rw [b1.cell (by simp)]; go_simp
  have c5 : w1.cell? ⟨w.heap.size, 5, none⟩ = some (.slice AV nv cv) := by rw [b1.cell (by simp)]; go_simp
  have b := ((Below.refl w.heap.size w).alloc (Nat.le_refl _) _).trans (b1.mono (by simp))
  clear hc b1
  cases hr : rightR kind fl ex sq nk nv
  · have HF := Lib.hid (show sizeR kind fl ex sq nk nv = 0 from by unfold sizeR; rw [hr]; rfl)
    rw [show checkR kind fl ex sq nk nv = 160 from by unfold checkR; rw [hr]; rfl]
    clear hr
    go_wp2_with fail
    go_ret
    exact ⟨by rw [HF.out]; rfl, b⟩
  · have hb : nk ≤ 250 ∧ nv ≤ 512 := by unfold rightR at hr; have := of_decide_eq_true hr; omega
    obtain ⟨hb1, hb2⟩ := hb
    have HF := Lib.hid (show sizeR kind fl ex sq nk nv = 21 + nk + nv from by unfold sizeR; rw [hr]; rfl)
    rw [show checkR kind fl ex sq nk nv = 0 from by unfold checkR; rw [hr]; rfl]
    clear hr
    go_wp2_with fail
    go_ret
    exact ⟨by rw [HF.out]; simp, b⟩

def secR (kind : Int) (fl ex sq k v : Nat) : Nat := (sizeR kind fl ex sq k v + 47) / 48
theorem sizeR_le (kind : Int) (fl ex sq k v : Nat) : sizeR kind fl ex sq k v ≤ 783 := by
  unfold sizeR
  split
  · rename_i h; unfold rightR at h; have := of_decide_eq_true h; omega
  · omega
set_option maxHeartbeats 1000000 in
theorem sectors_any (kind : Int) (fl ex sq : Nat) (AK AV : Option Addr) (nk ck nv cv : Nat) (w : World) :
    Calls Try.prog 39 #[recV kind fl ex sq (.slice AK nk ck) (.slice AV nv cv)] w fun e w' => e = .returned (.int .i64 (secR kind fl ex sq nk nv : Nat)) ∧ Below w.heap.size w w' := by
  have hc := size_any kind fl ex sq AK AV nk ck nv cv
  have hs := sizeR_le kind fl ex sq nk nv
  unfold recV at hc
  unfold recV
  go_enter Try.func39, Try.ntmps39
  go_wp2_with fail
  refine (hc _).mono ?_
  rintro e w1 ⟨rfl, b1⟩
  have b := ((Below.refl w.heap.size w).alloc (Nat.le_refl _) _).trans (b1.mono (by simp))
  clear hc b1
  have HF := Lib.hid (show secR kind fl ex sq nk nv = (sizeR kind fl ex sq nk nv + 47) / 48 from rfl)
  generalize sizeR kind fl ex sq nk nv = n at hs HF ⊢
  go_wp2_with fail
  go_ret
  refine ⟨?_, b⟩
  rw [HF.out]
  simp
  omega


/-- An item's cells. -/
def itmV (K V : Value) (fl ex sq : Nat) (d : Bool) : Value := .agg #[K, V, .int .u32 (fl : Int), .int .u32 (ex : Int), .int .u64 (sq : Int), .bool d]
/-- May an item be? -/
def rightI (sq k v : Nat) : Bool := decide (1 ≤ k ∧ k ≤ 250 ∧ v ≤ 512 ∧ 0 < sq)
theorem rightI_R (fl ex sq k v : Nat) : rightR 1 fl ex sq k v = rightI sq k v := by
  unfold rightR rightI
  rw [decide_eq_decide]; omega
/-- An item's charge. -/
def chI (k v : Nat) : Nat := (21 + k + v + 47) / 48
theorem secR_I {fl ex sq k v : Nat} : secR 1 fl ex sq k v = if rightI sq k v then chI k v else 0 := by
  unfold secR sizeR
  rw [rightI_R]
  unfold chI
  cases rightI sq k v <;> simp

/-- What Charge answers. -/
def chV (sq k v : Nat) : Value := if rightI sq k v then .tuple #[.int .i64 (chI k v : Nat), .int .i64 0] else .tuple #[.int .i64 0, .int .i64 230]
theorem chV_yes {sq k v : Nat} (h : rightI sq k v = true) : chV sq k v = .tuple #[.int .i64 (chI k v : Nat), .int .i64 0] := by unfold chV; rw [if_pos h]
theorem chV_no {sq k v : Nat} (h : rightI sq k v = false) : chV sq k v = .tuple #[.int .i64 0, .int .i64 230] := by unfold chV; rw [h]; rfl
set_option maxHeartbeats 1000000 in
theorem charge_any (AK AV : Option Addr) (nk ck nv cv fl ex sq : Nat) (d : Bool) (w : World) :
    Calls Try.prog 14 #[itmV (.slice AK nk ck) (.slice AV nv cv) fl ex sq d] w fun e w' =>
      e = .returned (chV sq nk nv) ∧ Below w.heap.size w w' := by
  have hc := sectors_any 1 fl ex sq AK AV nk ck nv cv
  unfold recV at hc
  unfold itmV
  go_enter Try.func14, Try.ntmps14
  go_wp2_with fail
  refine (hc _).mono ?_
  rintro e w1 ⟨rfl, b1⟩
  have b := ((Below.refl w.heap.size w).alloc (Nat.le_refl _) _).trans (b1.mono (by simp))
  clear hc b1
  rw [secR_I]
  cases hr : rightI sq nk nv
  · have HF := Lib.hid hr
    simp only [Bool.false_eq_true, if_false]
    clear hr
    go_wp2_with fail
    go_ret2
    exact ⟨by rw [chV_no HF.out]; rfl, b⟩
  · simp only [if_true]
    have hb : 1 ≤ nk := by unfold rightI at hr; have := of_decide_eq_true hr; omega
    have hn : ((chI nk nv : Nat) : Int) ≠ 0 := by unfold chI; omega
    have hn0 := ne0 hn
    have HF := Lib.hid hr
    clear hr hn hb
    generalize hq : chI nk nv = n at hn0 ⊢
    have HQ := Lib.hid hq
    clear hq
    go_wp2_with fail
    go_ret2
    exact ⟨by rw [chV_yes HF.out, HQ.out]; rfl, b⟩

set_option maxHeartbeats 1000000 in
theorem right13_any (AK AV : Option Addr) (nk ck nv cv fl ex sq : Nat) (d : Bool) (w : World) :
    Calls Try.prog 15 #[itmV (.slice AK nk ck) (.slice AV nv cv) fl ex sq d] w fun e w' => e = .returned (.bool (rightI sq nk nv)) ∧ Below w.heap.size w w' := by
  unfold itmV
  by_cases h1 : nk < 1
  · have hr : rightI sq nk nv = false := by unfold rightI; exact decide_eq_false (by omega)
    rw [hr]
    go_enter Try.func15, Try.ntmps15
    go_wp2
    go_ret
    exact ⟨rfl, (Below.refl _ _).alloc (Nat.le_refl _) _⟩
  by_cases h2 : 250 < nk
  · have hr : rightI sq nk nv = false := by unfold rightI; exact decide_eq_false (by omega)
    rw [hr]
    go_enter Try.func15, Try.ntmps15
    go_wp2
    go_ret
    exact ⟨rfl, (Below.refl _ _).alloc (Nat.le_refl _) _⟩
  by_cases h3 : 512 < nv
  · have hr : rightI sq nk nv = false := by unfold rightI; exact decide_eq_false (by omega)
    rw [hr]
    go_enter Try.func15, Try.ntmps15
    go_wp2
    go_ret
    exact ⟨rfl, (Below.refl _ _).alloc (Nat.le_refl _) _⟩
  have hr : rightI sq nk nv = decide (0 < sq) := by unfold rightI; rw [decide_eq_decide]; omega
  rw [hr]
  go_enter Try.func15, Try.ntmps15
  go_wp2
  go_ret
  exact ⟨rfl, (Below.refl _ _).alloc (Nat.le_refl _) _⟩

set_option maxHeartbeats 1000000 in
theorem charge25_any (AK AV : Option Addr) (nk ck nv cv fl ex sq : Nat) (d : Bool) (w : World) (hk : nk ≤ 10000) (hv : nv ≤ 10000) :
    Calls Try.prog 16 #[itmV (.slice AK nk ck) (.slice AV nv cv) fl ex sq d] w fun e w' => e = .returned (.int .i64 (chI nk nv : Nat)) ∧ Below w.heap.size w w' := by
  unfold itmV
  go_enter Try.func16, Try.ntmps16
  go_wp2
  go_loop [4] (fun i => ∃ k : Nat, 1 ≤ k ∧ k ≤ chI nk nv ∧ i = .int .i64 k) (fun i => chI nk nv - (intOf i).toNat)
  case atStart => exact ⟨1, Nat.le_refl _, by unfold chI; omega, rfl⟩
  case round =>
    obtain ⟨k, h1, h2, rfl⟩ := hrel
    have hc : chI nk nv ≤ 1000 := by unfold chI; omega
    by_cases hlt : 48 * k < 21 + nk + nv
    · have h3 : k + 1 ≤ chI nk nv := by unfold chI; omega
      go_wp2
      go_round
      case rel => exact ⟨k + 1, by omega, h3, by go_num⟩
      case measure => simp [intOf]; omega
    · have h3 : chI nk nv = k := by unfold chI at h2 ⊢; omega
      have hk1 : k ≤ 1000 := by omega
      have H3 := Lib.hid h3
      clear h3 h2 hc
      go_wp2
      go_ret
      exact ⟨by rw [H3.out]; rfl, (Below.refl _ _).alloc (Nat.le_refl _) _⟩

/-- May there be so many segments and sectors? -/
def sizedB (s n : Int) : Bool := decide (4 ≤ s ∧ s ≤ 16 ∧ 24 ≤ n ∧ n ≤ 64)
set_option maxHeartbeats 1000000 in
theorem sized_any (s n : Int) (w : World) :
    Calls Try.prog 50 #[.int .i64 s, .int .i64 n] w fun e w' => e = .returned (.bool (sizedB s n)) ∧ w = w' := by
  by_cases h1 : s < 4
  · rw [show sizedB s n = false from decide_eq_false (by omega)]
    go_enter Try.func50, Try.ntmps50
    go_wp2
    go_ret
    exact ⟨rfl, rfl⟩
  by_cases h2 : 16 < s
  · rw [show sizedB s n = false from decide_eq_false (by omega)]
    go_enter Try.func50, Try.ntmps50
    go_wp2
    go_ret
    exact ⟨rfl, rfl⟩
  by_cases h3 : n < 24
  · rw [show sizedB s n = false from decide_eq_false (by omega)]
    go_enter Try.func50, Try.ntmps50
    go_wp2
    go_ret
    exact ⟨rfl, rfl⟩
  rw [show sizedB s n = decide (n ≤ 64) from by unfold sizedB; rw [decide_eq_decide]; omega]
  go_enter Try.func50, Try.ntmps50
  go_wp2
  go_ret
  exact ⟨rfl, rfl⟩

theorem seginfo : (Try.prog.info? 118).map (fun i => (i.zero, i.size, i.bytes)) = some (some (.agg #[.int .i64 0, .int .u64 0, .int .i64 0]), 3, 24) := by kernel_rfl

/-- make([]api.Seg, m) -/
theorem wpList_mkseg (w : World) {ops : Array Oper} {rest : List Oper} {o : Oper} {a : Act} {Q : Exit → Act → World → Prop}
    (hg : o.guard = none) (l c : Operand) (hop : o.op = Op.makeSlice 80 l c) (B m : Nat)
    (hl : a.eval l = .int .i64 (m : Int)) (hc : a.eval c = .int .i64 (m : Int)) (hm : m ≤ 1000) (hB : B ≤ w.heap.size)
    (hK : ∀ w', Below B w w' → wpList Try.prog ops Q rest (a.put o.dst (.slice (some ⟨w.heap.size, 0, none⟩) m m)) w') :
    wpList Try.prog ops Q (o :: rest) a w := by
  obtain ⟨i0, hi0, hz0, hz1, hz2⟩ := info_parts seginfo
  refine wpList_make_full w hg l c _ hop B 118 i0 _ 3 Try.underlying80 hi0 hz0 hz1 .i64 .i64 _ _ m hl hc rfl rfl (by rw [hz2]; omega) (by unfold maxLen; omega) hB ?_
  intro w' h1 h2
  exact hK w' (below_of_grown0 h2 hB)

/-- New's answer's error. -/
def newE (s n : Int) : Int := if sizedB s n then 0 else 2
theorem newE_yes {s n : Int} (h : sizedB s n = true) : newE s n = 0 := by unfold newE; rw [if_pos h]
theorem newE_no {s n : Int} (h : sizedB s n = false) : newE s n = 2 := by unfold newE; rw [h]; rfl
def NewQ (s n : Int) (w : World) (e : Ending) (w' : World) : Prop := ∃ (x : Int) (A : Option Addr) (m c : Nat), e = .returned (.tuple #[.agg #[.int .i64 x, .slice A m c], .int .i64 (newE s n)]) ∧ Below w.heap.size w w'
set_option maxHeartbeats 1000000 in
theorem new_any (s n : Int) (w : World) :
    Calls Try.prog 40 #[.int .i64 s, .int .i64 n] w (NewQ s n w) := by
  go_enter Try.func40, Try.ntmps40
  go_wp2_with fail
  refine (sized_any s n _).mono ?_
  rintro e w1 ⟨rfl, hq⟩
  subst hq
  cases hr : sizedB s n
  · have HR := Lib.hid hr
    clear hr
    go_wp2_with fail
    refine bodyPost_ret (v := .tuple #[.agg #[.int .i64 0, .slice none 0 0], .int .i64 2]) (by simp [results, Try.results40, go_sem]) rfl ?_
    exact ⟨0, none, 0, 0, by rw [newE_no HR.out], (Below.refl _ _).alloc (Nat.le_refl _) _⟩
  · have hs : 4 ≤ s ∧ s ≤ 16 := by have := of_decide_eq_true hr; omega
    obtain ⟨m, rfl⟩ := Int.eq_ofNat_of_zero_le (show 0 ≤ s by omega)
    have HR := Lib.hid hr
    clear hr
    go_wp2_with (at_make; refine wpList_mkseg _ rfl _ _ rfl (w.heap.size + 1) m rfl rfl (by omega) (by simp) ?_)
    intro w2 b2
    have d0 : w2.cell? ⟨w.heap.size, 0, none⟩ = some (.int .i64 0) := by rw [b2.cell (by simp)]; go_simp
    have d1 : w2.cell? ⟨w.heap.size, 1, none⟩ = some (.slice none 0 0) := by rw [b2.cell (by simp)]; go_simp
    have f0 : w2.frozen? ⟨w.heap.size, 0, none⟩ = false := by rw [b2.frozen (by simp)]; go_simp
    have f1 : w2.frozen? ⟨w.heap.size, 1, none⟩ = false := by rw [b2.frozen (by simp)]; go_simp
    have b := ((Below.refl w.heap.size w).alloc (Nat.le_refl _) _).trans (b2.mono (by simp))
    clear b2
    go_wp2_with fail
    refine bodyPost_ret (v := .tuple #[.agg #[.int .i64 n, .slice (some ⟨w.heap.size + 1, 0, none⟩) m m], .int .i64 0]) (by simp [results, Try.results40, go_sem, d0, d1]) rfl ?_
    exact ⟨n, _, m, m, by rw [newE_yes HR.out], (b.setCell (Nat.le_refl _) _).setCell (Nat.le_refl _) _⟩

/-- What Bound answers. -/
def bndV (s n : Int) : Value := if sizedB s n then .tuple #[.int .i64 ((s - 4) * (n - 17)), .int .i64 0] else .tuple #[.int .i64 0, .int .i64 2]
theorem bndV_yes {s n : Int} (h : sizedB s n = true) : bndV s n = .tuple #[.int .i64 ((s - 4) * (n - 17)), .int .i64 0] := by unfold bndV; rw [if_pos h]
theorem bndV_no {s n : Int} (h : sizedB s n = false) : bndV s n = .tuple #[.int .i64 0, .int .i64 2] := by unfold bndV; rw [h]; rfl
theorem mul_bnd {s n : Int} (h : 4 ≤ s ∧ s ≤ 16 ∧ 24 ≤ n ∧ n ≤ 64) : 0 ≤ (s - 4) * (n - 17) ∧ (s - 4) * (n - 17) ≤ 564 := by
  refine ⟨Int.mul_nonneg (by omega) (by omega), ?_⟩
  calc (s - 4) * (n - 17) ≤ 12 * (n - 17) := Int.mul_le_mul_of_nonneg_right (by omega) (by omega)
    _ ≤ 12 * 47 := Int.mul_le_mul_of_nonneg_left (by omega) (by omega)
    _ = 564 := by decide
set_option maxHeartbeats 1000000 in
theorem bound_any (s n : Int) (w : World) :
    Calls Try.prog 17 #[.int .i64 s, .int .i64 n] w fun e w' => e = .returned (bndV s n) ∧ Below w.heap.size w w' := by
  cases hr : sizedB s n
  · have HR := Lib.hid hr
    clear hr
    go_enter Try.func17, Try.ntmps17
    go_wp2_with fail
    refine (new_any s n _).mono ?_
    rintro e w1 ⟨x, A, m, c, rfl, b1⟩
    rw [newE_no HR.out]
    go_wp2_with fail
    go_ret2
    exact ⟨by rw [bndV_no HR.out]; rfl, b1.alloc b1.size _⟩
  · have hs : 4 ≤ s ∧ s ≤ 16 ∧ 24 ≤ n ∧ n ≤ 64 := of_decide_eq_true hr
    have hm := mul_bnd hs
    obtain ⟨g1, g2, g3, g4⟩ := hs
    obtain ⟨g5, g6⟩ := hm
    have HR := Lib.hid hr
    clear hr
    go_enter Try.func17, Try.ntmps17
    go_wp2_with fail
    refine (new_any s n _).mono ?_
    rintro e w1 ⟨x, A, m, c, rfl, b1⟩
    rw [newE_yes HR.out]
    go_wp2_with fail
    go_ret2
    refine ⟨?_, b1.alloc b1.size _⟩
    rw [bndV_yes HR.out]
    rfl

/-- Into how many segments: n so far, left in the last. -/
def packB (S : Int) : List Int → Int → Int → Int
  | [], n, _ => n
  | k :: l, n, left => if k > left then packB S l (n + 1) (S - 1 - k) else packB S l n (left - k)
theorem packB_cons (S k n left : Int) (l : List Int) : packB S (k :: l) n left = if k > left then packB S l (n + 1) (S - 1 - k) else packB S l n (left - k) := rfl
def intC (l : List Int) : List Value := l.map (Value.int .i64)

set_option maxHeartbeats 1000000 in
theorem pack_any (A : Option Addr) (m c B : Nat) (S : Int) (l : List Int) (w : World) (h : Rv w B A m c (intC l)) (hS : 2 ≤ S ∧ S ≤ 64) (hl : ∀ k ∈ l, 1 ≤ k ∧ k ≤ S - 1) :
    Calls Try.prog 18 #[.int .i64 S, .slice A m c] w fun e w' => e = .returned (.int .i64 (packB S l 0 0)) ∧ w = w' := by
  have m1 : (m : Int) ≤ 9223372036854775807 := by have := h.cap; have := h.max; unfold maxLen at this; omega
  obtain ⟨hS1, hS2⟩ := hS
  have HL := Lib.hid hl; clear hl
  have hlen : l.length = m := by have := h.len; simpa [intC] using this
  have HN := Lib.hid hlen; clear hlen
  go_enter Try.func18, Try.ntmps18
  go_wp2
  go_loop [5, 6, 11] (fun n e i => ∃ (k : Nat) (nn left : Int), k ≤ m ∧ i = .int .i64 k ∧ n = .int .i64 nn ∧ e = .int .i64 left ∧ 0 ≤ nn ∧ nn ≤ k ∧ 0 ≤ left ∧ left ≤ S - 1 ∧ packB S (l.drop k) nn left = packB S l 0 0) (fun _ _ i => m - (intOf i).toNat)
  case atStart => exact ⟨0, 0, 0, Nat.zero_le _, rfl, rfl, rfl, by omega, by omega, by omega, by omega, rfl⟩
  case round =>
    obtain ⟨k, nn, left, hk, rfl, rfl, rfl, hn1, hn2, hl1, hl2, hp⟩ := hrel
    have HP := Lib.hid hp; clear hp
    by_cases hlt : k < m
    · obtain ⟨a1, u, rfl, -, hu, hc⟩ := h.some_ hlt
      unfold intC at hu
      rw [List.getElem?_map] at hu
      obtain ⟨x, hx, rfl⟩ := Option.map_eq_some_iff.1 hu
      have hd : l.drop k = x :: l.drop (k + 1) := by
        rw [List.drop_eq_getElem_cons (by rw [HN.out]; exact hlt)]
        congr 1
        exact Option.some.inj ((List.getElem?_eq_getElem (by rw [HN.out]; exact hlt)).symm.trans hx)
      obtain ⟨hx1, hx2⟩ := HL.out x (List.mem_of_getElem? hx)
      have HQ := HP.out
      rw [hd, packB_cons] at HQ
      clear hu hx hd HP
      by_cases hgt : x > left
      · rw [if_pos hgt] at HQ
        have HQ := Lib.hid HQ
        go_wp2
        go_round
        case rel => exact ⟨k + 1, nn + 1, S - 1 - x, by omega, by go_num, rfl, rfl, by omega, by omega, by omega, by omega, HQ.out⟩
        case measure => simp [intOf]; omega
      · rw [if_neg hgt] at HQ
        have HQ := Lib.hid HQ
        go_wp2
        go_round
        case rel => exact ⟨k + 1, nn, left - x, by omega, by go_num, rfl, rfl, by omega, by omega, by omega, by omega, HQ.out⟩
        case measure => simp [intOf]; omega
    · have hd : l.drop k = [] := List.drop_eq_nil_of_le (by rw [HN.out]; omega)
      have HQ := HP.out
      rw [hd] at HQ
      have HQ := Lib.hid HQ
      clear hd HP
      go_wp2
      go_ret
      exact ⟨by rw [← HQ.out]; rfl, rfl⟩
end Go.Proofs.Ytbofnmlddpbfeaa

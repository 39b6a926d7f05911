/- stamp.Split. Conditions: typed in each theorem. -/
import Derived.Test.YtkemlpcfijfaeaaSpl
namespace Go.Proofs.Ytkemlpcfijfaeaa
set_option linter.unusedVariables false
open Go.RowKit

def SplNo (w : World) (e : Ending) (w' : World) : Prop := e = .returned (.tuple #[.slice none 0 0, .int .i64 2]) ∧ w = w'
def SplOk (g ps n : Nat) (l : List UInt8) (w : World) (e : Ending) (w' : World) : Prop := ∃ A' c', e = .returned (.tuple #[.slice A' (secN n) c', .int .i64 0]) ∧ OwB w' w.heap.size A' (secN n) c' (splitL g ps l (secN n)) ∧ Below w.heap.size w w'
set_option maxRecDepth 100000 in
set_option maxHeartbeats 1000000 in
theorem split_no (g ps : Nat) (hg2 : g < 18446744073709551616) (hps : ps < 4294967296) (A : Option Addr) (n c : Nat) (hn : n ≤ 140737488355328) (h : g = 0 ∨ 4294967296 < ps + secN n) (w : World) :
    Calls Try.prog 15 #[.int .u64 g, .int .u32 ps, .slice A n c] w (SplNo w) := by
  have hle := secN_le n
  by_cases h0 : g = 0
  · subst h0
    go_enter Try.func15, Try.ntmps15
    go_wp2_with fail
    refine (sectors_nat n hn _).mono ?_
    rintro e w1 ⟨rfl, rfl⟩
    go_wp2_with fail
    go_ret2
    exact ⟨rfl, rfl⟩
  · have t0 : ((g : Int) == 0) = false := by rw [beq_eq_false_iff_ne]; omega
    have hgt : 4294967296 < ps + secN n := by omega
    have hs := sectors_nat n hn w
    have hkk : secN n ≤ 3000000000000 := by omega
    generalize secN n = k at hgt hkk hs
    have HS := Lib.hid hs
    clear hs hle h h0 hn
    go_enter Try.func15, Try.ntmps15
    go_wp2_with fail
    refine (HS.out).mono ?_
    rintro e w1 ⟨rfl, rfl⟩
    go_wp2_with fail
    go_ret2
    exact ⟨rfl, rfl⟩
def SplRel (g ps B : Nat) (l : List UInt8) (w : World) (m : Nat) (v i : Value) (wr : World) : Prop :=
  ∃ (k : Nat) (A : Option Addr) (c : Nat), k ≤ m ∧ i = .int .i64 k ∧ v = .slice A k c ∧ OwB wr B A k c (splitL g ps l k) ∧ Below B w wr
theorem take48 {l : List UInt8} {n i j : Nat} (hl : l.length = n) (h1 : i ≤ j) (hj : j = min (i + 48) n) : (l.take j).drop i = (l.drop i).take 48 := by
  rw [List.drop_take]
  apply List.ext_getElem?
  intro k
  rw [List.getElem?_take, List.getElem?_take]
  by_cases hk : k < j - i
  · rw [if_pos hk, if_pos (by omega)]
  · rw [if_neg hk]
    by_cases hk2 : k < 48
    · rw [if_pos hk2, List.getElem?_eq_none (by rw [List.length_drop]; omega)]
    · rw [if_neg hk2]
set_option maxRecDepth 100000 in
set_option maxHeartbeats 1000000 in
theorem split_ok (g ps : Nat) (hg : g ≠ 0) (hg2 : g < 18446744073709551616) (A : Option Addr) (n c : Nat) (l : List UInt8) (hn : n ≤ 140737488355328) (h : ps + secN n ≤ 4294967296) (w : World) (r : Rd w w.heap.size A n c l) :
    Calls Try.prog 15 #[.int .u64 g, .int .u32 ps, .slice A n c] w (SplOk g ps n l w) := by
  have hle := secN_le n
  have hlast := fun k => @secN_last n k
  have hs := sectors_nat n hn w
  have hkk : secN n ≤ 3000000000000 := by omega
  have hl := r.len
  unfold SplOk
  generalize secN n = m at h hkk hs hlast ⊢
  have t0 : ((g : Int) == 0) = false := by rw [beq_eq_false_iff_ne]; omega
  have HS := Lib.hid hs
  have HL := Lib.hid hl
  have Hlast := Lib.hid hlast
  clear hs hle hl hlast
  go_enter Try.func15, Try.ntmps15
  go_wp2_with fail
  refine (HS.out).mono ?_
  rintro e w1 ⟨rfl, rfl⟩
  clear HS
  go_wp2_with fail
  go_loopw [9, 27] (fun v i wr => SplRel g ps w.heap.size l w m v i wr) (fun _ i _ => m - (intOf i).toNat)
  case atStart => exact ⟨0, none, 0, Nat.zero_le _, rfl, rfl, Oz.nil _ _ _ _, Below.refl _ _⟩
  case round =>
    obtain ⟨k, A1, c1, hk, rfl, rfl, o1, b1⟩ := hrel
    by_cases hlt : k < m
    · have h48 := Hlast.out k hlt
      have rr := (r.below b1).more b1.size
      obtain ⟨j, hj⟩ : ∃ j, j = min (48 * k + 48) n := ⟨_, rfl⟩
      obtain ⟨X, cx, eS, rS⟩ := slc_lh rr (48 * k) j ((k : Int) * 48) (j : Int) (by omega) rfl (by omega) (by omega)
      have rX := rS _ _ rr
      rw [take48 HL.out (by omega) hj] at rX
      have HJ := Lib.hid hj
      clear hj rS
      have e32 : IntKind.u32.wrap (k : Int) = (k : Int) := IntWalk.u32_in _ (by omega)
      have hjn : (if (n : Int) < ((k : Int) + 1) * 48 then (n : Int) else ((k : Int) + 1) * 48) = (j : Int) := by rw [HJ.out]; split <;> omega
      have hq : ps + k < 4294967296 := by omega
      have hc := pack_ok g (ps + k) hg hg2 hq X (j - 48 * k) cx _ (by omega) wr rX
      rw [show ((ps + k : Nat) : Int) = (ps : Int) + (k : Int) from by omega] at hc
      have pl := packL_length g (ps + k) ((l.drop (48 * k)).take 48) (by rw [List.length_take]; omega)
      have HN := Lib.hid (splitL_snoc g ps l k)
      generalize packL g (ps + k) ((l.drop (48 * k)).take 48) = L at hc pl HN
      have HPL := Lib.hid pl
      clear pl rX rr
      go_wp2_with fail
      refine hc.mono ?_
      rintro e w2 ⟨rfl, b2⟩
      replace b1 := b1.trans (b2.mono b1.size)
      have hsz := b1.size
      replace o1 := Oz.below o1 b2
      clear b2 hc eS hjn e32
      have k3 := Blk.new w2 (ar zeroA) 47
      replace b1 := b1.alloc hsz (.cells (ar zeroA) 47)
      have hat := Oz.at' o1
      replace o1 := Oz.alloc o1 (.cells (ar zeroA) 47)
      go_wp2_with (first | refine wpl_storeA _ rfl _ _ rfl w2.heap.size zeroA L rfl rfl k3 zl HPL.out ?_)
      intro w3 k4 g4
      replace b1 := b1.trans (below_grown g4 (by omega) k3.lt)
      replace o1 := Oz.grown o1 g4 (fun q hq => by have := hat q hq; omega)
      clear g4 k3 hat
      have hsz3 := b1.size
      have hfin : OwB (w3.alloc (.cells (ar L) 47)) w.heap.size A1 k c1 (splitL g ps l k) := Oz.alloc o1 _
      have rn := rdB_new w3 L HPL.out
      replace b1 := b1.alloc hsz3 (.cells (ar L) 47)
      go_wp2_with (first | refine wpl_loadA _ rfl _ rfl w2.heap.size L rfl k4 HPL.out ?_ | refine wpl_bsA _ rfl _ rfl L rfl HPL.out ?_ | (at_builtin; refine wpl_appA _ rfl _ _ rfl w.heap.size A1 k c1 _ rfl hfin _ _ 1 1 [L] rfl rn (by omega) (by simp; omega) ?_))
      intro A5 c5 w5 o5 b5
      rw [← HN.out] at o5
      replace b1 := b1.trans b5
      clear b5 hfin rn k4 o1
      go_wp2_with fail
      go_roundw
      case rel => exact ⟨k + 1, A5, c5, by omega, by go_num, rfl, o5, b1⟩
      case measure => simp [intOf]; omega
    · obtain rfl : k = m := by omega
      go_wp2_with fail
      go_ret2
      exact ⟨A1, c1, rfl, o1, b1⟩
end Go.Proofs.Ytkemlpcfijfaeaa

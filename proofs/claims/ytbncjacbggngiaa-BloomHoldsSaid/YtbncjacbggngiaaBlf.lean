/- bloom.Of. Conditions: typed in each theorem. -/
import Derived.Test.YtbncjacbggngiaaBlg
namespace Go.Proofs.Ytbncjacbggngiaa
set_option linter.unusedVariables false
open Go.RowKit

theorem takeR4 {b : List UInt8} (h : 4 ≤ b.length) : takeR b 0 0 4 = (b.take 4, 4, 0) := by
  unfold takeR
  rw [if_neg (by decide), if_neg (by decide), if_neg (by omega)]
  simp
theorem num4 {b : List UInt8} (h : 4 ≤ b.length) : numQ (takeR b 0 0 4).1 % 4294967296 = numB (b.take 4) := by
  rw [takeR4 h, numQ_small (by rw [List.length_take]; omega)]
  exact Nat.mod_eq_of_lt (numB_lt 4 _ (by rw [List.length_take]; omega))
theorem rd_from4 {w : World} {B n c : Nat} {A : Option Addr} {b : List UInt8} (h : Rd w B A n c b) (hn : 4 < n) : ∃ ad, A = some ad ∧ 4 < c ∧ Rd w B (some (ad.add 4)) (n - 4) (c - 4) (b.drop 4) := by
  have hc := h.cap
  obtain ⟨ad, x, rfl, -, -, -⟩ := h.at_ (i := 0) (by omega)
  refine ⟨ad, rfl, by omega, ?_⟩
  have := h.cut (i := 4) (j := n) (by omega) (Nat.le_refl _)
  rw [if_neg (by omega), List.take_of_length_le (by rw [h.len]; omega)] at this
  exact this

theorem of_short (A : Option Addr) (n c : Nat) (w : World) (h : n < 4) :
    Calls Try.prog 28 #[.slice A n c] w fun e w' => e = .returned (.tuple #[.pointer none, .int .i64 9]) ∧ w = w' := by
  go_enter Try.func28, Try.ntmps28
  go_wp2
  go_ret2
  exact ⟨rfl, rfl⟩

def OfNo (w : World) (e : Ending) (w' : World) : Prop := e = .returned (.tuple #[.pointer none, .int .i64 140]) ∧ Below w.heap.size w w'
set_option maxHeartbeats 1000000 in
theorem of_bits (A : Option Addr) (n c : Nat) (b : List UInt8) (w : World) (h : Rd w w.heap.size A n c b) (hn : 4 ≤ n) (hm : n ≤ 281474976710656) (hq : numB (b.take 4) < 8 ∨ 65536 < numB (b.take 4) ∨ numB (b.take 4) % 8 ≠ 0) :
    Calls Try.prog 28 #[.slice A n c] w (OfNo w) := by
  have hl := h.len
  subst hl
  have hq4 := Lib.hid (num4 hn)
  have HH := Lib.hid h
  have hq' : ((numB (b.take 4) : Nat) : Int) < 8 ∨ 65536 < ((numB (b.take 4) : Nat) : Int) ∨ ((numB (b.take 4) : Nat) : Int) % 8 ≠ 0 := by omega
  have hlt : numB (b.take 4) < 4294967296 := numB_lt 4 _ (by rw [List.length_take]; omega)
  clear h hq
  generalize numB (b.take 4) = q at hq4 hq' hlt
  have HQ := Lib.hid hq'
  clear hq'
  go_enter Try.func28, Try.ntmps28
  go_wp2_with fail
  refine (read_any A _ c _ b _ HH.out (Nat.le_refl _) hm).mono ?_
  rintro e w1 ⟨g0, rfl, h1, b1⟩
  go_wp2_with fail
  refine (u32_rd b 0 0 g0 _ _ h1).mono ?_
  rintro e w2 ⟨rfl, h2, g2⟩
  rw [hq4.out]
  have bb2 := b1.trans (below_grown g2 h1.ge h1.lt)
  go_wp2_with fail
  refine (new_no _ HQ.out _).mono ?_
  rintro e w3 ⟨rfl, rfl⟩
  go_wp2_with fail
  go_quiet (fail)
  go_wp2_with fail
  go_ret2
  exact ⟨rfl, below_dq bb2 _⟩

set_option maxHeartbeats 1000000 in
theorem of_size (A : Option Addr) (n c N : Nat) (b : List UInt8) (w : World) (h : Rd w w.heap.size A n c b) (hn : 4 ≤ n) (hm : n ≤ 281474976710656) (hN : 1 ≤ N) (hN2 : N ≤ 8192) (hq : numB (b.take 4) = 8 * N) (hne : n ≠ 4 + N) :
    Calls Try.prog 28 #[.slice A n c] w (OfNo w) := by
  have hl := h.len
  subst hl
  have hq4 := Lib.hid (num4 hn)
  have HH := Lib.hid h
  have HQ := Lib.hid hq
  have tn : ((N : Int) != (b.length : Int) - 4) = true := by rw [bne_iff_ne]; omega
  clear h hq hne
  go_enter Try.func28, Try.ntmps28
  go_wp2_with fail
  refine (read_any A _ c _ b _ HH.out (Nat.le_refl _) hm).mono ?_
  rintro e w1 ⟨g0, rfl, h1, b1⟩
  go_wp2_with fail
  refine (u32_rd b 0 0 g0 _ _ h1).mono ?_
  rintro e w2 ⟨rfl, h2, g2⟩
  rw [hq4.out, HQ.out]
  rw [takeR4 hn] at h2
  have bb2 := b1.trans (below_grown g2 h1.ge h1.lt)
  go_wp2_with fail
  refine (new_ok N hN hN2 _ (by omega) _).mono ?_
  rintro e w3 ⟨g1, rfl, f3, b3⟩
  have h3 := h2.below b3
  have bb3 := below_step bb2 b3
  obtain ⟨k, n1, c1, K3⟩ := f3
  have c0 := K3.cell0
  have hK := K3.len
  rw [List.length_replicate] at hK
  subst hK
  have cL : ∀ q, Calls Try.prog 37 #[.pointer (some ⟨g0, 0, none⟩)] (w3.drewN q) (Quiet (.int .i64 ((b.length : Int) - 4)) (w3.drewN q)) := fun q => left_any b 4 0 g0 _ _ (h3.drewN q)
  clear K3
  go_wp2_with fail
  go_quiet ((go_at_call 37; exact Calls.quiet_of (cL _)))
  go_wp2_with fail
  go_ret2
  exact ⟨rfl, below_dq bb3 _⟩

def OfOk (l : List UInt8) (w : World) (e : Ending) (w' : World) : Prop := ∃ g, e = .returned (.tuple #[.pointer (some ⟨g, 0, none⟩), .int .i64 0]) ∧ Flt w' w.heap.size w'.heap.size g l ∧ Below w.heap.size w w'
set_option maxHeartbeats 1000000 in
theorem of_ok (A : Option Addr) (n c N : Nat) (b : List UInt8) (w : World) (h : Rd w w.heap.size A n c b) (hN : 1 ≤ N) (hN2 : N ≤ 8192) (hq : numB (b.take 4) = 8 * N) (hn : n = 4 + N) :
    Calls Try.prog 28 #[.slice A n c] w (OfOk (b.drop 4) w) := by
  obtain ⟨ad, rfl, hc4, r4⟩ := rd_from4 h (by omega)
  have hl := h.len
  subst hl
  have hq4 := Lib.hid (num4 (b := b) (by omega))
  have T4 := Lib.hid (takeR4 (b := b) (by omega))
  have HH := Lib.hid h
  have HQ := Lib.hid hq
  have hcap := h.cap
  have hmax := h.max
  unfold maxLen at hmax
  have tn : ((N : Int) != (b.length : Int) - 4) = false := by rw [bne_eq_false_iff_eq]; omega
  have hn4 : 4 < b.length := by omega
  have hnm : b.length ≤ 8196 := by omega
  have HBN := Lib.hid hn
  clear h hq hn
  go_enter Try.func28, Try.ntmps28
  go_wp2_with fail
  refine (read_any _ _ c _ b _ HH.out (Nat.le_refl _) (by omega)).mono ?_
  rintro e w1 ⟨g0, rfl, h1, b1⟩
  go_wp2_with fail
  refine (u32_rd b 0 0 g0 _ _ h1).mono ?_
  rintro e w2 ⟨rfl, h2, g2⟩
  rw [hq4.out, HQ.out]
  rw [T4.out] at h2
  have bb2 := b1.trans (below_grown g2 h1.ge h1.lt)
  go_wp2_with fail
  refine (new_ok N hN hN2 _ (by omega) _).mono ?_
  rintro e w3 ⟨g1, rfl, f3, b3⟩
  have h3 := h2.below b3
  have hs2 := bb2.size
  have bb3 := below_step bb2 b3
  obtain ⟨k, n1, c1, K3⟩ := f3
  have c0 := K3.cell0
  have hK := K3.len
  rw [List.length_replicate] at hK
  subst hK
  have cL : ∀ q, Calls Try.prog 37 #[.pointer (some ⟨g0, 0, none⟩)] (w3.drewN q) (Quiet (.int .i64 ((b.length : Int) - 4)) (w3.drewN q)) := fun q => left_any b 4 0 g0 _ _ (h3.drewN q)
  have k3 := K3.1
  have hg1 := K3.2.2.2.1
  clear K3
  go_wp2_with fail
  go_quiet ((go_at_call 37; exact Calls.quiet_of (cL _)))
  clear cL c0
  go_wp2_with fail
  refine (clone_any _ _ _ w.heap.size _ _ (r4.below (below_dq bb3 _)) (below_dq bb3 _).size (by omega)).mono ?_
  rintro e w5 ⟨A5, c5, rfl, o5, b5⟩
  have k5 : Blk w5 g1 _ _ := Blk.step (w := w3.drewN nq) k3 b5
  have bb5 := below_step (w1 := w3.drewN nq) (below_dq bb3 nq) b5
  have c0 := box1 k5
  have f0 := k5.frozen 0
  obtain ⟨k6, rfl, hk6, hk7⟩ := o5.row (by omega)
  have hg1lt : g1 < w3.heap.size := k3.lt
  have hne6 : k6 ≠ g1 := by have h : w3.heap.size ≤ k6 := hk6; omega
  have k7 := k5.set_ 0 (.slice (some ⟨k6, 0, none⟩) (b.length - 4) c5)
  have o7 := o5.blk (w' := w5.setCell ⟨g1, 0, none⟩ (.slice (some ⟨k6, 0, none⟩) (b.length - 4) c5)) (Below.heap_setCell w5 ⟨g1, 0, none⟩ _ k6 hne6)
  go_wp2_with fail
  go_ret2
  have hs5 : w3.heap.size ≤ k6 := hk6
  have hws : w.heap.size ≤ w3.heap.size := bb3.size
  refine ⟨g1, rfl, ⟨k6, b.length - 4, c5, k7, o7.more hws, hne6, Nat.le_trans hs2 hg1, ?_, ?_, Nat.le_refl _, by omega, by omega⟩, bb5.setCell (Nat.le_trans hs2 hg1) _⟩
  · simp; have := b5.size; have h : w3.heap.size ≤ w5.heap.size := this; omega
  · simpa using hk7
end Go.Proofs.Ytbncjacbggngiaa

/- Bytes copied and compared: slices.Clone, slices.Equal, octet.Equal, Same, octet.Zero. Conditions: typed in each theorem. -/
import Derived.Test.YtnghmgbmflcngaaBase
namespace Go.Proofs.Ytnghmgbmflcngaa
set_option linter.unusedVariables false
open Go.RowKit

set_option maxHeartbeats 400000 in
theorem clone_any (A : Option Addr) (n c B : Nat) (l : List UInt8) (w : World) (h : Rd w B A n c l) (hB : B ≤ w.heap.size) (hn : n ≤ 281474976710656) :
    Calls Try.prog 99 #[.slice A n c] w fun e w' => ∃ A' c', e = .returned (.slice A' n c') ∧ Own w' w.heap.size A' n c' l ∧ Below w.heap.size w w' := by
  have qT : ∀ (w : World) (a : Option Addr) (n c n' c' : Nat), (binOp .eql 23 (.slice a n c) (.slice none n' c')).run Try.prog w = .ok (.bool a.isNone) w := fun w a n c n' c' => Lib.run_eql_slice_nil w _ _ a n c n' c' Try.underlying23
  cases A with
  | none =>
    have hc : c = 0 := h.2.2.2.1 rfl
    have hn0 : n = 0 := by have := h.cap; omega
    have hl : l = [] := List.eq_nil_of_length_eq_zero (by rw [h.len]; exact hn0)
    subst hn0; subst hl; clear hc h
    go_enter Try.func99, Try.ntmps99
    go_wp2
    go_ret
    exact ⟨none, 0, rfl, Own.nil _ _, Below.refl _ _⟩
  | some ad =>
    go_enter Try.func99, Try.ntmps99
    go_wp2_with (at_builtin; refine wpList_app8f _ rfl _ _ rfl w.heap.size (some ⟨w.heap.size, 0, none⟩) 0 0 [] rfl (Own.empty w _ (Nat.le_refl _)) B (some ad) n c l rfl (h.alloc hB _) (fits_zero hn) (by omega) (by simp) ?_)
    intro A' c' w' ho hb
    go_wp2
    go_ret
    exact ⟨_, _, rfl, by simpa using ho, ((Below.refl _ _).alloc (Nat.le_refl _) _).trans hb⟩

/-- Are these the same bytes? -/
def eqB (a b : List UInt8) : Bool := decide (a = b)
theorem eqB_len {a b : List UInt8} (h : a.length ≠ b.length) : eqB a b = false := by
  unfold eqB; exact decide_eq_false fun e => h (by rw [e])
theorem eqB_at {a b : List UInt8} {k : Nat} (h : a[k]? ≠ b[k]?) : eqB a b = false := by
  unfold eqB; exact decide_eq_false fun e => h (by rw [e])
theorem eqB_all {a b : List UInt8} {n : Nat} (ha : a.length = n) (hb : b.length = n) (h : ∀ k, k < n → a[k]? = b[k]?) : eqB a b = true := by
  unfold eqB
  refine decide_eq_true (List.ext_getElem? fun k => ?_)
  by_cases hk : k < n
  · exact h k hk
  · rw [List.getElem?_eq_none (by omega), List.getElem?_eq_none (by omega)]
theorem ne_u8 {x y : UInt8} : ((x.toNat : Int) != (y.toNat : Int)) = !decide (x = y) := by
  by_cases h : x = y
  · subst h; simp
  · have : x.toNat ≠ y.toNat := fun e => h (UInt8.toNat_inj.1 e)
    simp [h]; omega

theorem ext_step {α : Type} {l m : List α} {k : Nat} (h : ∀ j, j < k → l[j]? = m[j]?) (hk : l[k]? = m[k]?) : ∀ j, j < k + 1 → l[j]? = m[j]? := by
  intro j hj
  by_cases e : j = k
  · subst e; exact hk
  · exact h j (by omega)
def SameRel (l m : List UInt8) (n : Nat) (w : World) (i : Value) (wr : World) : Prop := ∃ k : Nat, k ≤ n ∧ i = .int .i64 k ∧ (∀ j, j < k → l[j]? = m[j]?) ∧ ∃ q, wr = w.drewN q
def Quiet (v : Value) (w : World) (e : Ending) (w' : World) : Prop := e = .returned v ∧ ∃ q, w' = w.drewN q

set_option maxHeartbeats 400000 in
theorem same_any (A1 A2 : Option Addr) (n1 c1 n2 c2 B : Nat) (l1 l2 : List UInt8) (w : World) (h1 : Rd w B A1 n1 c1 l1) (h2 : Rd w B A2 n2 c2 l2) :
    Calls Try.prog 29 #[.slice A1 n1 c1, .slice A2 n2 c2] w (Quiet (.bool (eqB l1 l2)) w) := by
  have m1 : (n1 : Int) ≤ 9223372036854775807 := by have := h1.cap; have := h1.max; unfold maxLen at this; omega
  by_cases hn : n1 = n2
  · subst hn
    go_enter Try.func29, Try.ntmps29
    go_wp2
    go_loopw [5] (fun i wr => SameRel l1 l2 n1 w i wr) (fun i _ => n1 - (intOf i).toNat)
    case atStart => exact ⟨0, Nat.zero_le _, rfl, fun j hj => absurd hj (Nat.not_lt_zero _), 0, rfl⟩
    case round =>
      obtain ⟨k, hk, rfl, hj, q, rfl⟩ := hrel
      by_cases hlt : k < n1
      · obtain ⟨a1, x1, rfl, -, hx1, hc1⟩ := h1.at_ hlt
        obtain ⟨a2, x2, rfl, -, hx2, hc2⟩ := h2.at_ hlt
        by_cases hx : x1 = x2
        · have hne : ((x1.toNat : Int) != (x2.toNat : Int)) = false := by rw [ne_u8]; simp [hx]
          go_wp2
          go_quiet (fail)
          go_wp2
          go_roundw
          case rel => exact ⟨k + 1, by omega, by go_num, ext_step hj (by rw [hx1, hx2, hx]), by first | exact ⟨_, rfl⟩ | exact ⟨_, World.drewN_drewN _ _ _⟩⟩
          case measure => simp [intOf]; omega
        · have hne : ((x1.toNat : Int) != (x2.toNat : Int)) = true := by rw [ne_u8]; simp [hx]
          go_wp2
          go_quiet (fail)
          go_wp2
          go_ret
          exact ⟨by rw [eqB_at (k := k) (by rw [hx1, hx2]; exact fun e => hx (Option.some.inj e))]; rfl, by first | exact ⟨_, rfl⟩ | exact ⟨_, World.drewN_drewN _ _ _⟩⟩
      · go_wp2
        go_ret
        exact ⟨by rw [eqB_all h1.len h2.len (fun j hjn => hj j (by omega))]; rfl, _, rfl⟩
  · have hne : ((n1 : Int) != (n2 : Int)) = true := by rw [bne_iff_ne]; omega
    go_enter Try.func29, Try.ntmps29
    go_wp2
    go_ret
    exact ⟨by rw [eqB_len (by rw [h1.len, h2.len]; exact hn)]; rfl, 0, rfl⟩


set_option maxHeartbeats 400000 in
theorem sequal_any (A1 A2 : Option Addr) (n1 c1 n2 c2 B : Nat) (l1 l2 : List UInt8) (w : World) (h1 : Rd w B A1 n1 c1 l1) (h2 : Rd w B A2 n2 c2 l2) :
    Calls Try.prog 95 #[.slice A1 n1 c1, .slice A2 n2 c2] w (Quiet (.bool (eqB l1 l2)) w) := by
  have m1 : (n1 : Int) ≤ 9223372036854775807 := by have := h1.cap; have := h1.max; unfold maxLen at this; omega
  by_cases hn : n1 = n2
  · subst hn
    go_enter Try.func95, Try.ntmps95
    go_wp2
    go_loopw [13] (fun i wr => SameRel l1 l2 n1 w i wr) (fun i _ => n1 - (intOf i).toNat)
    case atStart => exact ⟨0, Nat.zero_le _, rfl, fun j hj => absurd hj (Nat.not_lt_zero _), 0, rfl⟩
    case round =>
      obtain ⟨k, hk, rfl, hj, q, rfl⟩ := hrel
      by_cases hlt : k < n1
      · obtain ⟨a1, x1, rfl, -, hx1, hc1⟩ := h1.at_ hlt
        obtain ⟨a2, x2, rfl, -, hx2, hc2⟩ := h2.at_ hlt
        by_cases hx : x1 = x2
        · have hne : ((x1.toNat : Int) != (x2.toNat : Int)) = false := by rw [ne_u8]; simp [hx]
          go_wp2
          go_quiet (fail)
          go_wp2
          go_roundw
          case rel => exact ⟨k + 1, by omega, by go_num, ext_step hj (by rw [hx1, hx2, hx]), by first | exact ⟨_, rfl⟩ | exact ⟨_, World.drewN_drewN _ _ _⟩⟩
          case measure => simp [intOf]; omega
        · have hne : ((x1.toNat : Int) != (x2.toNat : Int)) = true := by rw [ne_u8]; simp [hx]
          go_wp2
          go_quiet (fail)
          go_wp2
          go_ret
          exact ⟨by rw [eqB_at (k := k) (by rw [hx1, hx2]; exact fun e => hx (Option.some.inj e))]; rfl, by first | exact ⟨_, rfl⟩ | exact ⟨_, World.drewN_drewN _ _ _⟩⟩
      · go_wp2
        go_ret
        exact ⟨by rw [eqB_all h1.len h2.len (fun j hjn => hj j (by omega))]; rfl, _, rfl⟩
  · have hne : ((n1 : Int) != (n2 : Int)) = true := by rw [bne_iff_ne]; omega
    go_enter Try.func95, Try.ntmps95
    go_wp2
    go_ret
    exact ⟨by rw [eqB_len (by rw [h1.len, h2.len]; exact hn)]; rfl, 0, rfl⟩

set_option maxHeartbeats 400000 in
theorem equal_any (A1 A2 : Option Addr) (n1 c1 n2 c2 B : Nat) (l1 l2 : List UInt8) (w : World) (h1 : Rd w B A1 n1 c1 l1) (h2 : Rd w B A2 n2 c2 l2) :
    Calls Try.prog 62 #[.slice A1 n1 c1, .slice A2 n2 c2] w (Quiet (.bool (eqB l1 l2)) w) := by
  go_enter Try.func62, Try.ntmps62
  go_wp2_with (go_at_call 95; refine (sequal_any A1 A2 n1 c1 n2 c2 B l1 l2 _ h1 h2).mono ?_; rintro e w' ⟨rfl, hq⟩)
  go_ret
  exact ⟨rfl, hq⟩

/-- Are all bytes 0? -/
def zeroB (l : List UInt8) : Bool := l.all (· == 0)
def orB (l : List UInt8) : Nat := l.foldl (fun x c => x ||| c.toNat) 0
theorem orB_lt (l : List UInt8) : orB l < 256 := by
  unfold orB
  have : ∀ (l : List UInt8) (x : Nat), x < 256 → l.foldl (fun x c => x ||| c.toNat) x < 256 := by
    intro l
    induction l with
    | nil => exact fun x h => h
    | cons c l ih => exact fun x h => ih _ (Nat.or_lt_two_pow (n := 8) h c.toNat_lt)
  exact this l 0 (by decide)
theorem orB_zero (l : List UInt8) : (orB l == 0) = zeroB l := by
  have : ∀ (l : List UInt8) (x : Nat), (l.foldl (fun x c => x ||| c.toNat) x == 0) = (x == 0 && l.all (· == 0)) := by
    intro l
    induction l with
    | nil => intro x; simp
    | cons c l ih =>
      intro x
      rw [List.foldl_cons, ih, List.all_cons]
      have : (x ||| c.toNat == 0) = (x == 0 && c == 0) := by
        rw [Bool.eq_iff_iff]
        simp [Nat.or_eq_zero_iff, ← UInt8.toNat_inj]
      rw [this, Bool.and_assoc]
  have h := this l 0
  simpa [orB, zeroB] using h

end Go.Proofs.Ytnghmgbmflcngaa

/- Are two rows of sectors the same. Conditions: typed in each theorem. -/
import Derived.Test.YtkemlpcfijfaeaaSpn
namespace Go.Proofs.Ytkemlpcfijfaeaa
set_option linter.unusedVariables false
open Go.RowKit

def eqBB (a b : List (List UInt8)) : Bool := decide (a = b)
theorem eqBB_len {a b : List (List UInt8)} (h : a.length ≠ b.length) : eqBB a b = false := by
  unfold eqBB; exact decide_eq_false fun e => h (by rw [e])
theorem eqBB_at {a b : List (List UInt8)} {k : Nat} (h : a[k]? ≠ b[k]?) : eqBB a b = false := by
  unfold eqBB; exact decide_eq_false fun e => h (by rw [e])
theorem eqBB_all {a b : List (List UInt8)} {n : Nat} (ha : a.length = n) (hb : b.length = n) (h : ∀ k, k < n → a[k]? = b[k]?) : eqBB a b = true := by
  unfold eqBB
  refine decide_eq_true (List.ext_getElem? fun k => ?_)
  by_cases hk : k < n
  · exact h k hk
  · rw [List.getElem?_eq_none (by omega), List.getElem?_eq_none (by omega)]
theorem ext_stepB {α : Type} {l m : List α} {k : Nat} (h : ∀ j, j < k → l[j]? = m[j]?) (hk : l[k]? = m[k]?) : ∀ j, j < k + 1 → l[j]? = m[j]? := ext_step h hk
def SameRelB (l m : List (List UInt8)) (n : Nat) (w : World) (i : Value) (wr : World) : Prop := ∃ k : Nat, k ≤ n ∧ i = .int .i64 k ∧ (∀ j, j < k → l[j]? = m[j]?) ∧ ∃ q, wr = w.drewN q
set_option maxRecDepth 100000 in
set_option maxHeartbeats 1000000 in
theorem same5_any (A1 A2 : Option Addr) (n1 c1 n2 c2 B : Nat) (L1 L2 : List (List UInt8)) (h1 : ∀ x ∈ L1, x.length = 64) (h2 : ∀ x ∈ L2, x.length = 64) (w : World) (r1 : RdB w B A1 n1 c1 L1) (r2 : RdB w B A2 n2 c2 L2) :
    Calls Try.prog 18 #[.slice A1 n1 c1, .slice A2 n2 c2] w (Quiet (.bool (eqBB L1 L2)) w) := by
  have m1 : (n1 : Int) ≤ 9223372036854775807 := by have := r1.cap; have := r1.max; unfold maxLen at this; omega
  have e1 := Lib.hid (r1.len h1)
  have e2 := Lib.hid (r2.len h2)
  have H1 := Lib.hid h1
  have H2 := Lib.hid h2
  clear h1 h2
  by_cases hn : n1 = n2
  · subst hn
    go_enter Try.func18, Try.ntmps18
    go_wp2
    go_loopw [13] (fun i wr => SameRelB L1 L2 n1 w i wr) (fun i _ => n1 - (intOf i).toNat)
    case atStart => exact ⟨0, Nat.zero_le _, rfl, fun j hj => absurd hj (Nat.not_lt_zero _), 0, rfl⟩
    case round =>
      obtain ⟨k, hk, rfl, hj, q, rfl⟩ := hrel
      have HJ := Lib.hid hj
      clear hj
      by_cases hlt : k < n1
      · obtain ⟨a1, x1, rfl, -, hx1, hl1, hc1⟩ := r1.at_ H1.out hlt
        obtain ⟨a2, x2, rfl, -, hx2, hl2, hc2⟩ := r2.at_ H2.out hlt
        have HC1 := Lib.hid hc1
        have HC2 := Lib.hid hc2
        have HX1 := Lib.hid hx1
        have HX2 := Lib.hid hx2
        have HL1 := Lib.hid hl1
        have HL2 := Lib.hid hl2
        clear hx1 hx2 hl1 hl2 hc1 hc2
        by_cases hx : x1 = x2
        · have HR : Hid ((x1 == x2) = !false) := Lib.hid (by rw [hx]; exact beq_self_eq_true _)
          have HX := Lib.hid hx
          clear hx
          go_wp2
          refine wp_region_quiet_lit (by kernel_rfl) (by kernel_rfl) ?_
          repeat (first | go_big_quiet_step (fail) | refine quiet_loadS rfl _ rfl (a1.add (k * 64)) rfl x1 HL1.out (by rintro _ ⟨m, rfl⟩; exact HC1.out) ?_ | refine quiet_loadS rfl _ rfl (a2.add (k * 64)) rfl x2 HL2.out (by rintro _ ⟨m, rfl⟩; exact HC2.out) ?_ | refine quiet_neqS rfl _ _ rfl x1 x2 rfl rfl HL1.out HL2.out false HR.out ?_ | quiet_step (fail))
          refine wpQuiet_nil ?_
          intro _ hw'
          obtain ⟨nq, hw''⟩ := hw'
          subst hw''
          go_wp2
          go_roundw
          case rel => exact ⟨k + 1, by omega, by go_num, ext_stepB HJ.out (by rw [HX1.out, HX2.out, HX.out]), by first | exact ⟨_, rfl⟩ | exact ⟨_, World.drewN_drewN _ _ _⟩⟩
          case measure => simp [intOf]; omega
        · have HR : Hid ((x1 == x2) = !true) := Lib.hid (beq_eq_false_iff_ne.2 hx)
          have HX := Lib.hid hx
          clear hx
          go_wp2
          refine wp_region_quiet_lit (by kernel_rfl) (by kernel_rfl) ?_
          repeat (first | go_big_quiet_step (fail) | refine quiet_loadS rfl _ rfl (a1.add (k * 64)) rfl x1 HL1.out (by rintro _ ⟨m, rfl⟩; exact HC1.out) ?_ | refine quiet_loadS rfl _ rfl (a2.add (k * 64)) rfl x2 HL2.out (by rintro _ ⟨m, rfl⟩; exact HC2.out) ?_ | refine quiet_neqS rfl _ _ rfl x1 x2 rfl rfl HL1.out HL2.out true HR.out ?_ | quiet_step (fail))
          refine wpQuiet_nil ?_
          intro _ hw'
          obtain ⟨nq, hw''⟩ := hw'
          subst hw''
          go_wp2
          go_ret
          exact ⟨by rw [eqBB_at (k := k) (by rw [HX1.out, HX2.out]; exact fun e => HX.out (Option.some.inj e))]; rfl, by first | exact ⟨_, rfl⟩ | exact ⟨_, World.drewN_drewN _ _ _⟩⟩
      · go_wp2
        go_ret
        exact ⟨by rw [eqBB_all e1.out e2.out (fun j hjn => HJ.out j (by omega))]; rfl, _, rfl⟩
  · have hne : ((n1 : Int) != (n2 : Int)) = true := by rw [bne_iff_ne]; omega
    go_enter Try.func18, Try.ntmps18
    go_wp2
    go_ret
    exact ⟨by rw [eqBB_len (by rw [e1.out, e2.out]; exact hn)]; rfl, 0, rfl⟩
end Go.Proofs.Ytkemlpcfijfaeaa

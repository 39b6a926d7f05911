/- icehouseref21.Right. Conditions: typed in each theorem. -/
import Derived.Test.YtnghmgbmflcngaaZrep
import Derived.Deep.DeepCutAuto
import Derived.BigGuardPart
namespace Go.Proofs.Ytnghmgbmflcngaa
set_option linter.unusedVariables false
open Go.RowKit

def x5 (a r e11 f n c s e16 : Bool) : Bool := (((a && !r && !e11) || (f && !r)) || (n && !c)) || (s && !e16)
def x7 (k e11 e16 v5 s16 : Bool) : Bool := ((k && (e11 || e16)) || v5) || s16
section
variable {st op : Int} {nv af ac an ns : Nat} {SL : List (ByteArray × ByteArray)}
theorem gen_5 : ∀ (a r e11 f n c s e16 k v5 s16 y : Bool), x5 a r e11 f n c s e16 = true → ((((((((false || (a && !(true && (r || e11)))) || (f && !(true && r))) || (k && !(true && (!e11 && !e16)))) || (n && !(true && c))) || (s && !(true && e16))) || v5) || s16) || y) = true := by decide
theorem gen_7 : ∀ (a r e11 f n c s e16 k v5 s16 y : Bool), x7 k e11 e16 v5 s16 = true → ((((((((false || (a && !(true && (r || e11)))) || (f && !(true && r))) || (k && !(true && (!e11 && !e16)))) || (n && !(true && c))) || (s && !(true && e16))) || v5) || s16) || y) = true := by decide
theorem gen_f : ∀ (a r e11 f n c s e16 k v5 s16 y : Bool), x5 a r e11 f n c s e16 = false → x7 k e11 e16 v5 s16 = false → ((((((((false || (a && !(true && (r || e11)))) || (f && !(true && r))) || (k && !(true && (!e11 && !e16)))) || (n && !(true && c))) || (s && !(true && e16))) || v5) || s16) || y) = y := by decide
theorem wr_0 (hst : st = 0) : wrongA st op nv af ac an ns SL = ((((((((false || (decide ((0 : Int) < (nv : Int)) && !(true && (isRead op || (op == 11))))) || (((af : Int) != 0) && !(true && isRead op))) || (((ac : Int) != 0) && !(true && (!(op == 11) && !(op == 16))))) || (((an : Int) != 0) && !(true && isCount op))) || (decide ((0 : Int) < (ns : Int)) && !(true && (op == 16)))) || decide ((512 : Int) < (nv : Int))) || decide ((16 : Int) < (ns : Int))) || SL.any badStat) := by
  subst hst
  unfold wrongA
  rw [show badSt 0 = false from rfl, show ((0 : Int) == 0) = true from rfl, show decide (0 < nv) = decide ((0 : Int) < (nv : Int)) from decide_eq_decide.2 (by omega), show decide (0 < ns) = decide ((0 : Int) < (ns : Int)) from decide_eq_decide.2 (by omega)]
  rfl
theorem wr_5 (hst : st = 0) : x5 (decide ((0 : Int) < (nv : Int))) (isRead op) (op == 11) ((af : Int) != 0) ((an : Int) != 0) (isCount op) (decide ((0 : Int) < (ns : Int))) (op == 16) = true → wrongA st op nv af ac an ns SL = true := fun h => by
  rw [wr_0 hst]
  exact gen_5 _ _ _ _ _ _ _ _ _ _ _ _ h
theorem wr_7 (hst : st = 0) : x7 ((ac : Int) != 0) (op == 11) (op == 16) (decide ((512 : Int) < (nv : Int))) (decide ((16 : Int) < (ns : Int))) = true → wrongA st op nv af ac an ns SL = true := fun h => by
  rw [wr_0 hst]
  exact gen_7 _ _ _ _ _ _ _ _ _ _ _ _ h
theorem wr_f (hst : st = 0) : x5 (decide ((0 : Int) < (nv : Int))) (isRead op) (op == 11) ((af : Int) != 0) ((an : Int) != 0) (isCount op) (decide ((0 : Int) < (ns : Int))) (op == 16) = false → x7 ((ac : Int) != 0) (op == 11) (op == 16) (decide ((512 : Int) < (nv : Int))) (decide ((16 : Int) < (ns : Int))) = false → wrongA st op nv af ac an ns SL = SL.any badStat := fun h h2 => by
  rw [wr_0 hst]
  exact gen_f _ _ _ _ _ _ _ _ _ _ _ _ h h2
theorem wr_any {p : ByteArray × ByteArray} (hp : p ∈ SL) (hb : badStat p = true) : wrongA st op nv af ac an ns SL = true := by
  unfold wrongA
  rw [List.any_eq_true.2 ⟨p, hp, hb⟩, Bool.or_true]
theorem wr_n (hst : st ≠ 0) (hsl : SL.length = ns) : wrongA st op nv af ac an ns SL = !((((((!(textB st).toList.isEmpty) && ((nv : Int) == 0)) && ((af : Int) == 0)) && ((ac : Int) == 0)) && ((an : Int) == 0)) && ((ns : Int) == 0)) := by
  have e0 : (st == 0) = false := beq_eq_false_iff_ne.2 hst
  have e1 : (st != 0) = true := bne_iff_ne.2 hst
  have ht : badSt st = (textB st).toList.isEmpty := by
    unfold badSt
    rw [e1, Bool.true_and]
  have hn : ∀ m : Nat, decide (0 < m) = !((m : Int) == 0) := fun m => by
    cases m with
    | zero => rfl
    | succ m =>
      rw [beq_eq_false_iff_ne.2 (by omega)]
      exact decide_eq_true (by omega)
  have hz : ∀ m : Nat, ((m : Int) != 0) = !((m : Int) == 0) := fun m => rfl
  unfold wrongA
  rw [e0, ht, hn nv, hn ns, hz, hz, hz]
  cases hns : ((ns : Int) == 0) with
  | false => simp
  | true =>
    have h0 : ns = 0 := by have := beq_iff_eq.1 hns; omega
    subst h0
    have hS : SL = [] := List.eq_nil_of_length_eq_zero hsl
    subst hS
    cases hv : ((nv : Int) == 0) with
    | false => simp
    | true =>
      have h1 : nv = 0 := by have := beq_iff_eq.1 hv; omega
      subst h1
      simp
end
end Go.Proofs.Ytnghmgbmflcngaa

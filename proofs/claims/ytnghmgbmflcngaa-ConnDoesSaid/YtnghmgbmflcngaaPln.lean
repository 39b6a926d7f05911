/- The plain answer to a request that a parser told. Conditions: typed in each theorem. -/
import Derived.Test.YtnghmgbmflcngaaCnd
import Derived.Test.YtnghmgbmflcngaaCop21
import Derived.Deep.DeepCutAuto
namespace Go.Proofs.Ytnghmgbmflcngaa
set_option linter.unusedVariables false
open Go.RowKit
def plC (q : RQ) : Bool := decide (q.bd = 0 ∧ q.op = 7)
structure PrQ (q : RQ) : Prop where
  bd : q.bd = 0 ∨ q.bd = 129 ∨ q.bd = 4 ∨ q.bd = 3
  oq : q.oq < 4294967296
  lk : q.lk.length ≤ 250
  lv : q.lv.length ≤ 512
theorem reqO_pr (op oq cas : Nat) (lx lk lv : List UInt8) (hoq : oq < 4294967296) : PrQ (reqO op oq cas lx lk lv) := by
  cases h : rowOf op with
  | none => rw [reqO_none h]; exact ⟨Or.inr (Or.inl rfl), hoq, by simp, by simp⟩
  | some x =>
    obtain ⟨o, q, f⟩ := x
    cases hb : badB o (shapeOf o).1 (shapeOf o).2.1 (shapeOf o).2.2 lx lk lv with
    | true => rw [reqO_bad h hb]; exact ⟨Or.inr (Or.inr (Or.inl rfl)), hoq, by simp, by simp⟩
    | false =>
      by_cases hv : 512 < lv.length
      · rw [reqO_large h hb hv]; exact ⟨Or.inr (Or.inr (Or.inr rfl)), hoq, by simp, by simp⟩
      · rw [reqO_good h hb (by omega)]
        refine ⟨Or.inl rfl, hoq, ?_, by show lv.length ≤ 512; omega⟩
        show lk.length ≤ 250
        unfold badB at hb
        simp only [Bool.or_eq_false_iff] at hb
        have := of_decide_eq_false hb.1.2
        omega
theorem nxt_pr {l : List UInt8} {q : RQ} {N : Nat} (h : nxt l = some (some (q, N))) : PrQ q := by
  obtain ⟨-, -, -, rfl, -⟩ := nxt_yes h
  exact reqO_pr _ _ _ _ _ _ (fld_lt l 12 4)
end Go.Proofs.Ytnghmgbmflcngaa

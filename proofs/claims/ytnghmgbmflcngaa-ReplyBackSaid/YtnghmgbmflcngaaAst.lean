/- Stats put into a row. Conditions: typed in each theorem. -/
import Derived.Test.YtnghmgbmflcngaaCop21
namespace Go.Proofs.Ytnghmgbmflcngaa
set_option linter.unusedVariables false
open Go.RowKit

theorem wpl_bsSt (w : World) {ops : Array Oper} {rest : List Oper} {o : Oper} {a : Act} {Q : Exit → Act → World → Prop} (hg : o.guard = none) (x : Operand) (ho : o.op = .buildSlice 27 1 #[(0, x)]) (cs : Array Value) (hx : a.eval x = .agg cs) (hl : cs.size = 2)
    (h : wpList Try.prog ops Q rest (a.put o.dst (.slice (some ⟨w.heap.size, 0, none⟩) 1 1)) (w.alloc (.cells cs 96))) : wpList Try.prog ops Q (o :: rest) a w := by
  obtain ⟨i, z, hi, hz, hs, _, _⟩ := statparts
  exact wpList_bs1 hg _ x ho 96 i z (.agg cs) 2 hx Try.underlying27 hi hz hs hl (by omega) (by decide) h
/-- append of stats: whose memory it is. -/
theorem wpl_appSt (w : World) {ops : Array Oper} {rest : List Oper} {o : Oper} {a : Act} {Q : Exit → Act → World → Prop}
    (hg : Region.wanted o (yielded ops a.tmps) = true) (s x : Operand) (hop : o.op = Op.call { callee := Callee.builtin Builtin.append, args := #[s, x], argTypes := #[27, 27] })
    (B : Nat) (A : Option Addr) (n c : Nat) (xs : List Value) (hs : a.eval s = .slice A n c) (hown : Oz w B 96 2 A n c xs)
    (B2 : Nat) (A2 : Option Addr) (m c2 : Nat) (news : List Value) (hx : a.eval x = .slice A2 m c2) (hr :  Rz w B2 2 A2 m c2 news) (h1 : ∀ u ∈ news, u.oneCell' = true)
    (hbytes : n + m ≤ 200000000000) (hbase : B ≤ w.heap.size)
    (hK : ∀ A' c' w', Oz w' B 96 2 A' (n + m) c' (xs ++ news) → w.grownBy w' (Value.slice A n c).ownBlock → ((Value.slice A' (n + m) c').ownBlock = (Value.slice A n c).ownBlock ∨ (Value.slice A' (n + m) c').ownBlock = some w.heap.size) → wpList Try.prog ops Q rest (a.put o.dst (.slice A' (n + m) c')) w') :
    wpList Try.prog ops Q (o :: rest) a w := by
  obtain ⟨i, z, hi, hz, hsz, hby, hzs⟩ := statparts
  refine wpList_want hg fun K hK' => ?_
  obtain ⟨A', c', w', hrun, r1, r2, r3⟩ := run_appz (P := Try.prog) w B 27 o.type 96 i z 2 32 Try.underlying27 hi hz hsz hby hzs (by omega) A n c xs hown B2 A2 m c2 news hr h1 (by unfold maxLen; omega) (by omega) hbase
  unfold Oper.wp
  simp [execOp, hop, resolve, invoke, builtin, hs, hx, hrun, Result.andThen]
  exact hK' _ _ (hK A' c' w' r1 r2 r3)
end Go.Proofs.Ytnghmgbmflcngaa

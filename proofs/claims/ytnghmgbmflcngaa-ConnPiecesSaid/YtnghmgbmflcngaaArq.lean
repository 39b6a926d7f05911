/- Slices of requests: a literal of one, append, an element loaded. Conditions: typed in each theorem. -/
import Derived.Test.YtnghmgbmflcngaaAlp
namespace Go.Proofs.Ytnghmgbmflcngaa
set_option linter.unusedVariables false
open Go.RowKit

theorem reqinfo : (Try.prog.info? 26).map (fun i => (i.size, i.bytes, i.zero.map (fun z => z.cells.size))) = some (12, (Try.prog.info? 26).elim 0 (·.bytes), some 12) := by kernel_rfl
theorem reqbytes : (Try.prog.info? 26).elim 0 (·.bytes) ≤ 200 := by decide +kernel
theorem req_parts : ∃ i z, Try.prog.info? 26 = some i ∧ i.zero = some z ∧ i.size = 12 ∧ i.bytes ≤ 200 ∧ z.cells.size = 12 := by
  have h := reqinfo
  have hb := reqbytes
  cases hi : Try.prog.info? 26 with
  | none => rw [hi] at h; cases h
  | some i =>
    rw [hi] at h hb
    simp only [Option.map_some, Option.some.injEq, Prod.mk.injEq] at h
    obtain ⟨h1, -, h2⟩ := h
    cases hz : i.zero with
    | none => rw [hz] at h2; cases h2
    | some z =>
      rw [hz] at h2
      simp only [Option.map_some, Option.some.injEq] at h2
      exact ⟨i, z, rfl, hz, h1, hb, h2⟩
/-- A slice literal of one request. -/
theorem wpl_bsR (w : World) {ops : Array Oper} {rest : List Oper} {o : Oper} {a : Act} {Q : Exit → Act → World → Prop} (hg : o.guard = none) (x : Operand) (ho : o.op = .buildSlice 75 1 #[(0, x)]) (cs : Array Value) (hx : a.eval x = .agg cs) (hl : cs.size = 12)
    (h : wpList Try.prog ops Q rest (a.put o.dst (.slice (some ⟨w.heap.size, 0, none⟩) 1 1)) (w.alloc (.cells cs 26))) : wpList Try.prog ops Q (o :: rest) a w := by
  obtain ⟨i, z, hi, hz, hs, _, _⟩ := req_parts
  exact wpList_bs1 hg _ x ho 26 i z (.agg cs) 12 hx Try.underlying75 hi hz hs hl (by omega) (by decide) h
/-- append of requests: whose memory it is. -/
theorem wpl_appR (w : World) {ops : Array Oper} {rest : List Oper} {o : Oper} {a : Act} {Q : Exit → Act → World → Prop}
    (hg : Region.wanted o (yielded ops a.tmps) = true) (s x : Operand) (hop : o.op = Op.call { callee := Callee.builtin Builtin.append, args := #[s, x], argTypes := #[75, 75] })
    (B : Nat) (A : Option Addr) (n c : Nat) (xs : List Value) (hs : a.eval s = .slice A n c) (hown : Oz w B 26 12 A n c xs)
    (B2 : Nat) (A2 : Option Addr) (m c2 : Nat) (news : List Value) (hx : a.eval x = .slice A2 m c2) (hr : Rz w B2 12 A2 m c2 news) (h1 : ∀ u ∈ news, u.oneCell' = true)
    (hbytes : n + m ≤ 200000000000) (hbase : B ≤ w.heap.size)
    (hK : ∀ A' c' w', Oz w' B 26 12 A' (n + m) c' (xs ++ news) → w.grownBy w' (Value.slice A n c).ownBlock → ((Value.slice A' (n + m) c').ownBlock = (Value.slice A n c).ownBlock ∨ (Value.slice A' (n + m) c').ownBlock = some w.heap.size) → wpList Try.prog ops Q rest (a.put o.dst (.slice A' (n + m) c')) w') :
    wpList Try.prog ops Q (o :: rest) a w := by
  obtain ⟨i, z, hi, hz, hsz, hby, hzs⟩ := req_parts
  refine wpList_want hg fun K hK' => ?_
  obtain ⟨A', c', w', hrun, r1, r2, r3⟩ := run_appz (P := Try.prog) w B 75 o.type 26 i z 12 i.bytes Try.underlying75 hi hz hsz rfl hzs (by omega) A n c xs hown B2 A2 m c2 news hr h1 (by unfold maxLen; omega) (Nat.le_trans (Nat.mul_le_mul_left _ hby) (by omega)) hbase
  unfold Oper.wp
  simp [execOp, hop, resolve, invoke, builtin, hs, hx, hrun, Result.andThen]
  exact hK' _ _ (hK A' c' w' r1 r2 r3)
end Go.Proofs.Ytnghmgbmflcngaa

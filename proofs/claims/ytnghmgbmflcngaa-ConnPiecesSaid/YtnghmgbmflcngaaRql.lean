/- Requests loaded out of rows, in a region that draws its order. Conditions: typed in each theorem. -/
import Derived.Test.YtnghmgbmflcngaaArq
import Derived.StillTailTactics
namespace Go.Proofs.Ytnghmgbmflcngaa
set_option linter.unusedVariables false
open Go.RowKit

theorem undReq : ∃ fs, Try.prog.underlying 26 = some (.struct fs) := by
  refine ⟨_, Try.underlying26⟩
theorem szReq : (Try.prog.info? 26).map (·.size) = some 12 := by kernel_rfl
theorem still_loadR {ops : Array Oper} {rest : List Oper} {o : Oper} {a : Act} {w : World} {Q : Act → Prop} (hw : Region.wanted o (yielded ops a.tmps) = true) (x : Operand) (ho : o.op = .load 26 x)
    (p : Addr) (hx : a.eval x = .pointer (some p)) (cs : List Value) (hl : cs.length = 12) (hc : ∀ j v, cs[j]? = some v → w.cell? (p.add j) = some v)
    (h : wpStill Try.prog ops w Q rest (a.put o.dst (.agg cs.toArray))) : wpStill Try.prog ops w Q (o :: rest) a := by
  obtain ⟨fs, hu⟩ := undReq
  refine wpStill_step fun K hK => ?_
  rw [if_pos hw]
  unfold Oper.still execOp
  simp only [ho, hx, Instr.loadAt, Instr.sureAddr, Sem.run_bind, Sem.run_pure, Result.andThen_ok, run_ldz w p _ cs _ hc hu rfl (by rw [hl]; exact szReq), Oper.stillUpon_value]
  exact hK _ h
/-- Element j of a row of told requests. -/
theorem told_at {w : World} {B n c : Nat} {A : Option Addr} {L : List (List Value)} {F : Nat → Prop} {qs : List RQ} (h : Rz w B 12 A n c L.flatten) (ht : TRow w F qs L) {j : Nat} (hj : j < qs.length) (hn : n = qs.length) :
    ∃ ad q K nk ck V nv cv, A = some ad ∧ qs[j]? = some q ∧ (∀ i v, (reqL q K nk ck V nv cv)[i]? = some v → w.cell? ((ad.add (j * 12)).add i) = some v) ∧ Rd w w.heap.size K nk ck q.lk ∧ Rd w w.heap.size V nv cv q.lv := by
  obtain ⟨ad, hA, hb, hl, hc⟩ := Rz.elem h (i := j) (by omega)
  have hq : qs[j]? = some qs[j] := List.getElem?_eq_getElem hj
  have hjl : j < L.length := by rw [ht.1]; exact hj
  have hL : L[j]? = some L[j] := List.getElem?_eq_getElem hjl
  obtain ⟨K, nk, ck, V, nv, cv, e, r1, r2⟩ := ht.2 j _ _ hq hL
  refine ⟨ad, _, K, nk, ck, V, nv, cv, hA, hq, fun i v hv => hc i v ?_, r1.1, r2.1⟩
  rw [flat_elem 12 L ht.lens hL, e]
  exact hv
end Go.Proofs.Ytnghmgbmflcngaa

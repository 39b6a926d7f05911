/- icehouseref20.Frame, one contract. Conditions: typed in each theorem. -/
import Derived.Test.YtnghmgbmflcngaaRf20
import Derived.Test.YtnghmgbmflcngaaRqn
import Derived.Test.YtnghmgbmflcngaaPfa
namespace Go.Proofs.Ytnghmgbmflcngaa
set_option linter.unusedVariables false
open Go.RowKit

theorem codeT_row : ∀ r ∈ codeT, rowOf r.1 = some r.2 := by decide +kernel
theorem codeT_sx : ∀ r ∈ codeT, (shapeOf (r.2.1 : Int)).1 = 0 ∨ (shapeOf (r.2.1 : Int)).1 = 4 ∨ (shapeOf (r.2.1 : Int)).1 = 8 ∨ (shapeOf (r.2.1 : Int)).1 = 20 := by decide +kernel
theorem codeOf_row2 {op : Int} {qt fu : Bool} {c : Nat} (h : codeOf op qt fu = some c) : ∃ o : Nat, rowOf c = some (o, qt, fu) ∧ (o : Int) = op ∧ ((shapeOf op).1 = 0 ∨ (shapeOf op).1 = 4 ∨ (shapeOf op).1 = 8 ∨ (shapeOf op).1 = 20) := by
  unfold codeOf at h
  obtain ⟨r, hr, rfl⟩ := Option.map_eq_some_iff.1 h
  have hm := List.mem_of_find?_eq_some hr
  have hp := List.find?_some hr
  obtain ⟨h1, h2, h3⟩ := isRow_iff.1 hp
  refine ⟨r.2.1, ?_, h1, by rw [← h1]; exact codeT_sx r hm⟩
  rw [codeT_row r hm, ← h2, ← h3]
theorem rframe_any (q : RQ) (hin : q.In) (K V : Option Addr) (nk ck nv cv : Nat) (w : World) (rK : Rd w w.heap.size K nk ck q.lk) (rV : Rd w w.heap.size V nv cv q.lv) (hnk : nk ≤ 60000) (hnv : nv ≤ 60000) :
    Calls Try.prog 46 #[q.val (.slice K nk ck) (.slice V nv cv)] w fun e w' => (∀ c, sayO q = some c → RFrOk c q.oq q.cs ((frmX q).length + nk + nv) nk nv (frmX q) q.lk q.lv w e w') ∧ (sayO q = none → RFrNo w e w') := by
  obtain ⟨h1, h2, h3, h4, h5⟩ := hin
  unfold RQ.val
  cases hc : code20 q.op q.qt q.fu q.bd with
  | none =>
    have hs : sayO q = none := by
      unfold sayO
      unfold code20 at hc
      by_cases hb : q.bd = 0
      · rw [if_pos hb] at hc ⊢
        rw [hc]
      · rw [if_neg hb]
    refine (rframe_none q.op q.qt q.fu q.bd q.oq q.fl q.ex q.cs q.dl q.ni K V nk ck nv cv w hc).mono fun e w' h => ⟨fun c hc2 => ?_, fun _ => h⟩
    rw [hs] at hc2
    cases hc2
  | some c =>
    have hb : q.bd = 0 := by
      unfold code20 at hc
      by_cases hb : q.bd = 0
      · exact hb
      · rw [if_neg hb] at hc; cases hc
    have hco : codeOf q.op q.qt q.fu = some c := by
      unfold code20 at hc
      rw [if_pos hb] at hc
      exact hc
    obtain ⟨o, hr, ho, hsx⟩ := codeOf_row2 hco
    have hc256 := codeOf_byte hco
    have hfi := findT_some hc256 hr (sx := (shapeOf (o : Int)).1) (sk := (shapeOf (o : Int)).2.1) (sv := (shapeOf (o : Int)).2.2) rfl
    rw [ho] at hfi
    have e := rqSame_eq (reqO c q.oq q.cs (frmX q) q.lk q.lv) q
    unfold rqSame at e
    rw [hb] at hc e ⊢
    refine (rframe_code q.op q.qt q.fu q.oq q.fl q.ex q.cs q.dl q.ni K V nk ck nv cv q.lk q.lv w rK rV h1 h2 h3 h4 h5 hnk hnv c hc256 hc o _ _ _ hfi hsx ho (fun h8 => by rw [h8]; rfl) (frmX q) rfl _ rfl _ rfl _ _ _ _ _ _ _ _ _ _ _ _ (fun W X K V cx ck cv r1 r2 r3 => rqn_any 128 c nk (frmX q).length 0 0 ((frmX q).length + nk + nv) q.oq q.cs X K V (frmX q).length cx nk ck nv cv (frmX q) q.lk q.lv W r1 r2 r3 hc256) _ e).mono fun e w' h => ⟨fun c2 hc2 => ?_, fun hn => ?_⟩
    · obtain ⟨-, g2, g3⟩ := sayO_yes hc2
      rw [hco] at g2
      injection g2 with g2
      subst g2
      exact h.1 (decide_eq_true g3)
    · refine h.2 (decide_eq_false fun g => ?_)
      rw [sayO_of hb hco g] at hn
      cases hn
end Go.Proofs.Ytnghmgbmflcngaa

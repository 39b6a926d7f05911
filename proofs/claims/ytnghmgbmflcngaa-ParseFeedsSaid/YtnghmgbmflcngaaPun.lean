/- parse.request by one function of the frame. Conditions: typed in each theorem. -/
import Derived.Test.YtnghmgbmflcngaaPrd
import Derived.Test.YtnghmgbmflcngaaPrn
namespace Go.Proofs.Ytnghmgbmflcngaa
set_option linter.unusedVariables false
open Go.RowKit

/-- A request, by its fields. -/
structure RQ where
  op : Int
  qt : Bool
  fu : Bool
  bd : Int
  oq : Nat
  lk : List UInt8
  lv : List UInt8
  fl : Nat
  ex : Nat
  cs : Nat
  dl : Nat
  ni : Nat
  deriving DecidableEq
/-- Which request a frame is. -/
def badB (o sx : Nat) (sk sv : Bool) (lx lk lv : List UInt8) : Bool := (decide (lx.length ≠ sx) && !(decide (o = 8) && decide (lx.length = 4))) || (decide (0 < lk.length) != sk) || decide (250 < lk.length) || (decide (0 < lv.length) && !sv)
def reqO (op oq cas : Nat) (lx lk lv : List UInt8) : RQ :=
  match rowOf op with
  | none => ⟨op, false, false, 129, oq, [], [], 0, 0, 0, 0, 0⟩
  | some r =>
    if badB r.1 (shapeOf r.1).1 (shapeOf r.1).2.1 (shapeOf r.1).2.2 lx lk lv = true then ⟨r.1, r.2.1, r.2.2, 4, oq, [], [], 0, 0, 0, 0, 0⟩
    else if 512 < lv.length then ⟨r.1, r.2.1, r.2.2, 3, oq, [], [], 0, 0, 0, 0, 0⟩
    else ⟨r.1, r.2.1, r.2.2, 0, oq, lk, lv, flOf lx.length lx, exOf lx.length lx, cas, dlOf lx.length lx, niOf lx.length lx⟩
theorem reqO_none {op oq cas : Nat} {lx lk lv : List UInt8} (h : rowOf op = none) : reqO op oq cas lx lk lv = ⟨op, false, false, 129, oq, [], [], 0, 0, 0, 0, 0⟩ := by
  unfold reqO; rw [h]
theorem reqO_bad {op oq cas o : Nat} {q f : Bool} {lx lk lv : List UInt8} (h : rowOf op = some (o, q, f)) (hb : badB o (shapeOf o).1 (shapeOf o).2.1 (shapeOf o).2.2 lx lk lv = true) : reqO op oq cas lx lk lv = ⟨o, q, f, 4, oq, [], [], 0, 0, 0, 0, 0⟩ := by
  unfold reqO; rw [h]; exact if_pos hb
theorem reqO_large {op oq cas o : Nat} {q f : Bool} {lx lk lv : List UInt8} (h : rowOf op = some (o, q, f)) (hb : badB o (shapeOf o).1 (shapeOf o).2.1 (shapeOf o).2.2 lx lk lv = false) (hv : 512 < lv.length) : reqO op oq cas lx lk lv = ⟨o, q, f, 3, oq, [], [], 0, 0, 0, 0, 0⟩ := by
  unfold reqO; rw [h]; exact (if_neg (by simp only [hb]; decide)).trans (if_pos hv)
theorem reqO_good {op oq cas o : Nat} {q f : Bool} {lx lk lv : List UInt8} (h : rowOf op = some (o, q, f)) (hb : badB o (shapeOf o).1 (shapeOf o).2.1 (shapeOf o).2.2 lx lk lv = false) (hv : lv.length ≤ 512) : reqO op oq cas lx lk lv = ⟨o, q, f, 0, oq, lk, lv, flOf lx.length lx, exOf lx.length lx, cas, dlOf lx.length lx, niOf lx.length lx⟩ := by
  unfold reqO; rw [h]; exact (if_neg (by simp only [hb]; decide)).trans (if_neg (by omega))
theorem shape_ext (op : Int) : (shapeOf op).1 = 0 ∨ (shapeOf op).1 = 4 ∨ (shapeOf op).1 = 8 ∨ (shapeOf op).1 = 20 := by
  unfold shapeOf
  split
  · simp
  · split
    · simp
    · split
      · simp
      · split
        · simp
        · split <;> simp
/-- What a request answers, whatever frame it is of. -/
def ReqA (q : RQ) (w : World) (e : Ending) (w' : World) : Prop := ReqQ q.op q.qt q.fu q.bd q.oq q.lk q.lv q.fl q.ex q.cs q.dl q.ni w e w'
theorem preq_any (mg op kl el ty st bl oq cas : Nat) (X K V : Option Addr) (nx cx nk ck nv cv : Nat) (lx lk lv : List UInt8) (w : World) (rX : Rd w w.heap.size X nx cx lx) (rK : Rd w w.heap.size K nk ck lk) (rV : Rd w w.heap.size V nv cv lv) (hop : op < 256) :
    Calls Try.prog 90 #[frV mg op kl el ty st bl oq cas (.slice X nx cx) (.slice K nk ck) (.slice V nv cv)] w (ReqA (reqO op oq cas lx lk lv) w) := by
  have e1 : lx.length = nx := rX.len
  have e2 : lk.length = nk := rK.len
  have e3 : lv.length = nv := rV.len
  cases hr : rowOf op with
  | none => rw [reqO_none hr]; exact preq_unk mg op kl el ty st bl oq cas X K V nx cx nk ck nv cv lx lk lv w rX rK rV hop hr
  | some r =>
    obtain ⟨o, q, f⟩ := r
    have hs : shapeOf (o : Int) = ((shapeOf (o : Int)).1, (shapeOf (o : Int)).2.1, (shapeOf (o : Int)).2.2) := rfl
    cases hb : badB o (shapeOf o).1 (shapeOf o).2.1 (shapeOf o).2.2 lx lk lv with
    | true =>
      rw [reqO_bad hr hb]
      unfold badB at hb
      rw [e1, e2, e3] at hb
      by_cases hx : nx = (shapeOf (o : Int)).1 ∨ (decide (o = 8) && decide (nx = 4)) = true
      · by_cases hk : decide ((0 : Int) < (nk : Int)) = (shapeOf (o : Int)).2.1
        · by_cases hk2 : 250 < nk
          · exact preq_l mg op kl el ty st bl oq cas X K V nx cx nk ck nv cv lx lk lv w rX rK rV hop o q f hr _ _ _ hs _ rfl hx hk hk2
          · have hk' : decide (0 < nk) = (shapeOf (o : Int)).2.1 := by
              rw [← hk]
              exact decide_eq_decide.2 (by omega)
            have h0 : (decide (nx ≠ (shapeOf (o : Int)).1) && !(decide (o = 8) && decide (nx = 4))) = false := by
              rcases hx with h | h
              · rw [decide_eq_false (by simp only [ne_eq, h, not_true_eq_false, not_false_eq_true])]; rfl
              · rw [h]; exact Bool.and_false _
            rw [h0, hk', decide_eq_false hk2] at hb
            have h4 : decide (0 < nv) = true ∧ (!(shapeOf (o : Int)).2.2) = true := by
              simpa using hb
            exact preq_v mg op kl el ty st bl oq cas X K V nx cx nk ck nv cv lx lk lv w rX rK rV hop o q f hr _ _ _ hs _ rfl hx hk (by omega) (of_decide_eq_true h4.1) (by simpa using h4.2)
        · exact preq_k mg op kl el ty st bl oq cas X K V nx cx nk ck nv cv lx lk lv w rX rK rV hop o q f hr _ _ _ hs _ rfl hx hk
      · rw [not_or] at hx
        exact preq_x mg op kl el ty st bl oq cas X K V nx cx nk ck nv cv lx lk lv w rX rK rV hop o q f hr _ _ _ hs _ rfl hx.1 (by simpa using hx.2)
    | false =>
      have hb' := hb
      unfold badB at hb'
      rw [e1, e2, e3, Bool.or_eq_false_iff, Bool.or_eq_false_iff, Bool.or_eq_false_iff, Bool.and_eq_false_iff, Bool.and_eq_false_iff] at hb'
      obtain ⟨⟨⟨h1, h2⟩, h3⟩, h4⟩ := hb'
      have hx : nx = (shapeOf (o : Int)).1 ∨ (decide (o = 8) && decide (nx = 4)) = true := by
        rcases h1 with h | h
        · have := of_decide_eq_false h; exact Or.inl (by omega)
        · exact Or.inr (by simpa using h)
      have hk : decide ((0 : Int) < (nk : Int)) = (shapeOf (o : Int)).2.1 := by
        have : decide (0 < nk) = (shapeOf (o : Int)).2.1 := by simpa using h2
        rw [← this]
        exact decide_eq_decide.2 (by omega)
      have hk2 : nk ≤ 250 := by have := of_decide_eq_false h3; omega
      have hv : 0 < nv → (shapeOf (o : Int)).2.2 = true := by
        intro h
        rcases h4 with h' | h'
        · exact absurd h (of_decide_eq_false h')
        · simpa using h'
      by_cases hv2 : 512 < nv
      · rw [reqO_large hr hb (by omega)]
        exact preq_b mg op kl el ty st bl oq cas X K V nx cx nk ck nv cv lx lk lv w rX rK rV hop o q f hr _ _ _ hs _ rfl hx hk hk2 hv hv2
      · rw [reqO_good hr hb (by omega), e1]
        refine preq_good mg op kl el ty st bl oq cas X K V nx cx nk ck nv cv lx lk lv w rX rK rV hop o q f hr _ _ _ hs _ rfl hx hk hk2 hv (by omega) ?_
        rcases hx with h | h
        · rcases shape_ext (o : Int) with h' | h' | h' | h' <;> omega
        · have := (Bool.and_eq_true_iff.1 h).2
          have := of_decide_eq_true this
          omega
end Go.Proofs.Ytnghmgbmflcngaa

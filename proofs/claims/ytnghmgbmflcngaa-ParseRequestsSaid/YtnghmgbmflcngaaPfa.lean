/- parse.Frame and parse.Request by one function of the request; a request's frame says it. Conditions: typed in each theorem. -/
import Derived.Test.YtnghmgbmflcngaaZpar
import Derived.Test.YtnghmgbmflcngaaPfr
import Derived.Test.YtnghmgbmflcngaaPfn
import Derived.Test.YtnghmgbmflcngaaPfl
namespace Go.Proofs.Ytnghmgbmflcngaa
set_option linter.unusedVariables false
open Go.RowKit

/-- The request in a box, as a value. -/
def RQ.val (q : RQ) (K V : Value) : Value := reqV q.op q.qt q.fu q.bd q.oq K V q.fl q.ex q.cs q.dl q.ni
def rqSame (a b : RQ) : Bool := reqSame a.op b.op a.bd b.bd a.qt b.qt a.fu b.fu a.oq b.oq a.fl b.fl a.ex b.ex a.cs b.cs a.dl b.dl a.ni b.ni a.lk b.lk a.lv b.lv
theorem rqSame_eq (a b : RQ) : rqSame a b = decide (a = b) := by
  unfold rqSame reqSame
  refine decide_eq_decide.2 ?_
  cases a; cases b
  simp only [RQ.mk.injEq]
  refine ⟨fun ⟨h0, h1, h2, h3, h4, h5, h6, h7, h8, h9, h10, h11⟩ => ⟨h0, h2, h3, h1, h4, h10, h11, h5, h6, h7, h8, h9⟩, fun ⟨h0, h2, h3, h1, h4, h10, h11, h5, h6, h7, h8, h9⟩ => ⟨h0, h1, h2, h3, h4, h5, h6, h7, h8, h9, h10, h11⟩⟩
/-- The extras of a request's frame. -/
def frmX (q : RQ) : List UInt8 := xaB (shapeOf q.op).1 q.fl q.dl q.ni ++ xbB (putsEx q.op (shapeOf q.op).1 q.ex) q.ex
/-- Which code says a request. -/
def sayO (q : RQ) : Option Nat := if q.bd = 0 then (match codeOf q.op q.qt q.fu with | none => none | some c => if reqO c q.oq q.cs (frmX q) q.lk q.lv = q then some c else none) else none
theorem sayO_yes {q : RQ} {c : Nat} (h : sayO q = some c) : q.bd = 0 ∧ codeOf q.op q.qt q.fu = some c ∧ reqO c q.oq q.cs (frmX q) q.lk q.lv = q := by
  unfold sayO at h
  split at h
  · rename_i h1
    split at h
    · cases h
    · rename_i c' h2
      split at h
      · rename_i h3
        injection h with h
        subst h
        exact ⟨h1, h2, h3⟩
      · cases h
  · cases h
theorem sayO_of {q : RQ} {c : Nat} (h1 : q.bd = 0) (h2 : codeOf q.op q.qt q.fu = some c) (h3 : reqO c q.oq q.cs (frmX q) q.lk q.lv = q) : sayO q = some c := by
  unfold sayO
  rw [if_pos h1, h2]
  exact if_pos h3
theorem sayO_no {q : RQ} (h : sayO q = none) : q.bd ≠ 0 ∨ codeOf q.op q.qt q.fu = none ∨ (q.bd = 0 ∧ ∃ c, codeOf q.op q.qt q.fu = some c ∧ reqO c q.oq q.cs (frmX q) q.lk q.lv ≠ q) := by
  by_cases h1 : q.bd = 0
  · cases h2 : codeOf q.op q.qt q.fu with
    | none => exact .inr (.inl rfl)
    | some c => exact .inr (.inr ⟨h1, c, rfl, fun h3 => by rw [sayO_of h1 h2 h3] at h; cases h⟩)
  · exact .inl h1
theorem reqO_zero {op oq cas : Nat} {lx lk lv : List UInt8} (h : (reqO op oq cas lx lk lv).bd = 0) : ∃ o q f, rowOf op = some (o, q, f) ∧ badB o (shapeOf o).1 (shapeOf o).2.1 (shapeOf o).2.2 lx lk lv = false ∧ lv.length ≤ 512 ∧ reqO op oq cas lx lk lv = ⟨o, q, f, 0, oq, lk, lv, flOf lx.length lx, exOf lx.length lx, cas, dlOf lx.length lx, niOf lx.length lx⟩ := by
  cases hr : rowOf op with
  | none => rw [reqO_none hr] at h; cases h
  | some r =>
    obtain ⟨o, q, f⟩ := r
    cases hb : badB o (shapeOf o).1 (shapeOf o).2.1 (shapeOf o).2.2 lx lk lv with
    | true => rw [reqO_bad hr hb] at h; cases h
    | false =>
      by_cases hv : 512 < lv.length
      · rw [reqO_large hr hb hv] at h; cases h
      · exact ⟨o, q, f, rfl, hb, by omega, reqO_good hr hb (by omega)⟩
theorem badB_key {o sx : Nat} {sk sv : Bool} {lx lk lv : List UInt8} (h : badB o sx sk sv lx lk lv = false) : lk.length ≤ 250 ∧ (lx.length = sx ∨ (o = 8 ∧ lx.length = 4)) := by
  unfold badB at h
  rw [Bool.or_eq_false_iff, Bool.or_eq_false_iff, Bool.or_eq_false_iff, Bool.and_eq_false_iff] at h
  obtain ⟨⟨⟨h1, -⟩, h3⟩, -⟩ := h
  refine ⟨by have := of_decide_eq_false h3; omega, ?_⟩
  rcases h1 with h | h
  · have := of_decide_eq_false h; exact .inl (by omega)
  · right; simpa using h
theorem high_fld20 {l : List UInt8} {o k : Nat} (h : o + k ≤ l.length) : highB (fld l o k) k = (l.drop o).take k :=
  highB_numB k _ (by rw [List.length_take, List.length_drop]; omega)
theorem codeOf_row {op o : Nat} {q f : Bool} (h : rowOf op = some (o, q, f)) : codeOf (o : Int) q f = some op := by
  obtain ⟨j, hj, hm⟩ := List.mem_iff_getElem.1 (rowOf_mem h)
  exact codeOf_at (j := j) (by rw [List.getElem?_eq_getElem hj, hm]) rfl rfl rfl
theorem shape_8 : shapeOf 8 = (0, false, false) := by decide
/-- The extras that a request's frame is given are those that it was told of, or none. -/
theorem ext_law {o : Nat} {q f : Bool} {oq cas : Nat} {lx lk lv : List UInt8} (h : lx.length = (shapeOf o).1 ∨ (o = 8 ∧ lx.length = 4)) {x : List UInt8} (hx : x = frmX ⟨o, q, f, 0, oq, lk, lv, flOf lx.length lx, exOf lx.length lx, cas, dlOf lx.length lx, niOf lx.length lx⟩) : x = lx ∨ (x = [] ∧ o = 8 ∧ lx.length = 4 ∧ exOf lx.length lx = 0) := by
  unfold frmX at hx
  simp only at hx
  have eq0 : ∀ l : List UInt8, (l.drop 0) = l := fun _ => rfl
  by_cases h8 : o = 8
  · subst h8
    have hs : (shapeOf ((8 : Nat) : Int)).1 = 0 := by decide
    rw [hs] at h hx
    have e1 : xaB 0 (flOf lx.length lx) (dlOf lx.length lx) (niOf lx.length lx) = [] := rfl
    rw [e1, List.nil_append] at hx
    unfold xbB putsEx at hx
    rcases h with h | ⟨-, h⟩
    · have e : lx = [] := List.eq_nil_of_length_eq_zero h
      subst e
      left
      rw [hx]
      rfl
    · by_cases hz : exOf lx.length lx = 0
      · right
        rw [hz] at hx
        exact ⟨hx, rfl, h, hz⟩
      · left
        rw [if_pos (by simp [hz])] at hx
        rw [hx]
        unfold exOf
        rw [if_pos h, high_fld20 (by omega), eq0]
        exact List.take_of_length_le (by omega)
  · have h' : lx.length = (shapeOf o).1 := by
      rcases h with h | ⟨h, -⟩
      · exact h
      · exact absurd h h8
    left
    have hp : putsEx (o : Int) (shapeOf o).1 (exOf lx.length lx) = decide (0 < (shapeOf o).1) := by
      unfold putsEx
      rw [decide_eq_false (p := (o : Int) = 8) (by omega), Bool.false_and, Bool.or_false]
    rw [hp] at hx
    rcases shape_ext (o : Int) with hs | hs | hs | hs
    · rw [hs] at h' hx
      have e : lx = [] := List.eq_nil_of_length_eq_zero h'
      subst e
      rw [hx]; rfl
    · rw [hs] at h' hx
      rw [hx, h']
      show [] ++ highB (fld lx 0 4) 4 = lx
      rw [List.nil_append, high_fld20 (by omega), eq0]
      exact List.take_of_length_le (by omega)
    · rw [hs] at h' hx
      rw [hx, h']
      show highB (fld lx 0 4) 4 ++ highB (fld lx 4 4) 4 = lx
      rw [high_fld20 (by omega), high_fld20 (by omega), eq0, ← List.take_add]
      exact List.take_of_length_le (by omega)
    · rw [hs] at h' hx
      rw [hx, h']
      show (highB (fld lx 0 8) 8 ++ highB (fld lx 8 8) 8) ++ highB (fld lx 16 4) 4 = lx
      rw [high_fld20 (by omega), high_fld20 (by omega), high_fld20 (by omega), eq0, ← List.take_add, ← List.take_add]
      exact List.take_of_length_le (by omega)
/-- A request that is not refused has a frame that says it. -/
theorem say_of_req {op oq cas : Nat} {lx lk lv : List UInt8} (h : (reqO op oq cas lx lk lv).bd = 0) : sayO (reqO op oq cas lx lk lv) = some op ∧ (reqO op oq cas lx lk lv).lk = lk ∧ (reqO op oq cas lx lk lv).lv = lv ∧ lk.length ≤ 250 ∧ lv.length ≤ 512 := by
  obtain ⟨o, q, f, hr, hb, hv, he⟩ := reqO_zero h
  obtain ⟨hk, hx⟩ := badB_key hb
  rw [he]
  refine ⟨sayO_of rfl (codeOf_row hr) ?_, rfl, rfl, hk, hv⟩
  rcases ext_law (q := q) (f := f) (oq := oq) (cas := cas) (lk := lk) (lv := lv) hx rfl with e | ⟨e, e8, e4, ee⟩
  · rw [e]; exact he
  · rw [e]
    subst e8
    have hb' : badB 8 (shapeOf ((8 : Nat) : Int)).1 (shapeOf ((8 : Nat) : Int)).2.1 (shapeOf ((8 : Nat) : Int)).2.2 [] lk lv = false := by
      unfold badB at hb ⊢
      rw [Bool.or_eq_false_iff, Bool.or_eq_false_iff, Bool.or_eq_false_iff] at hb ⊢
      exact ⟨⟨⟨by decide, hb.1.1.2⟩, hb.1.2⟩, hb.2⟩
    have h2 := reqO_good (oq := oq) (cas := cas) hr hb' hv
    rw [h2]
    rw [ee, e4]
    rfl
/-- Bounds of a request's numbers. -/
def RQ.In (q : RQ) : Prop := q.oq < 4294967296 ∧ q.fl < 4294967296 ∧ q.ex < 4294967296 ∧ q.dl < 18446744073709551616 ∧ q.ni < 18446744073709551616
theorem flOf_lt (n : Nat) (l : List UInt8) : flOf n l < 4294967296 := by
  unfold flOf; split
  · exact fld_lt l 0 4
  · decide
theorem exOf_lt (n : Nat) (l : List UInt8) : exOf n l < 4294967296 := by
  unfold exOf; split
  · exact fld_lt l 0 4
  · split
    · exact fld_lt l 4 4
    · split
      · exact fld_lt l 16 4
      · decide
theorem dlOf_lt (n : Nat) (l : List UInt8) : dlOf n l < 18446744073709551616 := by
  unfold dlOf; split
  · exact fld_lt l 0 8
  · decide
theorem niOf_lt (n : Nat) (l : List UInt8) : niOf n l < 18446744073709551616 := by
  unfold niOf; split
  · exact fld_lt l 8 8
  · decide
theorem z32 : (0 : Nat) < 4294967296 := by decide
theorem z64 : (0 : Nat) < 18446744073709551616 := by decide
theorem reqO_in {op oq cas : Nat} {lx lk lv : List UInt8} (h : oq < 4294967296) : (reqO op oq cas lx lk lv).In := by
  unfold reqO
  split
  · exact ⟨h, z32, z32, z64, z64⟩
  · split
    · exact ⟨h, z32, z32, z64, z64⟩
    · split
      · exact ⟨h, z32, z32, z64, z64⟩
      · exact ⟨h, flOf_lt _ _, exOf_lt _ _, dlOf_lt _ _, niOf_lt _ _⟩
theorem codeT_byte : ∀ r ∈ codeT, r.1 < 256 := by decide +kernel
theorem codeOf_byte {op : Int} {qt fu : Bool} {c : Nat} (h : codeOf op qt fu = some c) : c < 256 := by
  unfold codeOf at h
  obtain ⟨r, hr, rfl⟩ := Option.map_eq_some_iff.1 h
  exact codeT_byte r (List.mem_of_find?_eq_some hr)
/-- parse.Frame where the request has a frame. -/
theorem pframe_O (q : RQ) (hin : q.In) (c : Nat) (h : sayO q = some c) (K V : Option Addr) (nk ck nv cv : Nat) (w : World) (rK : Rd w w.heap.size K nk ck q.lk) (rV : Rd w w.heap.size V nv cv q.lv) :
    Calls Try.prog 42 #[q.val (.slice K nk ck) (.slice V nv cv)] w (FrameOk c q.oq q.cs ((frmX q).length + nk + nv) nk nv (frmX q) q.lk q.lv w) := by
  obtain ⟨hb, hc, hr⟩ := sayO_yes h
  have hz : (reqO c q.oq q.cs (frmX q) q.lk q.lv).bd = 0 := by rw [hr]; exact hb
  obtain ⟨-, -, -, hk, hv⟩ := say_of_req hz
  obtain ⟨h1, h2, h3, h4, h5⟩ := hin
  have e2 := rK.len
  have e3 := rV.len
  have hx : (frmX q).length ≤ 20 := by
    unfold frmX
    rw [List.length_append]
    have := xaB_len (shapeOf q.op).1 q.fl q.dl q.ni
    have := xbB_len (putsEx q.op (shapeOf q.op).1 q.ex) q.ex
    omega
  unfold RQ.val
  rw [hb]
  exact pframe_yes q.op q.qt q.fu q.oq q.fl q.ex q.cs q.dl q.ni K V nk ck nv cv q.lk q.lv w rK rV h1 h2 h3 h4 h5 c (codeOf_byte hc) hc _ _ _ rfl (frmX q) rfl _ rfl _ rfl (by unfold tooLong; omega) (by omega)
    q.op q.qt q.fu 0 q.oq q.lk q.lv q.fl q.ex q.cs q.dl q.ni (fun W X K V cx ck cv r1 r2 r3 => by
      have h6 := preq_any 128 c nk (frmX q).length 0 0 ((frmX q).length + nk + nv) q.oq q.cs X K V (frmX q).length cx nk ck nv cv (frmX q) q.lk q.lv W r1 r2 r3 (codeOf_byte hc)
      rw [hr] at h6
      unfold ReqA at h6
      rw [hb] at h6
      exact h6) (reqSame_yes ⟨rfl, rfl, rfl, rfl, rfl, rfl, rfl, rfl, rfl, rfl, rfl, rfl⟩)
/-- parse.Frame where it has none. -/
theorem pframe_N (q : RQ) (hin : q.In) (h : sayO q = none) (K V : Option Addr) (nk ck nv cv : Nat) (w : World) (rK : Rd w w.heap.size K nk ck q.lk) (rV : Rd w w.heap.size V nv cv q.lv) (hnn : nk + nv ≤ 281474976710656) :
    Calls Try.prog 42 #[q.val (.slice K nk ck) (.slice V nv cv)] w (FrameNo w) := by
  obtain ⟨h1, h2, h3, h4, h5⟩ := hin
  rcases sayO_no h with hb | hc | ⟨hb, c, hc, hr⟩
  · exact pframe_none q.op q.qt q.fu q.bd q.oq q.fl q.ex q.cs q.dl q.ni K V nk ck nv cv w (fun W => code_bad q.op q.qt q.fu q.bd hb q.oq _ _ q.fl q.ex q.cs q.dl q.ni W)
  · by_cases hb : q.bd = 0
    · exact pframe_none q.op q.qt q.fu q.bd q.oq q.fl q.ex q.cs q.dl q.ni K V nk ck nv cv w (fun W => by
        have := code_any q.op q.qt q.fu q.oq (.slice K nk ck) (.slice V nv cv) q.fl q.ex q.cs q.dl q.ni W
        rw [hc] at this
        rw [hb]
        exact this)
    · exact pframe_none q.op q.qt q.fu q.bd q.oq q.fl q.ex q.cs q.dl q.ni K V nk ck nv cv w (fun W => code_bad q.op q.qt q.fu q.bd hb q.oq _ _ q.fl q.ex q.cs q.dl q.ni W)
  · unfold RQ.val
    rw [hb]
    by_cases ht : tooLong (frmX q).length nk nv
    · exact pframe_long q.op q.qt q.fu q.oq q.fl q.ex q.cs q.dl q.ni K V nk ck nv cv q.lk q.lv w rK rV h1 h2 h3 h4 h5 c (codeOf_byte hc) hc _ _ _ rfl (frmX q) rfl _ rfl _ rfl ht hnn
    · have h7 : rqSame (reqO c q.oq q.cs (frmX q) q.lk q.lv) q = false := by rw [rqSame_eq]; exact decide_eq_false hr
      refine pframe_not q.op q.qt q.fu q.oq q.fl q.ex q.cs q.dl q.ni K V nk ck nv cv q.lk q.lv w rK rV h1 h2 h3 h4 h5 c (codeOf_byte hc) hc _ _ _ rfl (frmX q) rfl _ rfl _ rfl ht hnn
        (reqO c q.oq q.cs (frmX q) q.lk q.lv).op (reqO c q.oq q.cs (frmX q) q.lk q.lv).qt (reqO c q.oq q.cs (frmX q) q.lk q.lv).fu (reqO c q.oq q.cs (frmX q) q.lk q.lv).bd (reqO c q.oq q.cs (frmX q) q.lk q.lv).oq (reqO c q.oq q.cs (frmX q) q.lk q.lv).lk (reqO c q.oq q.cs (frmX q) q.lk q.lv).lv (reqO c q.oq q.cs (frmX q) q.lk q.lv).fl (reqO c q.oq q.cs (frmX q) q.lk q.lv).ex (reqO c q.oq q.cs (frmX q) q.lk q.lv).cs (reqO c q.oq q.cs (frmX q) q.lk q.lv).dl (reqO c q.oq q.cs (frmX q) q.lk q.lv).ni (fun W X K V cx ck cv r1 r2 r3 => ?_) ?_
      · exact preq_any 128 c nk (frmX q).length 0 0 ((frmX q).length + nk + nv) q.oq q.cs X K V (frmX q).length cx nk ck nv cv (frmX q) q.lk q.lv W r1 r2 r3 (codeOf_byte hc)
      · unfold rqSame at h7
        rw [hb] at h7
        exact h7
end Go.Proofs.Ytnghmgbmflcngaa

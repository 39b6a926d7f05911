/- Bytes read as an answer, in plain words: the program's way and the document's answer the same. Conditions: typed in each theorem. -/
import Derived.Test.YtnghmgbmflcngaaGth
import Derived.Test.YtnghmgbmflcngaaTold
import Derived.Test.YtnghmgbmflcngaaRb21
import Derived.Test.YtnghmgbmflcngaaFrv
namespace Go.Proofs.Ytnghmgbmflcngaa
set_option linter.unusedVariables false
open Go.RowKit

/-- What the last frame tells: value, flags, number (the program's way). -/
def lastV (op : Int) (lv : List UInt8) (st : Int) : List UInt8 := if st = 0 ∧ (isRead op = true ∨ op = 11) then lv else []
def lastF (op : Int) (lx : List UInt8) (st : Int) : Nat := if st = 0 ∧ isRead op = true then numQ (takeR lx 0 0 4).1 % 4294967296 else 0
def lastN (op : Int) (lv : List UInt8) (st : Int) : Nat := if st = 0 ∧ isCount op = true then numQ (takeR lv 0 0 8).1 % 18446744073709551616 else 0
/-- The document's way. -/
def lastF' (op : Int) (lx : List UInt8) (st : Int) : Nat := if st = 0 ∧ isRead op = true ∧ lx.length = 4 then numQ lx % 4294967296 else 0
def lastN' (op : Int) (lv : List UInt8) (st : Int) : Nat := if st = 0 ∧ isCount op = true ∧ lv.length = 8 then numQ lv else 0
/-- What Read answers. -/
structure AR where
  st : Int
  V : List UInt8
  F : Nat
  C : Nat
  N : Nat
  SL : List (ByteArray × ByteArray)
  at_ : Nat
  er : Int
def AR.no (e : Int) : AR := ⟨0, [], 0, 0, 0, [], 0, e⟩
def AR.ps (op : Int) (fu : Bool) (lk : List UInt8) (R : AR) : List SP := allP op fu R.st R.F R.C R.N lk R.V R.SL
def AR.wrong (op : Int) (R : AR) : Bool := wrongA R.st op R.V.length R.F R.C R.N R.SL.length R.SL
def toldA (op : Int) (SL : List (ByteArray × ByteArray)) (f : List UInt8) (N : Nat) : AR := ⟨(fld f 6 2 : Nat), lastV op (gV f) (fld f 6 2 : Nat), lastF op (gX f) (fld f 6 2 : Nat), fld f 16 8, lastN op (gV f) (fld f 6 2 : Nat), SL, N, 0⟩
def toldF (op : Int) (SL : List (ByteArray × ByteArray)) (f : List UInt8) (N : Nat) : AR := ⟨(fld f 6 2 : Nat), lastV op (gV f) (fld f 6 2 : Nat), lastF' op (gX f) (fld f 6 2 : Nat), fld f 16 8, lastN' op (gV f) (fld f 6 2 : Nat), SL, N, 0⟩
def AR.okP (op : Int) (qt fu : Bool) (oq : Nat) (lk l : List UInt8) (R : AR) : Prop := (∀ p ∈ R.ps op fu lk, p.fits) ∧ R.wrong op = false ∧ spB (codeB op qt fu) oq (R.ps op fu lk) = l.take R.at_
def AR.okF (op : Int) (qt fu : Bool) (oq : Nat) (lk l : List UInt8) (R : AR) : Prop := okB op fu R.st lk.length R.V.length = true ∧ R.wrong op = false ∧ rspB (codeB op qt fu) oq (R.ps op fu lk) = l.take R.at_
instance (op : Int) (qt fu : Bool) (oq : Nat) (lk l : List UInt8) (R : AR) : Decidable (R.okP op qt fu oq lk l) := by unfold AR.okP; infer_instance
instance (op : Int) (qt fu : Bool) (oq : Nat) (lk l : List UInt8) (R : AR) : Decidable (R.okF op qt fu oq lk l) := by unfold AR.okF; infer_instance
def readP (op : Int) (qt fu : Bool) (oq : Nat) (lk l : List UInt8) : AR :=
  match gather op 17 l with
  | .short => .no 9
  | .bad => .no 310
  | .done N SL f => if (toldA op SL f N).okP op qt fu oq lk l then toldA op SL f N else .no 310
def readF (op : Int) (qt fu : Bool) (oq : Nat) (lk l : List UInt8) : AR :=
  match gather op 17 l with
  | .short => .no 9
  | .bad => .no 310
  | .done N SL f => if (toldF op SL f N).okF op qt fu oq lk l then toldF op SL f N else .no 310
theorem rp_rb {p : SP} (hf : p.fits) (cb oq : Nat) : p.bytes cb oq = p.rbytes cb oq := by
  unfold SP.fits tooLong at hf
  unfold SP.bytes SP.rbytes
  rw [show p.lk.length % 65536 = p.lk.length from by omega, show p.lx.length % 256 = p.lx.length from by omega, show (p.lx.length + p.lk.length + p.lv.length) % 4294967296 = p.lx.length + p.lk.length + p.lv.length from by omega]
  simp only [List.append_assoc]
theorem rpB_rb (cb oq : Nat) : ∀ Ps : List SP, (∀ p ∈ Ps, p.fits) → spB cb oq Ps = rspB cb oq Ps := by
  intro Ps h
  unfold spB rspB
  congr 1
  exact List.map_congr_left fun p hp => rp_rb (h p hp) cb oq
theorem fit_ok (op : Int) (fu : Bool) (st : Int) (af ac an : Nat) (lk lv : List UInt8) (SL : List (ByteArray × ByteArray)) (h : ∀ p ∈ allP op fu st af ac an lk lv SL, p.fits) : okB op fu st lk.length lv.length = true := by
  unfold okB
  unfold allP at h
  by_cases h0 : st = 0
  · rw [if_neg (show ¬ (st ≠ 0) from fun h => h h0)] at h ⊢
    split
    · rename_i hr
      rw [if_pos hr] at h
      have := h _ (List.mem_singleton.2 rfl)
      unfold SP.fits tooLong at this
      simp only [length_highB] at this
      apply decide_eq_true
      cases fu with
      | true => simp only [if_true] at this ⊢; omega
      | false => simp only [Bool.false_eq_true, if_false, List.length_nil] at this ⊢; omega
    · rfl
  · rw [if_pos h0]
theorem ok_fit (op : Int) (fu : Bool) (st : Int) (af ac an nk nv ns : Nat) (lk lv : List UInt8) (SL : List (ByteArray × ByteArray)) (hk : lk.length = nk) (hv : lv.length = nv) (hw : wrongA st op nv af ac an ns SL = false) (hok : okB op fu st nk nv = true) (hnk : nk ≤ 5000) :
    ∀ p ∈ allP op fu st af ac an lk lv SL, p.fits := by
  obtain ⟨h1, h2, h3⟩ := wrong_lens hw
  have tl : ∀ s : ByteArray, s.data.toList.length = s.size := fun s => by rw [Array.length_toList]; rfl
  intro p hp
  unfold allP at hp
  unfold okB at hok
  by_cases h0 : st = 0
  · rw [if_neg (show ¬ (st ≠ 0) from fun h => h h0)] at hp hok
    split at hp
    · rename_i hr
      rw [if_pos hr] at hok
      have hle := of_decide_eq_true hok
      rw [List.mem_singleton] at hp
      subst hp
      unfold SP.fits tooLong
      cases fu with
      | true =>
        rw [if_pos rfl] at hle
        simp only [if_true, length_highB]
        omega
      | false =>
        simp only [length_highB, Bool.false_eq_true, if_false, List.length_nil]
        simp only [Bool.false_eq_true, if_false] at hle
        omega
    · split at hp
      · rw [List.mem_singleton] at hp
        subst hp
        unfold SP.fits tooLong
        simp only [length_highB, List.length_nil]
        omega
      · split at hp
        · rw [List.mem_singleton] at hp
          subst hp
          unfold SP.fits tooLong
          simp only [List.length_nil]
          omega
        · split at hp
          · rcases List.mem_append.1 hp with hp | hp
            · obtain ⟨q, hq, rfl⟩ := List.mem_map.1 hp
              have := h3 q hq
              unfold SP.fits tooLong
              simp only [tl, List.length_nil]
              omega
            · rw [List.mem_singleton] at hp
              subst hp
              unfold SP.fits tooLong
              simp only [List.length_nil]
              omega
          · rw [List.mem_singleton] at hp
            subst hp
            unfold SP.fits tooLong
            simp only [List.length_nil]
            omega
  · rw [if_pos h0] at hp
    rw [List.mem_singleton] at hp
    subst hp
    have := text_len st
    unfold SP.fits tooLong
    simp only [tl, List.length_nil]
    omega
theorem isRead_16 {op : Int} (h : isRead op = true) : op ≠ 16 := by
  intro e
  subst e
  exact absurd h (by decide)
theorem isCount_16 {op : Int} (h : isCount op = true) : op ≠ 16 := by
  intro e
  subst e
  exact absurd h (by decide)
theorem isCount_read {op : Int} (h : isCount op = true) : isRead op = false := by
  unfold isCount at h
  unfold isRead
  simp only [Bool.or_eq_true, beq_iff_eq] at h
  rcases h with rfl | rfl <;> decide
theorem gather_one {op : Int} (h : op ≠ 16) {k : Nat} {l : List UInt8} {N : Nat} {SL : List (ByteArray × ByteArray)} {f : List UInt8} (hg : gather op (k + 1) l = .done N SL f) : getEr l = 0 ∧ SL = [] ∧ f = l ∧ N = 24 + fld l 8 4 := by
  rw [gather] at hg
  split at hg
  · cases hg
  · split at hg
    · cases hg
    · rename_i h1 h2
      have hs : isStatF op l = false := by unfold isStatF; rw [decide_eq_false h]; rfl
      rw [if_neg (by rw [hs]; decide)] at hg
      injection hg with e1 e2 e3
      exact ⟨Classical.byContradiction h2, e2.symm, e3.symm, e1.symm⟩
theorem getEr_may {l : List UInt8} (h : getEr l = 0) : 24 ≤ l.length ∧ fld l 2 2 + fld l 4 1 ≤ fld l 8 4 ∧ fld l 8 4 ≤ 2048 ∧ 24 + fld l 8 4 ≤ l.length := by
  obtain ⟨h1, h2⟩ := getEr_fits h
  rw [needN_ok h] at h2
  unfold needE at h1
  split at h1
  · cases h1
  · split at h1
    · rename_i h3
      split at h1
      · cases h1
      · unfold mayB at h3
        rw [Bool.and_eq_true] at h3
        have := of_decide_eq_true h3.2
        omega
    · cases h1
theorem gX_len {l : List UInt8} (h : getEr l = 0) : (gX l).length = fld l 4 1 := by
  have := getEr_may h
  unfold gX
  rw [List.length_take, List.length_drop]
  omega
theorem gV_len {l : List UInt8} (h : getEr l = 0) : (gV l).length = fld l 8 4 - (fld l 4 1 + fld l 2 2) := by
  have := getEr_may h
  unfold gV
  rw [List.length_drop, List.length_take, List.length_drop]
  omega
/-- The fields of bytes that begin as a frame's do. -/
theorem fld_of {l : List UInt8} {N cb oq : Nat} {p : SP} (hcb : cb < 256) (hoq : oq < 4294967296) (hf : p.fits) (hcas : p.cas < 18446744073709551616) (t : List UInt8) (h : p.bytes cb oq ++ t = l.take N) (hN : 24 ≤ N) :
    fld l 2 2 = p.lk.length ∧ fld l 4 1 = p.lx.length ∧ fld l 8 4 = p.lx.length + p.lk.length + p.lv.length := by
  have hF : HdF 129 cb p.lk.length p.lx.length 0 (p.st % 65536).toNat (p.lx.length + p.lk.length + p.lv.length) oq p.cas := by
    unfold SP.fits tooLong at hf
    exact ⟨by omega, hcb, by omega, by omega, by omega, by omega, by omega, hoq, hcas⟩
  have e : ∀ o k, o + k ≤ 24 → fld l o k = fld (hdB 129 cb p.lk.length p.lx.length 0 (p.st % 65536).toNat (p.lx.length + p.lk.length + p.lv.length) oq p.cas ++ (p.lx ++ (p.lk ++ (p.lv ++ t)))) o k := by
    intro o k hk
    rw [← fld_take (l := l) (n := N) (by omega), ← h]
    unfold SP.bytes
    simp only [List.append_assoc]
  exact ⟨(e 2 2 (by omega)).trans (f_kl _ _ _ _ _ _ _ _ _ hF _), (e 4 1 (by omega)).trans (f_el _ _ _ _ _ _ _ _ _ hF _), (e 8 4 (by omega)).trans (f_bl _ _ _ _ _ _ _ _ _ hF _)⟩
theorem spB_single (cb oq : Nat) (p : SP) : spB cb oq [p] = p.bytes cb oq ++ [] := by
  unfold spB
  simp
/-- Bytes that are an answer's have extras of four bytes, and numbers of eight. -/
theorem tells_len {op : Int} {qt fu : Bool} {oq : Nat} {lk l : List UInt8} {N F Nn C : Nat} {V f : List UInt8} {SL : List (ByteArray × ByteArray)} (hoq : oq < 4294967296) (hcb : codeB op qt fu < 256) (hC : C < 18446744073709551616) (hg : gather op 17 l = .done N SL f) (h0 : fld f 6 2 = 0)
    (hfit : ∀ p ∈ allP op fu (fld f 6 2 : Nat) F C Nn lk V SL, p.fits) (hb : spB (codeB op qt fu) oq (allP op fu (fld f 6 2 : Nat) F C Nn lk V SL) = l.take N) :
    (isRead op = true → (gX f).length = 4) ∧ (isCount op = true → (gV f).length = 8) := by
  rw [h0] at hfit hb
  unfold allP at hfit hb
  rw [if_neg (by simp)] at hfit hb
  constructor
  · intro hr
    obtain ⟨g1, g2, g3, g4⟩ := gather_one (isRead_16 hr) hg
    rw [if_pos hr] at hfit hb
    subst g3
    rw [spB_single] at hb
    have h := fld_of hcb hoq (hfit _ (List.mem_singleton.2 rfl)) hC [] hb (by omega)
    simp only [length_highB] at h
    rw [gX_len g1]
    exact h.2.1
  · intro hc
    obtain ⟨g1, g2, g3, g4⟩ := gather_one (isCount_16 hc) hg
    rw [if_neg (by rw [isCount_read hc]; decide), if_pos hc] at hfit hb
    subst g3
    rw [spB_single] at hb
    have h := fld_of hcb hoq (hfit _ (List.mem_singleton.2 rfl)) hC [] hb (by omega)
    simp only [length_highB, List.length_nil] at h
    rw [gV_len g1]
    omega
theorem told_same {op : Int} {SL : List (ByteArray × ByteArray)} {f : List UInt8} {N : Nat} (h : fld f 6 2 = 0 → (isRead op = true → (gX f).length = 4) ∧ (isCount op = true → (gV f).length = 8)) : toldA op SL f N = toldF op SL f N := by
  have e1 : lastF op (gX f) (fld f 6 2 : Nat) = lastF' op (gX f) (fld f 6 2 : Nat) := by
    unfold lastF lastF'
    by_cases h0 : (fld f 6 2 : Int) = 0 ∧ isRead op = true
    · have hl := (h (by omega)).1 h0.2
      rw [if_pos h0, if_pos ⟨h0.1, h0.2, hl⟩]
      have := takeR_in (l := gX f) (at_ := 0) (k := 4) (by omega)
      rw [show ((4 : Nat) : Int) = 4 from rfl] at this
      rw [this, List.drop_zero, List.take_of_length_le (by omega)]
    · rw [if_neg h0, if_neg (fun hh => h0 ⟨hh.1, hh.2.1⟩)]
  have e2 : lastN op (gV f) (fld f 6 2 : Nat) = lastN' op (gV f) (fld f 6 2 : Nat) := by
    unfold lastN lastN'
    by_cases h0 : (fld f 6 2 : Int) = 0 ∧ isCount op = true
    · have hl := (h (by omega)).2 h0.2
      rw [if_pos h0, if_pos ⟨h0.1, h0.2, hl⟩]
      have := takeR_in (l := gV f) (at_ := 0) (k := 8) (by omega)
      rw [show ((8 : Nat) : Int) = 8 from rfl] at this
      rw [this, List.drop_zero, List.take_of_length_le (by omega)]
      exact Nat.mod_eq_of_lt (numQ_lt _)
    · rw [if_neg h0, if_neg (fun hh => h0 ⟨hh.1, hh.2.1⟩)]
  unfold toldA toldF
  rw [e1, e2]
theorem read_same (op : Int) (qt fu : Bool) (oq : Nat) (lk l : List UInt8) (hoq : oq < 4294967296) (hcb : codeB op qt fu < 256) (hk : lk.length ≤ 5000) : readP op qt fu oq lk l = readF op qt fu oq lk l := by
  unfold readP readF
  cases hg : gather op 17 l with
  | short => rfl
  | bad => rfl
  | done N SL f =>
    show (if (toldA op SL f N).okP op qt fu oq lk l then toldA op SL f N else .no 310) = (if (toldF op SL f N).okF op qt fu oq lk l then toldF op SL f N else .no 310)
    have hC : fld f 16 8 < 18446744073709551616 := fld_lt f 16 8
    by_cases h1 : (toldA op SL f N).okP op qt fu oq lk l
    · obtain ⟨a1, a2, a3⟩ := h1
      have hs := told_same (SL := SL) (N := N) (fun h0 => tells_len hoq hcb hC hg h0 a1 a3)
      have hF : (toldF op SL f N).okF op qt fu oq lk l := by
        rw [← hs]
        exact ⟨fit_ok _ _ _ _ _ _ _ _ _ a1, a2, by rw [← rpB_rb _ _ _ a1]; exact a3⟩
      rw [if_pos ⟨a1, a2, a3⟩, if_pos hF, hs]
    · rw [if_neg h1]
      by_cases h2 : (toldF op SL f N).okF op qt fu oq lk l
      · exfalso
        obtain ⟨b1, b2, b3⟩ := h2
        have a1 := ok_fit _ _ _ _ _ _ _ _ _ _ _ _ rfl rfl b2 b1 hk
        have a3 := b3
        unfold AR.ps at a3
        rw [← rpB_rb _ _ _ a1] at a3
        have hs := told_same (SL := SL) (N := N) (fun h0 => tells_len hoq hcb hC hg h0 a1 a3)
        exact h1 (by rw [hs]; exact ⟨a1, b2, a3⟩)
      · rw [if_neg h2]
/-- What Read hands back. -/
def AR.Q (R : AR) (w : World) (e : Ending) (w' : World) : Prop := ∃ (VA : Option Addr) (nv cv : Nat) (SA : Option Addr) (ns sc : Nat), e = .returned (.tuple #[.agg #[.int .i64 R.st, .slice VA nv cv, .int .u32 (R.F : Nat), .int .u64 (R.C : Nat), .int .u64 (R.N : Nat), .slice SA ns sc, .bool false], .int .i64 (R.at_ : Nat), .int .i64 R.er]) ∧ Rd w' w'.heap.size VA nv cv R.V ∧ Rz w' w'.heap.size 2 SA ns sc (R.SL.map stCells).flatten ∧ R.SL.length = ns ∧ Below w.heap.size w w'
theorem AR.Q_no {er : Int} {w w' : World} (b : Below w.heap.size w w') : (AR.no er).Q w (.returned (.tuple #[.agg #[.int .i64 0, .slice none 0 0, .int .u32 0, .int .u64 0, .int .u64 0, .slice none 0 0, .bool false], .int .i64 0, .int .i64 er])) w' :=
  ⟨none, 0, 0, none, 0, 0, rfl, Rd.nil _ _, Rz.nil _ _ _, rfl, b⟩
theorem lastA_is (op : Int) (lx lv : List UInt8) (st : Int) (ac : Nat) (VV SV : Value) : lastA op lx lv st ac VV SV = #[.int .i64 st, (if st = 0 ∧ (isRead op = true ∨ op = 11) then VV else .slice none 0 0), .int .u32 (lastF op lx st : Nat), .int .u64 (ac : Nat), .int .u64 (lastN op lv st : Nat), SV, .bool false] := by
  unfold lastA lastF lastN
  by_cases h0 : st = 0
  · rw [if_neg (fun h => h h0)]
    cases hr : isRead op with
    | true =>
      have hc : isCount op = false := by cases h : isCount op with | false => rfl | true => rw [isCount_read h] at hr; cases hr
      rw [hc]
      simp [h0]
    | false =>
      cases hc : isCount op with
      | true =>
        have h11 : op ≠ 11 := by intro e; subst e; exact absurd hc (by decide)
        simp [h0, h11]
      | false =>
        by_cases h11 : op = 11
        · simp [h0, h11]
        · simp [h0, h11]
  · rw [if_pos h0]
    simp [h0]
end Go.Proofs.Ytnghmgbmflcngaa

/- What was told is read as it was, in plain words. Conditions: typed in each theorem. -/
import Derived.Test.YtnghmgbmflcngaaRdl
import Derived.Test.YtnghmgbmflcngaaRfr
namespace Go.Proofs.Ytnghmgbmflcngaa
set_option linter.unusedVariables false
set_option linter.unusedSimpArgs false
open Go.RowKit

/-- A frame's bytes have its fields. -/
theorem sp_fld {cb oq : Nat} (hcb : cb < 256) (hoq : oq < 4294967296) {p : SP} (hf : p.fits) (hcas : p.cas < 18446744073709551616) (h0 : 0 ≤ p.st) (h1 : p.st ≤ 132) (t : List UInt8) :
    fld (p.bytes cb oq ++ t) 0 1 = 129 ∧ fld (p.bytes cb oq ++ t) 2 2 = p.lk.length ∧ fld (p.bytes cb oq ++ t) 4 1 = p.lx.length ∧ fld (p.bytes cb oq ++ t) 6 2 = p.st.toNat ∧ fld (p.bytes cb oq ++ t) 8 4 = p.lx.length + p.lk.length + p.lv.length ∧ fld (p.bytes cb oq ++ t) 16 8 = p.cas := by
  obtain ⟨hF, -, -⟩ := sp_hd hcb hoq hf hcas h0 h1
  have e : p.bytes cb oq ++ t = hdB 129 cb p.lk.length p.lx.length 0 (p.st % 65536).toNat (p.lx.length + p.lk.length + p.lv.length) oq p.cas ++ (p.lx ++ (p.lk ++ (p.lv ++ t))) := by
    unfold SP.bytes
    simp only [List.append_assoc]
  have es : (p.st % 65536).toNat = p.st.toNat := by rw [Int.emod_eq_of_lt h0 (by omega)]
  rw [e]
  exact ⟨f_mg _ _ _ _ _ _ _ _ _ hF _, f_kl _ _ _ _ _ _ _ _ _ hF _, f_el _ _ _ _ _ _ _ _ _ hF _, (f_st _ _ _ _ _ _ _ _ _ hF _).trans es, f_bl _ _ _ _ _ _ _ _ _ hF _, f_cas _ _ _ _ _ _ _ _ _ hF _⟩
theorem sp_drop (cb oq : Nat) (p : SP) (t : List UInt8) : (p.bytes cb oq ++ t).drop 24 = p.lx ++ (p.lk ++ (p.lv ++ t)) := by
  have e : p.bytes cb oq ++ t = hdB 129 cb p.lk.length p.lx.length 0 (p.st % 65536).toNat (p.lx.length + p.lk.length + p.lv.length) oq p.cas ++ (p.lx ++ (p.lk ++ (p.lv ++ t))) := by
    unfold SP.bytes
    simp only [List.append_assoc]
  rw [e, List.drop_left' (hdB_length _ _ _ _ _ _ _ _ _)]
theorem sp_need {cb oq : Nat} (hcb : cb < 256) (hoq : oq < 4294967296) {p : SP} (hf : p.fits) (hcas : p.cas < 18446744073709551616) (h0 : 0 ≤ p.st) (h1 : p.st ≤ 132) {l : List UInt8} (hl : 24 ≤ l.length) (t : List UInt8) (he : ∀ o k, o + k ≤ 24 → fld l o k = fld (p.bytes cb oq ++ t) o k) : needE l = 0 ∧ needN l = (p.bytes cb oq).length := by
  obtain ⟨f1, f2, f3, f4, f5, f6⟩ := sp_fld hcb hoq hf hcas h0 h1 t
  obtain ⟨-, hm, hb⟩ := sp_hd hcb hoq hf hcas h0 h1
  have hn : needE l = 0 := by
    unfold needE
    rw [if_neg (by omega), he 0 1 (by omega), he 2 2 (by omega), he 4 1 (by omega), he 8 4 (by omega), f1, f2, f3, f5, if_pos hm, if_neg hb]
  refine ⟨hn, ?_⟩
  unfold needN
  rw [if_pos hn, he 8 4 (by omega), f5, sp_len]
theorem sp_got {cb oq : Nat} (hcb : cb < 256) (hoq : oq < 4294967296) {p : SP} (hf : p.fits) (hcas : p.cas < 18446744073709551616) (h0 : 0 ≤ p.st) (h1 : p.st ≤ 132) (t : List UInt8) :
    getEr (p.bytes cb oq ++ t) = 0 ∧ 24 + fld (p.bytes cb oq ++ t) 8 4 = (p.bytes cb oq).length ∧ gX (p.bytes cb oq ++ t) = p.lx ∧ gK (p.bytes cb oq ++ t) = p.lk ∧ gV (p.bytes cb oq ++ t) = p.lv := by
  obtain ⟨f1, f2, f3, f4, f5, f6⟩ := sp_fld hcb hoq hf hcas h0 h1 t
  have hL := sp_len cb oq p
  obtain ⟨n1, n2⟩ := sp_need hcb hoq hf hcas h0 h1 (l := p.bytes cb oq ++ t) (by rw [List.length_append]; omega) t (fun _ _ _ => rfl)
  refine ⟨?_, by rw [f5, hL], ?_, ?_, ?_⟩
  · unfold getEr
    rw [if_pos n1, n2, if_neg (by rw [List.length_append]; omega)]
  · unfold gX
    rw [f3, sp_drop, List.take_left' rfl]
  · unfold gK
    rw [f3, f2, sp_drop, List.drop_left' rfl, List.take_left' rfl]
  · unfold gV
    rw [f3, f2, f5, sp_drop]
    have e : p.lx ++ (p.lk ++ (p.lv ++ t)) = (p.lx ++ p.lk) ++ p.lv ++ t := by simp only [List.append_assoc]
    rw [e, List.take_left' (by simp only [List.length_append]), List.drop_left' (by simp only [List.length_append])]
theorem sp_short {cb oq : Nat} (hcb : cb < 256) (hoq : oq < 4294967296) {p : SP} (hf : p.fits) (hcas : p.cas < 18446744073709551616) (h0 : 0 ≤ p.st) (h1 : p.st ≤ 132) {m : Nat} (hm : m < (p.bytes cb oq).length) : getEr ((p.bytes cb oq).take m) = 9 := by
  have hl : ((p.bytes cb oq).take m).length = m := by rw [List.length_take]; omega
  unfold getEr
  by_cases h24 : m < 24
  · have : needE ((p.bytes cb oq).take m) = 9 := by unfold needE; rw [if_pos (by omega)]
    rw [this, if_neg (by decide)]
  · obtain ⟨n1, n2⟩ := sp_need hcb hoq hf hcas h0 h1 (l := (p.bytes cb oq).take m) (by omega) [] (fun o k hk => by rw [List.append_nil]; exact fld_take (by omega))
    rw [if_pos n1, n2, if_pos (by omega)]
theorem str_back (s : ByteArray) : (⟨s.data.toList.toArray⟩ : ByteArray) = s := by
  rw [Array.toArray_toList]
/-- A stat's frames and the last one, gathered. -/
theorem gather_stats {cb oq : Nat} (hcb : cb < 256) (hoq : oq < 4294967296) (t : List UInt8) : ∀ (SL : List (ByteArray × ByteArray)) (k : Nat), SL.length ≤ k → (∀ p ∈ SL, (statSP p).fits ∧ 1 ≤ p.1.size) → gather 16 (k + 1) (spB cb oq (SL.map statSP ++ [⟨0, 0, [], [], []⟩]) ++ t) = .done (spB cb oq (SL.map statSP ++ [⟨0, 0, [], [], []⟩])).length SL ((⟨0, 0, [], [], []⟩ : SP).bytes cb oq ++ t) := by
  have fz : (⟨0, 0, [], [], []⟩ : SP).fits := by unfold SP.fits tooLong; simp
  intro SL
  induction SL with
  | nil =>
    intro k _ _
    have e : spB cb oq (([] : List (ByteArray × ByteArray)).map statSP ++ [⟨0, 0, [], [], []⟩]) = (⟨0, 0, [], [], []⟩ : SP).bytes cb oq := by unfold spB; simp
    rw [e]
    obtain ⟨g1, g2, g3, g4, g5⟩ := sp_got hcb hoq fz (by decide) (by decide) (by decide) t
    obtain ⟨-, f2, -⟩ := sp_fld hcb hoq fz (by decide) (by decide) (by decide) t
    have hs : isStatF 16 ((⟨0, 0, [], [], []⟩ : SP).bytes cb oq ++ t) = false := by
      unfold isStatF
      rw [f2]
      simp
    rw [gather, if_neg (by rw [g1]; decide), if_neg (by rw [g1]; decide), if_neg (by rw [hs]; decide), g2]
  | cons p SL ih =>
    intro k hk hp
    obtain ⟨k, rfl⟩ : ∃ j, k = j + 1 := ⟨k - 1, by simp at hk; omega⟩
    have hk' : SL.length ≤ k := by simp at hk; omega
    obtain ⟨hpf, hps⟩ := hp p (List.mem_cons_self)
    have e : spB cb oq ((p :: SL).map statSP ++ [⟨0, 0, [], [], []⟩]) = (statSP p).bytes cb oq ++ spB cb oq (SL.map statSP ++ [⟨0, 0, [], [], []⟩]) := by
      rw [List.map_cons, List.cons_append, spB_cons]
    rw [e, List.append_assoc]
    obtain ⟨g1, g2, g3, g4, g5⟩ := sp_got hcb hoq hpf (show 0 < 18446744073709551616 by decide) (Int.le_refl 0) (show (0 : Int) ≤ 132 by decide) (spB cb oq (SL.map statSP ++ [⟨0, 0, [], [], []⟩]) ++ t)
    obtain ⟨-, f2, -, f4, -, -⟩ := sp_fld hcb hoq hpf (show 0 < 18446744073709551616 by decide) (Int.le_refl 0) (show (0 : Int) ≤ 132 by decide) (spB cb oq (SL.map statSP ++ [⟨0, 0, [], [], []⟩]) ++ t)
    have hs : isStatF 16 ((statSP p).bytes cb oq ++ (spB cb oq (SL.map statSP ++ [⟨0, 0, [], [], []⟩]) ++ t)) = true := by
      unfold isStatF
      rw [f2, f4]
      have : (statSP p).lk.length = p.1.size := by show p.1.data.toList.length = _; rw [Array.length_toList]; rfl
      rw [this]
      simp
      exact ⟨Int.le_refl 0, by omega⟩
    have hst : statP ((statSP p).bytes cb oq ++ (spB cb oq (SL.map statSP ++ [⟨0, 0, [], [], []⟩]) ++ t)) = p := by
      unfold statP
      rw [g4, g5]
      exact Prod.ext (str_back p.1) (str_back p.2)
    rw [gather, if_neg (by rw [g1]; decide), if_neg (by rw [g1]; decide), if_pos hs, g2, List.drop_left' rfl, ih k hk' (fun q hq => hp q (List.mem_cons_of_mem _ hq)), hst]
    simp [GR.push]
theorem gather_cut {cb oq : Nat} (hcb : cb < 256) (hoq : oq < 4294967296) : ∀ (SL : List (ByteArray × ByteArray)) (k : Nat), SL.length ≤ k → (∀ p ∈ SL, (statSP p).fits ∧ 1 ≤ p.1.size) → gather 16 (k + 1) ((spB cb oq (SL.map statSP ++ [⟨0, 0, [], [], []⟩])).take ((spB cb oq (SL.map statSP ++ [⟨0, 0, [], [], []⟩])).length - 1)) = .short := by
  have fz : (⟨0, 0, [], [], []⟩ : SP).fits := by unfold SP.fits tooLong; simp
  intro SL
  induction SL with
  | nil =>
    intro k _ _
    have e : spB cb oq (([] : List (ByteArray × ByteArray)).map statSP ++ [⟨0, 0, [], [], []⟩]) = (⟨0, 0, [], [], []⟩ : SP).bytes cb oq := by unfold spB; simp
    rw [e]
    have h := sp_short hcb hoq fz (by decide) (by decide) (by decide) (m := ((⟨0, 0, [], [], []⟩ : SP).bytes cb oq).length - 1) (by have := sp_len cb oq ⟨0, 0, [], [], []⟩; omega)
    rw [gather, if_pos h]
  | cons p SL ih =>
    intro k hk hp
    obtain ⟨k, rfl⟩ : ∃ j, k = j + 1 := ⟨k - 1, by simp at hk; omega⟩
    have hk' : SL.length ≤ k := by simp at hk; omega
    obtain ⟨hpf, hps⟩ := hp p (List.mem_cons_self)
    have e : spB cb oq ((p :: SL).map statSP ++ [⟨0, 0, [], [], []⟩]) = (statSP p).bytes cb oq ++ spB cb oq (SL.map statSP ++ [⟨0, 0, [], [], []⟩]) := by
      rw [List.map_cons, List.cons_append, spB_cons]
    have hpos : 24 ≤ (spB cb oq (SL.map statSP ++ [⟨0, 0, [], [], []⟩])).length := by
      unfold spB
      rw [List.map_append, List.flatten_append, List.length_append]
      have := sp_len cb oq ⟨0, 0, [], [], []⟩
      simp only [List.map_cons, List.map_nil, List.flatten_cons, List.flatten_nil, List.append_nil]
      omega
    rw [e, List.length_append, List.take_append, List.take_of_length_le (by omega), show ((statSP p).bytes cb oq).length + (spB cb oq (SL.map statSP ++ [⟨0, 0, [], [], []⟩])).length - 1 - ((statSP p).bytes cb oq).length = (spB cb oq (SL.map statSP ++ [⟨0, 0, [], [], []⟩])).length - 1 from by omega]
    obtain ⟨g1, g2, g3, g4, g5⟩ := sp_got hcb hoq hpf (show 0 < 18446744073709551616 by decide) (Int.le_refl 0) (show (0 : Int) ≤ 132 by decide) ((spB cb oq (SL.map statSP ++ [⟨0, 0, [], [], []⟩])).take ((spB cb oq (SL.map statSP ++ [⟨0, 0, [], [], []⟩])).length - 1))
    obtain ⟨-, f2, -, f4, -, -⟩ := sp_fld hcb hoq hpf (show 0 < 18446744073709551616 by decide) (Int.le_refl 0) (show (0 : Int) ≤ 132 by decide) ((spB cb oq (SL.map statSP ++ [⟨0, 0, [], [], []⟩])).take ((spB cb oq (SL.map statSP ++ [⟨0, 0, [], [], []⟩])).length - 1))
    have hs : isStatF 16 ((statSP p).bytes cb oq ++ ((spB cb oq (SL.map statSP ++ [⟨0, 0, [], [], []⟩])).take ((spB cb oq (SL.map statSP ++ [⟨0, 0, [], [], []⟩])).length - 1))) = true := by
      unfold isStatF
      rw [f2, f4]
      have : (statSP p).lk.length = p.1.size := by show p.1.data.toList.length = _; rw [Array.length_toList]; rfl
      rw [this]
      simp
      exact ⟨Int.le_refl 0, by omega⟩
    rw [gather, if_neg (by rw [g1]; decide), if_neg (by rw [g1]; decide), if_pos hs, g2, List.drop_left' rfl, ih k hk' (fun q hq => hp q (List.mem_cons_of_mem _ hq))]
    rfl
/-- One frame alone, gathered. -/
theorem gather_sole {cb oq : Nat} (hcb : cb < 256) (hoq : oq < 4294967296) {op : Int} {p : SP} (hf : p.fits) (hcas : p.cas < 18446744073709551616) (h0 : 0 ≤ p.st) (h1 : p.st ≤ 132) (hs : op ≠ 16 ∨ p.st ≠ 0) (t : List UInt8) (k : Nat) : gather op (k + 1) (p.bytes cb oq ++ t) = .done (p.bytes cb oq).length [] (p.bytes cb oq ++ t) := by
  obtain ⟨g1, g2, g3, g4, g5⟩ := sp_got hcb hoq hf hcas h0 h1 t
  obtain ⟨-, -, -, f4, -, -⟩ := sp_fld hcb hoq hf hcas h0 h1 t
  have hst : isStatF op (p.bytes cb oq ++ t) = false := by
    unfold isStatF
    rw [f4]
    rcases hs with hs | hs
    · rw [decide_eq_false hs]; rfl
    · rw [decide_eq_false (show ¬ p.st.toNat = 0 by omega)]; simp
  rw [gather, if_neg (by rw [g1]; decide), if_neg (by rw [g1]; decide), if_neg (by rw [hst]; decide), g2]
theorem gather_solecut {cb oq : Nat} (hcb : cb < 256) (hoq : oq < 4294967296) {op : Int} {p : SP} (hf : p.fits) (hcas : p.cas < 18446744073709551616) (h0 : 0 ≤ p.st) (h1 : p.st ≤ 132) (k : Nat) : gather op (k + 1) ((p.bytes cb oq).take ((p.bytes cb oq).length - 1)) = .short := by
  have h := sp_short hcb hoq hf hcas h0 h1 (m := (p.bytes cb oq).length - 1) (by have := sp_len cb oq p; omega)
  rw [gather, if_pos h]
theorem wrong_is {st op : Int} {nv af ac an ns : Nat} {SL : List (ByteArray × ByteArray)} (h : wrongA st op nv af ac an ns SL = false) : (st ≠ 0 ∨ ¬ (isRead op = true ∨ op = 11) → nv = 0) ∧ (st ≠ 0 ∨ isRead op = false → af = 0) ∧ (st ≠ 0 ∨ op = 11 ∨ op = 16 → ac = 0) ∧ (st ≠ 0 ∨ isCount op = false → an = 0) ∧ (st ≠ 0 ∨ op ≠ 16 → ns = 0) ∧ ∀ p ∈ SL, 1 ≤ p.1.size := by
  unfold wrongA at h
  simp only [Bool.or_eq_false_iff] at h
  obtain ⟨⟨⟨⟨⟨⟨⟨⟨-, h1⟩, h2⟩, h3⟩, h4⟩, h5⟩, -⟩, -⟩, h6⟩ := h
  refine ⟨fun hc => ?_, fun hc => ?_, fun hc => ?_, fun hc => ?_, fun hc => ?_, fun p hp => ?_⟩
  · have e : (!(st == 0 && (isRead op || op == 11))) = true := by
      rcases hc with hc | hc
      · rw [beq_eq_false_iff_ne.2 hc]; rfl
      · have : (isRead op || op == 11) = false := by
          rw [Bool.or_eq_false_iff]
          exact ⟨by cases hh : isRead op with | false => rfl | true => exact absurd (Or.inl hh) hc, beq_eq_false_iff_ne.2 fun e => hc (Or.inr e)⟩
        rw [this, Bool.and_false]; rfl
    rw [e, Bool.and_true] at h1
    have := of_decide_eq_false h1
    omega
  · have e : (!(st == 0 && isRead op)) = true := by
      rcases hc with hc | hc
      · rw [beq_eq_false_iff_ne.2 hc]; rfl
      · rw [hc, Bool.and_false]; rfl
    rw [e, Bool.and_true] at h2
    have := bne_eq_false_iff_eq.1 h2
    omega
  · have e : (!(st == 0 && (op != 11 && op != 16))) = true := by
      rcases hc with hc | hc | hc
      · rw [beq_eq_false_iff_ne.2 hc]; rfl
      · subst hc; simp
      · subst hc; simp
    rw [e, Bool.and_true] at h3
    have := bne_eq_false_iff_eq.1 h3
    omega
  · have e : (!(st == 0 && isCount op)) = true := by
      rcases hc with hc | hc
      · rw [beq_eq_false_iff_ne.2 hc]; rfl
      · rw [hc, Bool.and_false]; rfl
    rw [e, Bool.and_true] at h4
    have := bne_eq_false_iff_eq.1 h4
    omega
  · have e : (!(st == 0 && op == 16)) = true := by
      rcases hc with hc | hc
      · rw [beq_eq_false_iff_ne.2 hc]; rfl
      · rw [beq_eq_false_iff_ne.2 hc, Bool.and_false]; rfl
    rw [e, Bool.and_true] at h5
    have := of_decide_eq_false h5
    omega
  · have := List.any_eq_false.1 h6 p hp
    unfold badStat at this
    simp only [Bool.or_eq_true, decide_eq_true_eq, not_or] at this
    omega
theorem told_sole {cb oq : Nat} (hcb : cb < 256) (hoq : oq < 4294967296) {op : Int} {p : SP} (hf : p.fits) (hcas : p.cas < 18446744073709551616) (h0 : 0 ≤ p.st) (h1 : p.st ≤ 132) (t : List UInt8) (SL : List (ByteArray × ByteArray)) (N : Nat) : toldA op SL (p.bytes cb oq ++ t) N = ⟨p.st, lastV op p.lv p.st, lastF op p.lx p.st, p.cas, lastN op p.lv p.st, SL, N, 0⟩ := by
  obtain ⟨g1, g2, g3, g4, g5⟩ := sp_got hcb hoq hf hcas h0 h1 t
  obtain ⟨-, -, -, f4, -, f6⟩ := sp_fld hcb hoq hf hcas h0 h1 t
  unfold toldA
  rw [f4, f6, g3, g5, Int.toNat_of_nonneg h0]
theorem num_high4 {x : Nat} (h : x < 4294967296) : numQ (takeR (highB x 4) 0 0 4).1 % 4294967296 = x := by
  have := takeR_in (l := highB x 4) (at_ := 0) (k := 4) (by rw [length_highB]; decide)
  rw [show ((4 : Nat) : Int) = 4 from rfl] at this
  rw [this, List.drop_zero, List.take_of_length_le (by rw [length_highB]; exact Nat.le_refl _)]
  unfold numQ
  rw [numB_highB]
  omega
theorem num_high8 {x : Nat} (h : x < 18446744073709551616) : numQ (takeR (highB x 8) 0 0 8).1 % 18446744073709551616 = x := by
  have := takeR_in (l := highB x 8) (at_ := 0) (k := 8) (by rw [length_highB]; decide)
  rw [show ((8 : Nat) : Int) = 8 from rfl] at this
  rw [this, List.drop_zero, List.take_of_length_le (by rw [length_highB]; exact Nat.le_refl _)]
  unfold numQ
  rw [numB_highB]
  omega
/-- What was told is gathered whole, and cut of its last byte it is too short. -/
theorem tell_back (op : Int) (qt fu : Bool) (oq : Nat) (st : Int) (af ac an : Nat) (lk lv : List UInt8) (SL : List (ByteArray × ByteArray)) (tail : List UInt8) (hoq : oq < 4294967296) (hcb : codeB op qt fu < 256) (haf : af < 4294967296) (hac : ac < 18446744073709551616) (han : an < 18446744073709551616) (hw : wrongA st op lv.length af ac an SL.length SL = false) (hfit : ∀ p ∈ allP op fu st af ac an lk lv SL, p.fits) :
    (∃ f, gather op 17 (spB (codeB op qt fu) oq (allP op fu st af ac an lk lv SL) ++ tail) = .done (spB (codeB op qt fu) oq (allP op fu st af ac an lk lv SL)).length SL f ∧ toldA op SL f (spB (codeB op qt fu) oq (allP op fu st af ac an lk lv SL)).length = ⟨st, lv, af, ac, an, SL, (spB (codeB op qt fu) oq (allP op fu st af ac an lk lv SL)).length, 0⟩) ∧
    gather op 17 ((spB (codeB op qt fu) oq (allP op fu st af ac an lk lv SL)).take ((spB (codeB op qt fu) oq (allP op fu st af ac an lk lv SL)).length - 1)) = .short := by
  obtain ⟨x1, x2, x3, x4, x5, x6⟩ := wrong_is hw
  obtain ⟨s0, s1⟩ := st_small (wrong_st hw)
  have sole : ∀ (p : SP), allP op fu st af ac an lk lv SL = [p] → p.st = st → p.cas < 18446744073709551616 → (op ≠ 16 ∨ st ≠ 0) → (∀ N, (⟨p.st, lastV op p.lv p.st, lastF op p.lx p.st, p.cas, lastN op p.lv p.st, [], N, 0⟩ : AR) = ⟨st, lv, af, ac, an, SL, N, 0⟩) → SL = [] → (∃ f, gather op 17 (spB (codeB op qt fu) oq (allP op fu st af ac an lk lv SL) ++ tail) = .done (spB (codeB op qt fu) oq (allP op fu st af ac an lk lv SL)).length SL f ∧ toldA op SL f (spB (codeB op qt fu) oq (allP op fu st af ac an lk lv SL)).length = ⟨st, lv, af, ac, an, SL, (spB (codeB op qt fu) oq (allP op fu st af ac an lk lv SL)).length, 0⟩) ∧
    gather op 17 ((spB (codeB op qt fu) oq (allP op fu st af ac an lk lv SL)).take ((spB (codeB op qt fu) oq (allP op fu st af ac an lk lv SL)).length - 1)) = .short := by
    intro p hp hst hcas hs hR hSL
    have hf : p.fits := hfit p (by rw [hp]; exact List.mem_singleton.2 rfl)
    rw [hp, show spB (codeB op qt fu) oq [p] = p.bytes (codeB op qt fu) oq by unfold spB; simp]
    refine ⟨⟨p.bytes (codeB op qt fu) oq ++ tail, ?_, ?_⟩, gather_solecut hcb hoq hf hcas (by omega) (by omega) 16⟩
    · rw [hSL]
      exact gather_sole hcb hoq hf hcas (by omega) (by omega) (by rw [hst]; exact hs) tail 16
    · rw [told_sole hcb hoq hf hcas (by omega) (by omega) tail, ← hR, hSL]
  have nl : ∀ {α : Type} (l : List α), l.length = 0 → l = [] := fun l h => List.eq_nil_of_length_eq_zero h
  by_cases h0 : st = 0
  · by_cases hr : isRead op = true
    · have h16 := isRead_16 hr
      have hc : isCount op = false := by cases h : isCount op with | false => rfl | true => rw [isCount_read h] at hr; cases hr
      refine sole ⟨0, ac, highB af 4, if fu = true then lk else [], lv⟩ (by unfold allP; rw [if_neg (fun h => h h0), if_pos hr]) h0.symm hac (Or.inl h16) (fun N => ?_) (nl _ (x5 (Or.inr h16)))
      have e3 := x4 (Or.inr hc)
      unfold lastV lastF lastN
      simp only [hr, hc, num_high4 haf, e3, h0, nl _ (x5 (Or.inr h16)), true_and, true_or, if_true, Bool.false_eq_true, and_false, if_false]
    · have hr' : isRead op = false := by cases h : isRead op with | false => rfl | true => exact absurd h hr
      have e2 := x2 (Or.inr hr')
      by_cases hc : isCount op = true
      · have h16 := isCount_16 hc
        have h11 : op ≠ 11 := by intro e; subst e; exact absurd hc (by decide)
        have ev := nl _ (x1 (Or.inr (fun h => h.elim hr h11)))
        refine sole ⟨0, ac, [], [], highB an 8⟩ (by unfold allP; rw [if_neg (fun h => h h0), if_neg hr, if_pos hc]) h0.symm hac (Or.inl h16) (fun N => ?_) (nl _ (x5 (Or.inr h16)))
        unfold lastV lastF lastN
        simp only [hr', hc, num_high8 han, e2, ev, h0, h11, nl _ (x5 (Or.inr h16)), true_and, Bool.false_eq_true, false_or, and_false, if_false, if_true, and_true]
      · have hc' : isCount op = false := by cases h : isCount op with | false => rfl | true => exact absurd h hc
        have e4 := x4 (Or.inr hc')
        by_cases h11 : op = 11
        · have h16 : op ≠ 16 := by omega
          have e3 := x3 (Or.inr (Or.inl h11))
          refine sole ⟨0, 0, [], [], lv⟩ (by unfold allP; rw [if_neg (fun h => h h0), if_neg hr, if_neg hc, if_pos h11]) h0.symm (by show 0 < 18446744073709551616; omega) (Or.inl h16) (fun N => ?_) (nl _ (x5 (Or.inr h16)))
          show (⟨0, lastV op lv 0, lastF op [] 0, 0, lastN op lv 0, [], N, 0⟩ : AR) = _
          unfold lastV lastF lastN
          rw [if_pos (show (0 : Int) = 0 ∧ (isRead op = true ∨ op = 11) from ⟨rfl, Or.inr h11⟩), if_neg (show ¬ ((0 : Int) = 0 ∧ isRead op = true) from fun h => hr h.2), if_neg (show ¬ ((0 : Int) = 0 ∧ isCount op = true) from fun h => hc h.2), h0, e2, e3, e4, nl _ (x5 (Or.inr h16))]
        · have ev := nl _ (x1 (Or.inr (fun h => h.elim hr h11)))
          by_cases h16 : op = 16
          · subst h16
            have e3 := x3 (Or.inr (Or.inr rfl))
            have hP : allP 16 fu st af ac an lk lv SL = SL.map statSP ++ [⟨0, 0, [], [], []⟩] := by
              unfold allP
              rw [if_neg (fun h => h h0), if_neg hr, if_neg hc, if_neg h11, if_pos rfl]
              rfl
            rw [hP] at hfit ⊢
            have hall : ∀ p ∈ SL, (statSP p).fits ∧ 1 ≤ p.1.size := fun p hp => ⟨hfit _ (List.mem_append_left _ (List.mem_map_of_mem hp)), x6 p hp⟩
            have hl16 : SL.length ≤ 16 := (wrong_lens hw).2.1
            refine ⟨⟨_, gather_stats hcb hoq tail SL 16 hl16 hall, ?_⟩, gather_cut hcb hoq SL 16 hl16 hall⟩
            rw [told_sole hcb hoq (hfit _ (List.mem_append_right _ (List.mem_singleton.2 rfl))) (by decide) (by decide) (by decide) tail]
            unfold lastV lastF lastN
            simp only [hr', hc', e2, e3, e4, ev, h0, h11, true_and, Bool.false_eq_true, or_self, and_false, if_false]
          · refine sole ⟨0, ac, [], [], []⟩ (by unfold allP; rw [if_neg (fun h => h h0), if_neg hr, if_neg hc, if_neg h11, if_neg h16]) h0.symm hac (Or.inl h16) (fun N => ?_) (nl _ (x5 (Or.inr h16)))
            unfold lastV lastF lastN
            simp only [hr', hc', e2, e4, ev, h0, h11, nl _ (x5 (Or.inr h16)), true_and, Bool.false_eq_true, or_self, and_false, if_false]
  · have ev := nl _ (x1 (Or.inl h0))
    have e2 := x2 (Or.inl h0)
    have e3 := x3 (Or.inl h0)
    have e4 := x4 (Or.inl h0)
    have e5 := nl _ (x5 (Or.inl h0))
    refine sole ⟨st, 0, [], [], (textB st).data.toList⟩ (by unfold allP; rw [if_pos h0]) rfl (by show 0 < 18446744073709551616; omega) (Or.inr h0) (fun N => ?_) e5
    unfold lastV lastF lastN
    simp only [h0, false_and, if_false, ev, e2, e3, e4, e5]
theorem read_back (op : Int) (qt fu : Bool) (oq : Nat) (st : Int) (af ac an : Nat) (lk lv : List UInt8) (SL : List (ByteArray × ByteArray)) (tail : List UInt8) (hoq : oq < 4294967296) (hcb : codeB op qt fu < 256) (haf : af < 4294967296) (hac : ac < 18446744073709551616) (han : an < 18446744073709551616) (hw : wrongA st op lv.length af ac an SL.length SL = false) (hfit : ∀ p ∈ allP op fu st af ac an lk lv SL, p.fits) :
    readP op qt fu oq lk (spB (codeB op qt fu) oq (allP op fu st af ac an lk lv SL) ++ tail) = ⟨st, lv, af, ac, an, SL, (spB (codeB op qt fu) oq (allP op fu st af ac an lk lv SL)).length, 0⟩ ∧
    (readP op qt fu oq lk ((spB (codeB op qt fu) oq (allP op fu st af ac an lk lv SL)).take ((spB (codeB op qt fu) oq (allP op fu st af ac an lk lv SL)).length - 1))).er = 9 := by
  obtain ⟨⟨f, hg, hT⟩, hc⟩ := tell_back op qt fu oq st af ac an lk lv SL tail hoq hcb haf hac han hw hfit
  constructor
  · unfold readP
    rw [hg]
    show (if (toldA op SL f _).okP op qt fu oq lk _ then toldA op SL f _ else .no 310) = _
    rw [hT, if_pos ⟨hfit, hw, (List.take_left' rfl).symm⟩]
  · unfold readP
    rw [hc]
    rfl
end Go.Proofs.Ytnghmgbmflcngaa

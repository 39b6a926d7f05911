/- What an answer's frames are, read one by one. Conditions: typed in each theorem. -/
import Derived.Test.YtnghmgbmflcngaaZrep
import Derived.Test.YtnghmgbmflcngaaFrv
namespace Go.Proofs.Ytnghmgbmflcngaa
set_option linter.unusedVariables false
open Go.RowKit

theorem spB_cons (cb oq : Nat) (p : SP) (Ps : List SP) : spB cb oq (p :: Ps) = p.bytes cb oq ++ spB cb oq Ps := by
  unfold spB
  simp
theorem sp_len (cb oq : Nat) (p : SP) : (p.bytes cb oq).length = 24 + (p.lx.length + p.lk.length + p.lv.length) := by
  unfold SP.bytes
  rw [List.length_append, List.length_append, List.length_append, hdB_length]
  omega
theorem st_small {st : Int} (h : badSt st = false) : 0 ≤ st ∧ st ≤ 132 := by
  unfold badSt textB at h
  by_cases h0 : st = 0
  · omega
  · rw [bne_iff_ne.2 h0, Bool.true_and] at h
    repeat' (split at h <;> first | omega | skip)
    exact absurd h (by decide +kernel)
theorem wrong_st {st op : Int} {nv af ac an ns : Nat} {SL : List (ByteArray × ByteArray)} (h : wrongA st op nv af ac an ns SL = false) : badSt st = false := by
  unfold wrongA at h
  simp only [Bool.or_eq_false_iff] at h
  exact h.1.1.1.1.1.1.1.1
theorem allP_say (op : Int) (fu : Bool) (st : Int) (af ac an : Nat) (lk lv : List UInt8) (SL : List (ByteArray × ByteArray)) (hac : ac < 18446744073709551616) : ∀ p ∈ allP op fu st af ac an lk lv SL, p.st = st ∧ p.cas < 18446744073709551616 := by
  intro p hp
  unfold allP at hp
  by_cases h0 : st = 0
  · rw [if_neg (fun h => h h0)] at hp
    subst h0
    split at hp
    · rw [List.mem_singleton] at hp; subst hp; exact ⟨rfl, hac⟩
    · split at hp
      · rw [List.mem_singleton] at hp; subst hp; exact ⟨rfl, hac⟩
      · split at hp
        · rw [List.mem_singleton] at hp; subst hp; exact ⟨rfl, by show 0 < 18446744073709551616; omega⟩
        · split at hp
          · rcases List.mem_append.1 hp with hp | hp
            · obtain ⟨q, -, rfl⟩ := List.mem_map.1 hp
              exact ⟨rfl, by show 0 < 18446744073709551616; omega⟩
            · rw [List.mem_singleton] at hp; subst hp; exact ⟨rfl, by show 0 < 18446744073709551616; omega⟩
          · rw [List.mem_singleton] at hp; subst hp; exact ⟨rfl, hac⟩
  · rw [if_pos h0] at hp
    rw [List.mem_singleton] at hp; subst hp; exact ⟨rfl, by show 0 < 18446744073709551616; omega⟩
theorem allP_cnt (op : Int) (fu : Bool) (st : Int) (af ac an : Nat) (lk lv : List UInt8) (SL : List (ByteArray × ByteArray)) : (allP op fu st af ac an lk lv SL).length = if op = 16 ∧ st = 0 then SL.length + 1 else 1 := by
  unfold allP
  by_cases h0 : st = 0
  · rw [if_neg (show ¬ (st ≠ 0) from fun h => h h0)]
    by_cases h16 : op = 16
    · rw [if_pos (show op = 16 ∧ st = 0 from ⟨h16, h0⟩)]
      subst h16
      rw [if_neg (show ¬ (isRead 16 = true) by decide), if_neg (show ¬ (isCount 16 = true) by decide), if_neg (show ¬ ((16 : Int) = 11) by decide), if_pos (show (16 : Int) = 16 from rfl)]
      simp
    · rw [if_neg (show ¬ (op = 16 ∧ st = 0) from fun h => h16 h.1), if_neg (show ¬ (op = 16) from h16)]
      split
      · rfl
      · split
        · rfl
        · split
          · rfl
          · rfl
  · rw [if_pos (show st ≠ 0 from h0), if_neg (show ¬ (op = 16 ∧ st = 0) from fun h => h0 h.2)]
    rfl
theorem ofR_is (op : Int) (qt fu : Bool) (oq : Nat) (st : Int) (nv af ac an ns : Nat) (lk lv : List UInt8) (SL : List (ByteArray × ByteArray)) (hac : ac < 18446744073709551616) (hsl : SL.length = ns) :
    ∃ Ps : List SP, (ofR op qt fu oq st nv af ac an ns lk lv SL).1 = spB (codeB op qt fu) oq Ps ∧ Ps.length ≤ 17 ∧ (∀ p ∈ Ps, p.fits ∧ p.cas < 18446744073709551616 ∧ p.st = st ∧ 0 ≤ st ∧ st ≤ 132) ∧
      ((ofR op qt fu oq st nv af ac an ns lk lv SL).2 = 0 ∨ (ofR op qt fu oq st nv af ac an ns lk lv SL).2 = 2) ∧
      ((ofR op qt fu oq st nv af ac an ns lk lv SL).2 = 2 ∨ silB op qt st = true → Ps = []) ∧
      ((ofR op qt fu oq st nv af ac an ns lk lv SL).2 = 0 → silB op qt st = false → Ps = allP op fu st af ac an lk lv SL ∧ wrongA st op nv af ac an ns SL = false ∧ Ps.length = if op = 16 ∧ st = 0 then ns + 1 else 1) := by
  unfold ofR
  have nilB : spB (codeB op qt fu) oq [] = [] := rfl
  by_cases hw : wrongA st op nv af ac an ns SL = true
  · rw [if_pos hw]
    exact ⟨[], nilB.symm, by simp, (fun p h => by cases h), Or.inr rfl, (fun _ => rfl), (fun h => by cases h)⟩
  rw [if_neg hw]
  by_cases hs : silB op qt st = true
  · rw [if_pos hs]
    exact ⟨[], nilB.symm, by simp, (fun p h => by cases h), Or.inl rfl, (fun _ => rfl), (fun _ h => by rw [hs] at h; cases h)⟩
  rw [if_neg hs]
  have hw' := Bool.eq_false_iff.2 hw
  by_cases hf : ∀ p ∈ allP op fu st af ac an lk lv SL, p.fits
  · rw [if_pos hf]
    obtain ⟨h1, h2, h3⟩ := wrong_lens hw'
    have h4 := st_small (wrong_st hw')
    refine ⟨_, rfl, allP_len _ _ _ _ _ _ _ _ _ (by omega), fun p hp => ?_, Or.inl rfl, fun h => ?_, fun _ _ => ⟨rfl, hw', by rw [allP_cnt, hsl]⟩⟩
    · obtain ⟨h5, h6⟩ := allP_say op fu st af ac an lk lv SL hac p hp
      exact ⟨hf p hp, h6, h5, h4⟩
    · rcases h with h | h
      · cases h
      · exact absurd h hs
  · rw [if_neg hf]
    exact ⟨[], nilB.symm, by simp, (fun p h => by cases h), Or.inr rfl, (fun _ => rfl), (fun h => by cases h)⟩
theorem sp_hd {cb oq : Nat} (hcb : cb < 256) (hoq : oq < 4294967296) {p : SP} (hf : p.fits) (hcas : p.cas < 18446744073709551616) (h0 : 0 ≤ p.st) (h1 : p.st ≤ 132) : HdF 129 cb p.lk.length p.lx.length 0 (p.st % 65536).toNat (p.lx.length + p.lk.length + p.lv.length) oq p.cas ∧
    mayB 129 p.lk.length p.lx.length (p.lx.length + p.lk.length + p.lv.length) = true ∧ ¬ 2048 < p.lx.length + p.lk.length + p.lv.length := by
  unfold SP.fits tooLong at hf
  refine ⟨⟨by omega, hcb, by omega, by omega, by omega, by omega, by omega, hoq, hcas⟩, ?_, by omega⟩
  rw [mayB_yes (Or.inr rfl)]
  exact decide_eq_true (by omega)
theorem sp_get {cb oq : Nat} (hcb : cb < 256) (hoq : oq < 4294967296) {p : SP} (hf : p.fits) (hcas : p.cas < 18446744073709551616) (h0 : 0 ≤ p.st) (h1 : p.st ≤ 132) (lt : List UInt8) (A : Option Addr) (n c : Nat) (w : World) (r : Rd w w.heap.size A n c (p.bytes cb oq ++ lt)) :
    Calls Try.prog 51 #[.slice A n c] w (GetM 129 cb p.lk.length p.lx.length 0 p.st.toNat (p.lx.length + p.lk.length + p.lv.length) oq p.cas p.lx.length p.lk.length p.lv.length p.lx p.lk p.lv (p.bytes cb oq).length w) := by
  obtain ⟨a1, a2, a3⟩ := sp_hd hcb hoq hf hcas h0 h1
  have e1 : (p.st % 65536).toNat = p.st.toNat := by omega
  have h := get_made 129 cb p.lk.length p.lx.length 0 (p.st % 65536).toNat (p.lx.length + p.lk.length + p.lv.length) oq p.cas a1 a2 a3 p.lx p.lk p.lv lt p.lv.length (p.bytes cb oq).length rfl rfl rfl rfl (sp_len cb oq p) A n c w r
  rw [e1] at h
  exact h
end Go.Proofs.Ytnghmgbmflcngaa

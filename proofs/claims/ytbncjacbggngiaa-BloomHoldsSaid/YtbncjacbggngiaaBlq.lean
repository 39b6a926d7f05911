/- Filters: May, Clear, Bytes, Join; nil filters. Conditions: typed in each theorem. -/
import Derived.Test.YtbncjacbggngiaaBlo
import Derived.Lib.SliceRun
namespace Go.Proofs.Ytbncjacbggngiaa
set_option linter.unusedVariables false
open Go.RowKit

theorem and_one8 (x : UInt8) (k : Nat) (hk : k < 8) : bits .and .u8 (x.toNat : Int) (one8 k : Nat) = ((if bit8 x k then one8 k else 0 : Nat) : Int) := by
  rw [u8_and_nat x.toNat (one8 k) x.toNat_lt (by unfold one8; exact Nat.lt_of_le_of_lt (Nat.pow_le_pow_right (by decide) (Nat.sub_le 7 _)) (by decide))]
  unfold one8 bit8
  congr 1
  apply Nat.eq_of_testBit_eq
  intro i
  rw [Nat.testBit_and, Nat.testBit_two_pow]
  by_cases h : 7 - k = i
  · subst h
    cases x.toNat.testBit (7 - k) <;> simp
  · cases x.toNat.testBit (7 - k) <;> simp [h]
theorem allL_snoc (L : List Bool) (ps : List Nat) (p : Nat) : allL L (ps ++ [p]) = (allL L ps && L.getD p false) := by simp [allL]
theorem bitsL_getD {l : List UInt8} {i : Nat} {x : UInt8} (h : l[i / 8]? = some x) : (bitsL l).getD i false = bit8 x (i % 8) := by
  rw [List.getD_eq_getElem?_getD, bitsL_get l i x h]; rfl
theorem allL_false {L : List Bool} {ps : List Nat} {p : Nat} (hp : p ∈ ps) (h : L.getD p false = false) : allL L ps = false := by
  unfold allL
  rw [List.all_eq_false]
  exact ⟨p, hp, by rw [h]; simp⟩
def BoxB (b : Bool) (w : World) (e : Ending) (w' : World) : Prop := e = .returned (.bool b) ∧ Below w.heap.size w w'
theorem below_dq {B : Nat} {a w : World} (h : Below B a w) (n : Nat) : Below B a (w.drewN n) := ⟨h.os, h.tape, h.output, h.size, h.block⟩
set_option maxHeartbeats 1000000 in
theorem may_any (B C g h : Nat) (l : List UInt8) (w : World) (hf : Flt w B C g l) (hh : h < 18446744073709551616) :
    Calls Try.prog 16 #[.pointer (some ⟨g, 0, none⟩), .int .u64 h] w (BoxB (allL (bitsL l) (prbs h (8 * l.length))) w) := by
  have hFl := hf
  have hlen := hf.len
  obtain ⟨k, n, c, hK⟩ := hf
  have HK := Lib.hid hK
  have HN := Lib.hid hK.len
  clear hK
  go_enter Try.func16, Try.ntmps16
  go_wp2_with fail
  go_step3
  go_wp2_with fail
  go_step3
  go_wp2_with fail
  refine (bits_any B C g l _ hFl).mono ?_
  rintro e w1 ⟨rfl, rfl⟩
  go_wp2_with fail
  refine (probes_any h (8 * l.length) hh (by omega) (by omega) _).mono ?_
  rintro e w1 ⟨A1, c1, rfl, o1, b1⟩
  generalize hps : prbs h (8 * l.length) = ps at o1
  have hpl : ∀ p ∈ ps, p < 8 * l.length := fun p hp => by rw [← hps] at hp; exact prbs_lt (by omega) hp
  have hp4 : ps.length = 4 := by rw [← hps]; rfl
  have HPL := Lib.hid hpl
  have HP4 := Lib.hid hp4
  have HPS := Lib.hid hps
  clear hps hpl hp4
  have K1 := HK.out.step b1
  have r1 := Ov.rv o1
  go_wp2_with fail
  go_loopw [5, 7, 8, 9, 17] (fun is x y z i wr => ∃ j q : Nat, j ≤ 4 ∧ is = .bool true ∧ i = .int .i64 j ∧ allL (bitsL l) (ps.take j) = true ∧ wr = w1.drewN q) (fun _ _ _ _ i _ => 4 - (intOf i).toNat)
  case atStart => exact ⟨0, 0, by omega, rfl, rfl, rfl, rfl⟩
  case round =>
    obtain ⟨j, q, hj, rfl, rfl, hal, rfl⟩ := hrel
    have HA := Lib.hid hal
    clear hal
    by_cases hlt : j < 4
    · obtain ⟨ad, u, rfl, -, hu, hc⟩ := r1.some_ hlt
      obtain ⟨p, hp, rfl⟩ := ints_get hu
      have hpm := List.mem_of_getElem? hp
      have hpb := HPL.out p hpm
      obtain ⟨x, hx, hcx⟩ := K1.2.1.cellAt (j := p / 8) (by have := HN.out; omega)
      have hnn : p / 8 < n := by have := HN.out; omega
      have c0 := K1.cell0
      have hgd := bitsL_getD hx
      have had := and_one8 x (p % 8) (Nat.mod_lt _ (by decide))
      have HT := Lib.hid (take_snoc_of hp)
      have h1p : (one8 (p % 8) : Int) ≠ 0 := by unfold one8; have := Nat.two_pow_pos (7 - p % 8); omega
      clear hx hu hp
      cases hb : bit8 x (p % 8)
      · rw [hb] at hgd had
        rw [if_neg (by decide)] at had
        have HF := Lib.hid (allL_false hpm hgd)
        clear hgd hb hpm h1p
        go_wp2_with fail
        refine (at_any p (by omega) _).mono ?_
        rintro e w3 ⟨rfl, q3, rfl⟩
        go_wp2_with fail
        rw [Exit.noGoto_ret]
        go_ret
        exact ⟨by rw [HPS.out, HF.out]; rfl, by first | exact b1 | exact below_dq b1 _ | exact below_dq (below_dq b1 _) _⟩
      · rw [hb] at hgd had
        rw [if_pos rfl] at had
        have HF := Lib.hid (show allL (bitsL l) (ps.take (j + 1)) = true from by rw [HT.out, allL_snoc, HA.out, hgd]; rfl)
        have t1 : ((one8 (p % 8) : Int) == 0) = false := by rw [beq_eq_false_iff_ne]; exact h1p
        clear hgd hb hpm h1p
        go_wp2_with fail
        refine (at_any p (by omega) _).mono ?_
        rintro e w3 ⟨rfl, q3, rfl⟩
        go_wp2_with fail
        go_roundw
        case rel => exact ⟨j + 1, _, by omega, rfl, by go_num, HF.out, by first | exact World.drewN_drewN _ _ _ | rfl⟩
        case measure => simp [intOf]; omega
    · go_wp2
      go_ret
      obtain rfl : j = 4 := by omega
      have := HA.out
      rw [List.take_of_length_le (by rw [HP4.out]; omega)] at this
      exact ⟨by rw [HPS.out, this]; rfl, by first | exact b1 | exact below_dq b1 _⟩

theorem FltK.set_ {w : World} {B C g k n c : Nat} {l : List UInt8} (h : FltK w B C g k n c l) (j : Nat) (y : UInt8) : FltK (w.setCell ⟨k, j, none⟩ (cb y)) B C g k n c (l.set j y) :=
  ⟨h.1.far (Ne.symm h.2.2.1) _, Own.stored h.2.1 j y, h.2.2.1, h.2.2.2.1, h.2.2.2.2.1, h.2.2.2.2.2.1, by simpa using h.2.2.2.2.2.2.1, h.2.2.2.2.2.2.2⟩
theorem FltK.only {w : World} {B C g k n c : Nat} {l : List UInt8} (h : FltK w B C g k n c l) (j : Nat) (v : Value) : OnlyIn w (w.setCell ⟨k, j, none⟩ v) B C :=
  (OnlyIn.refl w B C).setCell (p := ⟨k, j, none⟩) h.kB h.2.2.2.2.2.1 v
theorem fltK_setCells {B C g k n c : Nat} : ∀ (ys : List UInt8) (o : Nat) (w : World) (l : List UInt8), FltK w B C g k n c l → o + ys.length ≤ n →
    FltK (w.setCells k o (cbs ys)) B C g k n c (l.take o ++ ys ++ l.drop (o + ys.length)) ∧ OnlyIn w (w.setCells k o (cbs ys)) B C
  | [], o, w, l, h, _ => by
    refine ⟨?_, OnlyIn.refl _ _ _⟩
    simpa [cbs, World.setCells] using h
  | y :: ys, o, w, l, h, hl => by
    have hlen := h.len
    have h1 := h.set_ o y
    have h2 := fltK_setCells ys (o + 1) _ _ h1 (by simp at hl; omega)
    have e : (l.set o y).take (o + 1) ++ ys ++ (l.set o y).drop (o + 1 + ys.length) = l.take o ++ (y :: ys) ++ l.drop (o + (y :: ys).length) := by
      simp at hl
      rw [List.drop_set_of_lt (by omega), List.take_set, List.take_add_one, List.getElem?_eq_getElem (by omega)]
      simp only [Option.toList_some]
      rw [List.set_append_right _ _ (by rw [List.length_take]; omega)]
      rw [List.length_take, Nat.min_eq_left (by omega), Nat.sub_self]
      simp [Nat.add_assoc, Nat.add_comm 1]
    rw [e] at h2
    exact ⟨h2.1, (h.only o _).trans h2.2⟩
theorem zero8 (w : World) : (zeroValue 5).run Try.prog w = .ok (.int .u8 0) w := by kernel_rfl
theorem replicate_cbs (n : Nat) : List.replicate n (Value.int .u8 0) = cbs (List.replicate n 0) := by simp [cbs, cb]
set_option maxHeartbeats 400000 in
theorem clear_any (B C g : Nat) (l : List UInt8) (w : World) (hf : Flt w B C g l) :
    Calls Try.prog 23 #[.pointer (some ⟨g, 0, none⟩)] w (AddOk B C g (List.replicate l.length 0) w) := by
  obtain ⟨k, n, c, hK⟩ := hf
  have hl := hK.len
  subst hl
  have c0 := hK.cell0
  have h1 := hK.2.2.2.2.2.2.2.1
  have hcl : ∀ ty, (Builtin.clear_ #[41] ty #[.slice (some ⟨k, 0, none⟩) l.length c]).run Try.prog w = .ok (.tuple #[]) (w.setCells k 0 (List.replicate l.length (.int .u8 0))) :=
    fun ty => Lib.run_clear_slice w 41 5 ty (.int .u8 0) Try.underlying41 zero8 rfl rfl k 0 l.length c h1 (fun j hj => by
      obtain ⟨x, _, hc⟩ := hK.2.1.cellAt (j := j) hj
      rw [Nat.zero_add, hc]; rfl) (fun j hj => by rw [Nat.zero_add]; exact hK.2.1.frozenAt j)
  have hs := fltK_setCells (List.replicate l.length 0) 0 w l hK (by simp)
  rw [← replicate_cbs] at hs
  have HS := Lib.hid hs
  clear hs
  go_enter Try.func23, Try.ntmps23
  go_wp2_with (simp only [hcl])
  go_ret
  refine ⟨rfl, ⟨k, l.length, c, ?_⟩, HS.out.2⟩
  have := HS.out.1
  simpa using this
end Go.Proofs.Ytbncjacbggngiaa

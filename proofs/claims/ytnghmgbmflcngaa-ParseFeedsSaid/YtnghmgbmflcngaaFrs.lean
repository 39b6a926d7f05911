/- frame.Get, where a frame stands. Conditions: typed in each theorem. -/
import Derived.Test.YtnghmgbmflcngaaFrq
import Derived.Test.YtnghmgbmflcngaaSlc
namespace Go.Proofs.Ytnghmgbmflcngaa
set_option linter.unusedVariables false
open Go.RowKit

/-- What Get tells where a frame stands. -/
def GetOk (l : List UInt8) (w : World) (e : Ending) (w' : World) : Prop := ∃ X cx K ck V cv, e = .returned (.tuple #[frV (fld l 0 1) (fld l 1 1) (fld l 2 2) (fld l 4 1) (fld l 5 1) (fld l 6 2) (fld l 8 4) (fld l 12 4) (fld l 16 8) (.slice X (fld l 4 1) cx) (.slice K (fld l 2 2) ck) (.slice V (fld l 8 4 - (fld l 4 1 + fld l 2 2)) cv), .int .i64 (24 + fld l 8 4 : Nat), .int .i64 0]) ∧
  Rd w' w'.heap.size X (fld l 4 1) cx ((l.drop 24).take (fld l 4 1)) ∧ Rd w' w'.heap.size K (fld l 2 2) ck (((l.drop 24).drop (fld l 4 1)).take (fld l 2 2)) ∧
  Rd w' w'.heap.size V (fld l 8 4 - (fld l 4 1 + fld l 2 2)) cv (((l.drop 24).take (fld l 8 4)).drop (fld l 4 1 + fld l 2 2)) ∧ Below w.heap.size w w'
theorem rd_drew {w : World} {A : Option Addr} {n c : Nat} {l : List UInt8} (h : Rd w w.heap.size A n c l) : Rd w.drew w.drew.heap.size A n c l := h
theorem need_0 {l : List UInt8} (h : needE l = 0) : 24 ≤ l.length ∧ mayB (fld l 0 1) (fld l 2 2) (fld l 4 1) (fld l 8 4) = true ∧ ¬ 2048 < fld l 8 4 := by
  unfold needE at h
  split at h
  · cases h
  · split at h
    · split at h
      · cases h
      · exact ⟨by omega, by assumption, by assumption⟩
    · cases h
theorem cut24 {w : World} {B n c bl : Nat} {a : Addr} {l : List UInt8} (h : Rd w B (some a) n c l) (hb : 24 + bl ≤ n) : Rd w B (if c = 24 then some a else some ⟨a.block, a.off + 24, none⟩) bl (c - 24) ((l.drop 24).take bl) := by
  have hh := h.cut (i := 24) (j := 24 + bl) (by omega) hb
  rw [List.drop_take, Nat.add_sub_cancel_left] at hh
  have ea : (some a).map (·.add 24) = some ⟨a.block, a.off + 24, none⟩ := by
    show some (a.add 24) = _
    unfold Addr.add
    rw [if_neg (by omega)]
  rw [ea] at hh
  exact hh
theorem mayB_le {m kl el bl : Nat} (h : mayB m kl el bl = true) : kl + el ≤ bl := by
  unfold mayB at h
  rw [Bool.and_eq_true] at h
  exact of_decide_eq_true h.2
set_option maxRecDepth 100000 in
set_option maxHeartbeats 4000000 in
theorem get_ok (A : Option Addr) (n c : Nat) (l : List UInt8) (w : World) (hA : Rd w w.heap.size A n c l) (he : needE l = 0) (hs : needN l ≤ n) : Calls Try.prog 51 #[.slice A n c] w (GetOk l w) := by
  have k0 := Blk.new w #[.int .u8 0, .int .u8 0, .int .u16 0, .int .u8 0, .int .u8 0, .int .u16 0, .int .u32 0, .int .u32 0, .int .u64 0, .slice none 0 0, .slice none 0 0, .slice none 0 0] 61
  have b0 : Below w.heap.size w (w.alloc (.cells #[.int .u8 0, .int .u8 0, .int .u16 0, .int .u8 0, .int .u8 0, .int .u16 0, .int .u32 0, .int .u32 0, .int .u64 0, .slice none 0 0, .slice none 0 0, .slice none 0 0] 61)) := below_a1' (Below.refl _ _) _
  obtain ⟨hn, hm, hb⟩ := need_0 he
  have e2 : needN l = 24 + fld l 8 4 := by unfold needN; rw [if_pos he]
  rw [e2] at hs
  have hle := mayB_le hm
  have hl := hA.len
  have hcap := hA.cap
  have hmax := hA.max
  unfold maxLen at hmax
  have hN := fun W (r : Rd W W.heap.size A n c l) => need_ok A n c l W r (by omega) hm hb
  have hG := fun W (r : Rd W W.heap.size A n c l) => gh_ok A n c l W r (by omega) hm
  obtain ⟨a, x, rfl, halt, -, -⟩ := hA.at_ (i := 0) (by omega)
  have HQ := Lib.hid (show ∀ e w', GetOk l w e w' ↔ GetOk l w e w' from fun _ _ => Iff.rfl)
  unfold GetOk at HQ ⊢
  have hel := fld_lt l 4 1
  have hkl := fld_lt l 2 2
  generalize fld l 0 1 = mg at hN hG ⊢
  generalize fld l 1 1 = op at hN hG ⊢
  generalize fld l 2 2 = kl at hN hG hle hkl ⊢
  generalize fld l 4 1 = el at hN hG hle hel ⊢
  generalize fld l 5 1 = ty at hN hG ⊢
  generalize fld l 6 2 = st at hN hG ⊢
  generalize fld l 8 4 = bl at hN hG hle hb hs ⊢
  generalize fld l 12 4 = oq at hN hG ⊢
  generalize fld l 16 8 = cas at hN hG ⊢
  have HN := Lib.hid hN
  have HG := Lib.hid hG
  clear he hN hG hm e2 HQ
  have hl24 : 24 ≤ n := by omega
  clear hn
  go_enter Try.func51, Try.ntmps51
  go_wp2_with fail
  generalize w.alloc (.cells #[.int .u8 0, .int .u8 0, .int .u16 0, .int .u8 0, .int .u8 0, .int .u16 0, .int .u32 0, .int .u32 0, .int .u64 0, .slice none 0 0, .slice none 0 0, .slice none 0 0] 61) = W0 at k0 b0 ⊢
  refine (HN.out _ ((hA.below b0).more b0.size)).mono ?_
  rintro e w1 ⟨rfl, b1⟩
  replace k0 := k0.step b1
  replace b0 := below_step b0 b1
  clear b1 HN
  go_wp2_with fail
  refine (HG.out _ ((hA.below b0).more b0.size)).mono ?_
  rintro e w2 ⟨rfl, b2⟩
  replace k0 := k0.step b2
  replace b0 := below_step b0 b2
  clear b2 HG
  have k1 := Blk.new w2 #[.int .u8 (mg : Nat), .int .u8 (op : Nat), .int .u16 (kl : Nat), .int .u8 (el : Nat), .int .u8 (ty : Nat), .int .u16 (st : Nat), .int .u32 (bl : Nat), .int .u32 (oq : Nat), .int .u64 (cas : Nat)] 59
  replace k0 := k0.alloc (.cells #[.int .u8 (mg : Nat), .int .u8 (op : Nat), .int .u16 (kl : Nat), .int .u8 (el : Nat), .int .u8 (ty : Nat), .int .u16 (st : Nat), .int .u32 (bl : Nat), .int .u32 (oq : Nat), .int .u64 (cas : Nat)] 59)
  replace b0 := below_a1' b0 (.cells #[.int .u8 (mg : Nat), .int .u8 (op : Nat), .int .u16 (kl : Nat), .int .u8 (el : Nat), .int .u8 (ty : Nat), .int .u16 (st : Nat), .int .u32 (bl : Nat), .int .u32 (oq : Nat), .int .u64 (cas : Nat)] 59)
  unfold hdV
  go_wp2_with fail
  case inl =>
    have rc := (cut24 hA hs).below b0
    rw [if_pos h, show c - 24 = 0 from by omega] at rc
    refine (clone_any _ bl _ _ _ _ rc b0.size (by omega)).mono ?_
    rintro e w3 ⟨A3, c3, rfl, o3, b3⟩
    have k1' := k0
    replace k0 := k0.step b3
    replace k1 := k1.step b3
    replace b0 := below_step b0 b3
    obtain ⟨q0, q1, q2, q3, q4, q5, q6, q7, q8⟩ := box9 k1
    clear rc b3
    go_wp2_with fail
    go_quiet (fail)
    go_wp2_with fail
    have k0d : Blk (w3.drewN nq) w.heap.size _ _ := k0
    have k1d : Blk (w3.drewN nq) w2.heap.size _ _ := k1
    have b0d : Below w.heap.size w (w3.drewN nq) := below_dN b0 nq
    have o3d : Own (w3.drewN nq) _ A3 bl c3 _ := o3
    have hB3 := k1'.lt
    clear q0 q1 q2 q3 q4 q5 q6 q7 q8 k0 k1 b0 o3
    generalize w3.drewN nq = W1 at k0d k1d b0d o3d ⊢
    obtain ⟨q0, q1, q2, q3, q4, q5, q6, q7, q8⟩ := box9 k1d
    obtain ⟨X, cx, HX, rX⟩ := slc_hm o3d.rd el (by omega)
    obtain ⟨K, ck, HK, rK⟩ := slc_lhm o3d.rd el (el + kl) (el : Int) ((el : Int) + (kl : Int)) rfl (by omega) (by omega) (by omega)
    obtain ⟨V, cv, HV, rV⟩ := slc_l o3d.rd (el + kl) ((el : Int) + (kl : Int)) (by omega) (by omega)
    rw [Nat.add_sub_cancel_left] at HK rK
    obtain ⟨z0, z1, z2, z3, z4, z5, z6, z7, z8, z9, z10, z11⟩ := box12 k0d
    have y0 := k0d.frozen 0
    have y1 := k0d.frozen 1
    have y2 := k0d.frozen 2
    have y3 := k0d.frozen 3
    have y4 := k0d.frozen 4
    have y5 := k0d.frozen 5
    have y6 := k0d.frozen 6
    have y7 := k0d.frozen 7
    have y8 := k0d.frozen 8
    have y9 := k0d.frozen 9
    have y10 := k0d.frozen 10
    have y11 := k0d.frozen 11
    have kf := blk_set12 k0d (.int .u8 (mg : Nat)) (.int .u8 (op : Nat)) (.int .u16 (kl : Nat)) (.int .u8 (el : Nat)) (.int .u8 (ty : Nat)) (.int .u16 (st : Nat)) (.int .u32 (bl : Nat)) (.int .u32 (oq : Nat)) (.int .u64 (cas : Nat)) (.slice X el cx) (.slice K kl ck) (.slice V (bl - (el + kl)) cv)
    have hg := grown_set12 W1 w.heap.size (.int .u8 (mg : Nat)) (.int .u8 (op : Nat)) (.int .u16 (kl : Nat)) (.int .u8 (el : Nat)) (.int .u8 (ty : Nat)) (.int .u16 (st : Nat)) (.int .u32 (bl : Nat)) (.int .u32 (oq : Nat)) (.int .u64 (cas : Nat)) (.slice X el cx) (.slice K kl ck) (.slice V (bl - (el + kl)) cv)
    have bff := b0d.trans (below_grown hg (Nat.le_refl _) k0d.lt)
    obtain ⟨t0, t1, t2, t3, t4, t5, t6, t7, t8, t9, t10, t11⟩ := box12 kf
    have o3f := o3d.kept hg hB3
    have gX := rX _ _ o3f.rd
    have gK := rK _ _ o3f.rd
    have gV := rV _ _ o3f.rd
    rw [List.take_take, Nat.min_eq_left (by omega)] at gX
    rw [List.take_take, Nat.min_eq_left (by omega), List.drop_take, Nat.add_sub_cancel_left] at gK
    clear kf hg o3d o3f rX rK rV
    go_region
    go_wp2_with fail
    refine bodyPost_ret (v := .tuple #[.agg #[.int .u8 (mg : Nat), .int .u8 (op : Nat), .int .u16 (kl : Nat), .int .u8 (el : Nat), .int .u8 (ty : Nat), .int .u16 (st : Nat), .int .u32 (bl : Nat), .int .u32 (oq : Nat), .int .u64 (cas : Nat), .slice X el cx, .slice K kl ck, .slice V (bl - (el + kl)) cv], .int .i64 (24 + (bl : Int)), .int .i64 0]) (by simp [results, Try.results51, go_sem, t0, t1, t2, t3, t4, t5, t6, t7, t8, t9, t10, t11]) rfl ?_
    exact ⟨X, cx, K, ck, V, cv, rfl, rd_drew gX, rd_drew gK, rd_drew gV, bff.drew⟩
  case inr =>
    have rc := (cut24 hA hs).below b0
    rw [if_neg h] at rc
    refine (clone_any _ bl _ _ _ _ rc b0.size (by omega)).mono ?_
    rintro e w3 ⟨A3, c3, rfl, o3, b3⟩
    have k1' := k0
    replace k0 := k0.step b3
    replace k1 := k1.step b3
    replace b0 := below_step b0 b3
    obtain ⟨q0, q1, q2, q3, q4, q5, q6, q7, q8⟩ := box9 k1
    clear rc b3
    go_wp2_with fail
    go_quiet (fail)
    go_wp2_with fail
    have k0d : Blk (w3.drewN nq) w.heap.size _ _ := k0
    have k1d : Blk (w3.drewN nq) w2.heap.size _ _ := k1
    have b0d : Below w.heap.size w (w3.drewN nq) := below_dN b0 nq
    have o3d : Own (w3.drewN nq) _ A3 bl c3 _ := o3
    have hB3 := k1'.lt
    clear q0 q1 q2 q3 q4 q5 q6 q7 q8 k0 k1 b0 o3
    generalize w3.drewN nq = W1 at k0d k1d b0d o3d ⊢
    obtain ⟨q0, q1, q2, q3, q4, q5, q6, q7, q8⟩ := box9 k1d
    obtain ⟨X, cx, HX, rX⟩ := slc_hm o3d.rd el (by omega)
    obtain ⟨K, ck, HK, rK⟩ := slc_lhm o3d.rd el (el + kl) (el : Int) ((el : Int) + (kl : Int)) rfl (by omega) (by omega) (by omega)
    obtain ⟨V, cv, HV, rV⟩ := slc_l o3d.rd (el + kl) ((el : Int) + (kl : Int)) (by omega) (by omega)
    rw [Nat.add_sub_cancel_left] at HK rK
    obtain ⟨z0, z1, z2, z3, z4, z5, z6, z7, z8, z9, z10, z11⟩ := box12 k0d
    have y0 := k0d.frozen 0
    have y1 := k0d.frozen 1
    have y2 := k0d.frozen 2
    have y3 := k0d.frozen 3
    have y4 := k0d.frozen 4
    have y5 := k0d.frozen 5
    have y6 := k0d.frozen 6
    have y7 := k0d.frozen 7
    have y8 := k0d.frozen 8
    have y9 := k0d.frozen 9
    have y10 := k0d.frozen 10
    have y11 := k0d.frozen 11
    have kf := blk_set12 k0d (.int .u8 (mg : Nat)) (.int .u8 (op : Nat)) (.int .u16 (kl : Nat)) (.int .u8 (el : Nat)) (.int .u8 (ty : Nat)) (.int .u16 (st : Nat)) (.int .u32 (bl : Nat)) (.int .u32 (oq : Nat)) (.int .u64 (cas : Nat)) (.slice X el cx) (.slice K kl ck) (.slice V (bl - (el + kl)) cv)
    have hg := grown_set12 W1 w.heap.size (.int .u8 (mg : Nat)) (.int .u8 (op : Nat)) (.int .u16 (kl : Nat)) (.int .u8 (el : Nat)) (.int .u8 (ty : Nat)) (.int .u16 (st : Nat)) (.int .u32 (bl : Nat)) (.int .u32 (oq : Nat)) (.int .u64 (cas : Nat)) (.slice X el cx) (.slice K kl ck) (.slice V (bl - (el + kl)) cv)
    have bff := b0d.trans (below_grown hg (Nat.le_refl _) k0d.lt)
    obtain ⟨t0, t1, t2, t3, t4, t5, t6, t7, t8, t9, t10, t11⟩ := box12 kf
    have o3f := o3d.kept hg hB3
    have gX := rX _ _ o3f.rd
    have gK := rK _ _ o3f.rd
    have gV := rV _ _ o3f.rd
    rw [List.take_take, Nat.min_eq_left (by omega)] at gX
    rw [List.take_take, Nat.min_eq_left (by omega), List.drop_take, Nat.add_sub_cancel_left] at gK
    clear kf hg o3d o3f rX rK rV
    go_region
    go_wp2_with fail
    refine bodyPost_ret (v := .tuple #[.agg #[.int .u8 (mg : Nat), .int .u8 (op : Nat), .int .u16 (kl : Nat), .int .u8 (el : Nat), .int .u8 (ty : Nat), .int .u16 (st : Nat), .int .u32 (bl : Nat), .int .u32 (oq : Nat), .int .u64 (cas : Nat), .slice X el cx, .slice K kl ck, .slice V (bl - (el + kl)) cv], .int .i64 (24 + (bl : Int)), .int .i64 0]) (by simp [results, Try.results51, go_sem, t0, t1, t2, t3, t4, t5, t6, t7, t8, t9, t10, t11]) rfl ?_
    exact ⟨X, cx, K, ck, V, cv, rfl, rd_drew gX, rd_drew gK, rd_drew gV, bff.drew⟩
end Go.Proofs.Ytnghmgbmflcngaa

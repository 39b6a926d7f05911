/- icehouseref19.Get, where a frame stands. Conditions: typed in each theorem. -/
import Derived.Test.YtnghmgbmflcngaaFrs
import Derived.Deep.RegionHeld3
namespace Go.Proofs.Ytnghmgbmflcngaa
set_option linter.unusedVariables false
open Go.RowKit

def BothQ (n : Nat) (l : List UInt8) (w : World) (e : Ending) (w' : World) : Prop := ∃ A' c', e = .returned (.slice A' n c') ∧ Own w' w.heap.size A' n c' l ∧ Below w.heap.size w w'
theorem both_nil (A : Option Addr) (n c B : Nat) (l : List UInt8) (w : World) (h : Rd w B A n c l) (hB : B ≤ w.heap.size) (hn : n ≤ 140737488355328) : Calls Try.prog 82 #[.slice A n c, .slice none 0 0] w (BothQ n l w) := by
  refine (both_any A none n c 0 0 B l [] w h (Rd.nil w B) hB (by omega)).mono ?_
  rintro e w' ⟨A', c', rfl, o, b⟩
  rw [Nat.add_zero, List.append_nil] at o
  exact ⟨A', c', by rw [Nat.add_zero], o, b⟩
set_option maxRecDepth 100000 in
set_option maxHeartbeats 4000000 in
theorem rget_ok (A : Option Addr) (n c : Nat) (l : List UInt8) (w : World) (hA : Rd w w.heap.size A n c l) (he : needE l = 0) (hs : needN l ≤ n) : Calls Try.prog 106 #[.slice A n c] w (GetOk l w) := by
  have k0 := Blk.new w #[.int .u8 0, .int .u8 0, .int .u16 0, .int .u8 0, .int .u8 0, .int .u16 0, .int .u32 0, .int .u32 0, .int .u64 0, .slice none 0 0, .slice none 0 0, .slice none 0 0] 61
  have b0 : Below w.heap.size w (w.alloc (.cells #[.int .u8 0, .int .u8 0, .int .u16 0, .int .u8 0, .int .u8 0, .int .u16 0, .int .u32 0, .int .u32 0, .int .u64 0, .slice none 0 0, .slice none 0 0, .slice none 0 0] 61)) := below_a1' (Below.refl _ _) _
  obtain ⟨hn, hm, hb⟩ := need_0 he
  have e2 : needN l = 24 + fld l 8 4 := by unfold needN; rw [if_pos he]
  rw [e2] at hs
  have hle := mayB_le hm
  have hl := hA.len
  have hN := fun W (r : Rd W W.heap.size A n c l) => rneed_ok A n c l W r (by omega) hm hb
  have hG := fun W (r : Rd W W.heap.size A n c l) => read19_any A n c l W r (by omega)
  unfold GetOk
  have hel := fld_lt l 4 1
  have hkl := fld_lt l 2 2
  generalize fld l 0 1 = mg at hN hG ⊢
  generalize fld l 1 1 = op at hN hG ⊢
  generalize fld l 2 2 = kl at hN hG hle hkl ⊢
  generalize fld l 4 1 = el at hN hG hle hel ⊢
  generalize fld l 5 1 = ty at hN hG ⊢
  generalize fld l 6 2 = st at hN hG ⊢
  generalize fld l 8 4 = bl at hN hG hle hb hs ⊢
  generalize fld l 12 4 = oq at hN hG ⊢
  generalize fld l 16 8 = cas at hN hG ⊢
  have HN := Lib.hid hN
  have HG := Lib.hid hG
  clear he hN hG hm e2
  have hl24 : 24 ≤ n := by omega
  clear hn
  obtain ⟨X, cx, HX, rX⟩ := slc_lh hA 24 (24 + el) 24 (24 + (el : Int)) rfl (by omega) (by omega) (by omega)
  obtain ⟨K, ck, HK, rK⟩ := slc_lh hA (24 + el) (24 + el + kl) (24 + (el : Int)) (24 + (el : Int) + (kl : Int)) (by omega) (by omega) (by omega) (by omega)
  obtain ⟨V, cv, HV, rV⟩ := slc_lh hA (24 + el + kl) (24 + bl) (24 + (el : Int) + (kl : Int)) (24 + (bl : Int)) (by omega) (by omega) (by omega) (by omega)
  have e24 : ∀ k : Nat, 24 + k - 24 = k := fun k => by omega
  rw [show 24 + el - 24 = el from by omega] at HX rX
  rw [show 24 + el + kl - (24 + el) = kl from by omega] at HK rK
  rw [show 24 + bl - (24 + el + kl) = bl - (el + kl) from by omega] at HV rV
  have eX : (l.take (24 + el)).drop 24 = (l.drop 24).take el := by rw [List.drop_take, Nat.add_sub_cancel_left]
  have eK : (l.take (24 + el + kl)).drop (24 + el) = ((l.drop 24).drop el).take kl := by rw [List.drop_take, Nat.add_sub_cancel_left, List.drop_drop]
  have eV : (l.take (24 + bl)).drop (24 + el + kl) = ((l.drop 24).take bl).drop (el + kl) := by
    rw [List.drop_take, List.drop_take, List.drop_drop, show 24 + (el + kl) = 24 + el + kl from by omega, show 24 + bl - (24 + el + kl) = bl - (el + kl) from by omega]
  rw [eX] at rX
  rw [eK] at rK
  rw [eV] at rV
  have RX := Lib.hid rX
  have RK := Lib.hid rK
  have RV := Lib.hid rV
  clear eX eK eV rX rK rV e24
  go_enter Try.func106, Try.ntmps106
  go_wp2_with fail
  generalize w.alloc (.cells #[.int .u8 0, .int .u8 0, .int .u16 0, .int .u8 0, .int .u8 0, .int .u16 0, .int .u32 0, .int .u32 0, .int .u64 0, .slice none 0 0, .slice none 0 0, .slice none 0 0] 61) = W0 at k0 b0 ⊢
  refine (HN.out _ ((hA.below b0).more b0.size)).mono ?_
  rintro e w1 ⟨rfl, b1⟩
  replace k0 := k0.step b1
  replace b0 := below_step b0 b1
  clear b1 HN
  go_wp2_with fail
  refine (HG.out _ ((hA.below b0).more b0.size)).mono ?_
  rintro e w2 ⟨rfl, b2⟩
  replace k0 := k0.step b2
  replace b0 := below_step b0 b2
  clear b2 HG
  have hne : w.heap.size < w2.heap.size := k0.lt
  have k1 := Blk.new w2 #[.int .u8 (mg : Nat), .int .u8 (op : Nat), .int .u16 (kl : Nat), .int .u8 (el : Nat), .int .u8 (ty : Nat), .int .u16 (st : Nat), .int .u32 (bl : Nat), .int .u32 (oq : Nat), .int .u64 (cas : Nat)] 59
  replace k0 := k0.alloc (.cells #[.int .u8 (mg : Nat), .int .u8 (op : Nat), .int .u16 (kl : Nat), .int .u8 (el : Nat), .int .u8 (ty : Nat), .int .u16 (st : Nat), .int .u32 (bl : Nat), .int .u32 (oq : Nat), .int .u64 (cas : Nat)] 59)
  replace b0 := below_a1' b0 (.cells #[.int .u8 (mg : Nat), .int .u8 (op : Nat), .int .u16 (kl : Nat), .int .u8 (el : Nat), .int .u8 (ty : Nat), .int .u16 (st : Nat), .int .u32 (bl : Nat), .int .u32 (oq : Nat), .int .u64 (cas : Nat)] 59)
  unfold hdV
  go_wp2_with fail
  generalize w2.alloc (.cells #[.int .u8 (mg : Nat), .int .u8 (op : Nat), .int .u16 (kl : Nat), .int .u8 (el : Nat), .int .u8 (ty : Nat), .int .u16 (st : Nat), .int .u32 (bl : Nat), .int .u32 (oq : Nat), .int .u64 (cas : Nat)] 59) = W1 at k0 k1 b0 ⊢
  have k0d : Blk W1.drew w.heap.size _ _ := k0
  have k1d : Blk W1.drew w2.heap.size _ _ := k1
  have b0d : Below w.heap.size w W1.drew := b0.drew
  have r0 : Rd W1.drew w.heap.size X el cx ((l.drop 24).take el) := RX.out _ _ (hA.below b0d)
  have s0 : w.heap.size ≤ W1.drew.heap.size := b0d.size
  clear k0 k1 b0
  obtain ⟨q0, q1, q2, q3, q4, q5, q6, q7, q8⟩ := box9 k1d
  go_region_held3 (fun w' => w'.cell? ⟨w2.heap.size, 0, none⟩ = some (.int .u8 (mg : Nat)) ∧ w'.cell? ⟨w2.heap.size, 1, none⟩ = some (.int .u8 (op : Nat)) ∧ w'.cell? ⟨w2.heap.size, 2, none⟩ = some (.int .u16 (kl : Nat)) ∧ w'.cell? ⟨w2.heap.size, 3, none⟩ = some (.int .u8 (el : Nat)) ∧ w'.cell? ⟨w2.heap.size, 4, none⟩ = some (.int .u8 (ty : Nat)) ∧ w'.cell? ⟨w2.heap.size, 5, none⟩ = some (.int .u16 (st : Nat)) ∧ w'.cell? ⟨w2.heap.size, 6, none⟩ = some (.int .u32 (bl : Nat)) ∧ w'.cell? ⟨w2.heap.size, 7, none⟩ = some (.int .u32 (oq : Nat)) ∧ w'.cell? ⟨w2.heap.size, 8, none⟩ = some (.int .u64 (cas : Nat))) (first | with_reducible exact ⟨q0, q1, q2, q3, q4, q5, q6, q7, q8⟩ | with_reducible exact ⟨p0, p1, p2, p3, p4, p5, p6, p7, p8⟩ | fail)
    (first
      | (go_at_call 82
         with_reducible refine (both_nil X el cx _ _ _ r0 s0 (by omega)).mono ?_
         rintro e w3 ⟨A3, c3, rfl, o3, b3⟩
         have hB3 := k0d.lt
         have k0 := k0d.step b3
         have k1 := k1d.step b3
         have b0 := below_step b0d b3
         clear q0 q1 q2 q3 q4 q5 q6 q7 q8 k0d k1d b0d r0 s0
         have r0 := RK.out _ _ (hA.below b0)
         obtain ⟨q0, q1, q2, q3, q4, q5, q6, q7, q8⟩ := box9 k1)
      | (go_at_call 82
         with_reducible refine (both_nil K kl ck _ _ _ r0 b0.size (by omega)).mono ?_
         rintro e w4 ⟨A4, c4, rfl, o4, b4⟩
         have hB4 := k0.lt
         replace k0 := k0.step b4
         replace k1 := k1.step b4
         replace b0 := below_step b0 b4
         replace o3 := o3.below b4
         clear q0 q1 q2 q3 q4 q5 q6 q7 q8 r0
         have r0 := RV.out _ _ (hA.below b0)
         obtain ⟨q0, q1, q2, q3, q4, q5, q6, q7, q8⟩ := box9 k1)
      | (go_at_call 82
         with_reducible refine (both_nil V (bl - (el + kl)) cv _ _ _ r0 b0.size (by omega)).mono ?_
         rintro e w5 ⟨A5, c5, rfl, o5, b5⟩
         have hB5 := k0.lt
         replace k0 := k0.step b5
         replace k1 := k1.step b5
         replace b0 := below_step b0 b5
         replace o3 := o3.below b5
         replace o4 := o4.below b5
         clear q0 q1 q2 q3 q4 q5 q6 q7 q8 r0
         obtain ⟨q0, q1, q2, q3, q4, q5, q6, q7, q8⟩ := box9 k1
         obtain ⟨z0, z1, z2, z3, z4, z5, z6, z7, z8, z9, z10, z11⟩ := box12 k0
         have y0 := k0.frozen 0
         have y1 := k0.frozen 1
         have y2 := k0.frozen 2
         have y3 := k0.frozen 3
         have y4 := k0.frozen 4
         have y5 := k0.frozen 5
         have y6 := k0.frozen 6
         have y7 := k0.frozen 7
         have y8 := k0.frozen 8
         have y9 := k0.frozen 9
         have y10 := k0.frozen 10
         have y11 := k0.frozen 11
         have kf := blk_set12 k0 (.int .u8 (mg : Nat)) (.int .u8 (op : Nat)) (.int .u16 (kl : Nat)) (.int .u8 (el : Nat)) (.int .u8 (ty : Nat)) (.int .u16 (st : Nat)) (.int .u32 (bl : Nat)) (.int .u32 (oq : Nat)) (.int .u64 (cas : Nat)) (.slice A3 el c3) (.slice A4 kl c4) (.slice A5 (bl - (el + kl)) c5)
         have hg := grown_set12 w5 w.heap.size (.int .u8 (mg : Nat)) (.int .u8 (op : Nat)) (.int .u16 (kl : Nat)) (.int .u8 (el : Nat)) (.int .u8 (ty : Nat)) (.int .u16 (st : Nat)) (.int .u32 (bl : Nat)) (.int .u32 (oq : Nat)) (.int .u64 (cas : Nat)) (.slice A3 el c3) (.slice A4 kl c4) (.slice A5 (bl - (el + kl)) c5)
         have kh : Blk _ w2.heap.size _ _ := (hg.block _ k1.lt (fun e => by injection e with e; omega)).trans k1
         have bff := b0.trans (below_grown hg (Nat.le_refl _) k0.lt)
         obtain ⟨p0, p1, p2, p3, p4, p5, p6, p7, p8⟩ := box9 kh
         obtain ⟨t0, t1, t2, t3, t4, t5, t6, t7, t8, t9, t10, t11⟩ := box12 kf
         clear kh)
      | fail)
  have gX := (o3.kept hg hB3).rd
  have gK := (o4.kept hg hB4).rd
  have gV := (o5.kept hg hB5).rd
  clear kf hg o3 o4 o5 p0 p1 p2 p3 p4 p5 p6 p7 p8 q0 q1 q2 q3 q4 q5 q6 q7 q8
  go_wp2_with fail
  refine bodyPost_ret (v := .tuple #[.agg #[.int .u8 (mg : Nat), .int .u8 (op : Nat), .int .u16 (kl : Nat), .int .u8 (el : Nat), .int .u8 (ty : Nat), .int .u16 (st : Nat), .int .u32 (bl : Nat), .int .u32 (oq : Nat), .int .u64 (cas : Nat), .slice A3 el c3, .slice A4 kl c4, .slice A5 (bl - (el + kl)) c5], .int .i64 (24 + (bl : Int)), .int .i64 0]) (by simp [results, Try.results106, go_sem, t0, t1, t2, t3, t4, t5, t6, t7, t8, t9, t10, t11]) rfl ?_
  exact ⟨A3, c3, A4, c4, A5, c5, rfl, gX, gK, gV, bff⟩
end Go.Proofs.Ytnghmgbmflcngaa

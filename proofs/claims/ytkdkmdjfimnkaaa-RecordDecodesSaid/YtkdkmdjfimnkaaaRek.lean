/- record.Decode once more: the key and the value lie apart; both Decodes and both Needs by one contract. Conditions: typed in each theorem. -/
import Derived.Test.YtkdkmdjfimnkaaaRde
import Derived.Deep.RegionHeld3
namespace Go.Proofs.Ytkdkmdjfimnkaaa
set_option linter.unusedVariables false
open Go.RowKit

def DecOkd (l : List UInt8) (w : World) (e : Ending) (w' : World) : Prop := ∃ K ck V cv B2, e = .returned (.tuple #[recV (fld l 0 1 : Nat) (fld l 1 4) (fld l 5 4) (fld l 9 8) (.slice K (fld l 17 2) ck) (.slice V (fld l 19 2) cv), .int .i64 (21 + (fld l 17 2 : Nat) + (fld l 19 2 : Nat)), .int .i64 0]) ∧
  Own w' w.heap.size K (fld l 17 2) ck ((l.drop 21).take (fld l 17 2)) ∧ Own w' B2 V (fld l 19 2) cv (((l.drop 21).drop (fld l 17 2)).take (fld l 19 2)) ∧ w.heap.size ≤ B2 ∧ (∀ ad, K = some ad → ad.block < B2) ∧ Below w.heap.size w w'
set_option maxRecDepth 20000 in
set_option maxHeartbeats 4000000 in
theorem dec_okd (A : Option Addr) (n c : Nat) (l : List UInt8) (w : World) (h : Rd w w.heap.size A n c l) (hn2 : n ≤ 281474976710656) (he : headE l = 0) (hs : 21 + fld l 17 2 + fld l 19 2 ≤ n) : Calls Try.prog 15 #[.slice A n c] w (DecOkd l w) := by
  have k0 := Blk.new w #[.int .i64 0, .int .u32 0, .int .u32 0, .int .u64 0, .slice none 0 0, .slice none 0 0] 26
  have b0 : Below w.heap.size w (w.alloc (.cells #[.int .i64 0, .int .u32 0, .int .u32 0, .int .u64 0, .slice none 0 0, .slice none 0 0] 26)) := below_a1' (Below.refl _ _) _
  obtain ⟨hn, hr⟩ := head_0 he
  have hk := fld_lt l 17 2
  have hv := fld_lt l 19 2
  have hG := fun W (r : Rd W W.heap.size A n c l) => head_ok A n c l W r (by rw [← r.len]; exact hn) hn2 hr
  unfold DecOkd
  generalize fld l 0 1 = kd at hG ⊢
  generalize fld l 1 4 = fl at hG ⊢
  generalize fld l 5 4 = ex at hG ⊢
  generalize fld l 9 8 = sq at hG ⊢
  generalize fld l 17 2 = k at hG hk hs ⊢
  generalize fld l 19 2 = v at hG hv hs ⊢
  have HG := Lib.hid hG
  clear hr hG he hn
  obtain ⟨X, cx, HX, rX⟩ := slc_lh h 21 (21 + k) 21 (21 + (k : Int)) rfl (by omega) (by omega) (by omega)
  obtain ⟨Y, cy, HY, rY⟩ := slc_lh h (21 + k) (21 + k + v) (21 + (k : Int)) (21 + (k : Int) + (v : Int)) (by omega) (by omega) (by omega) (by omega)
  rw [show 21 + k - 21 = k from by omega] at HX rX
  rw [show 21 + k + v - (21 + k) = v from by omega] at HY rY
  have eX : (l.take (21 + k)).drop 21 = (l.drop 21).take k := by rw [List.drop_take, Nat.add_sub_cancel_left]
  have eY : (l.take (21 + k + v)).drop (21 + k) = ((l.drop 21).drop k).take v := by rw [List.drop_take, Nat.add_sub_cancel_left, List.drop_drop]
  rw [eX] at rX
  rw [eY] at rY
  have we : IntKind.i64.wrap (21 + (k : Int)) = 21 + (k : Int) := IntWalk.i64_in _ (by omega)
  have wf : IntKind.i64.wrap (21 + (k : Int) + (v : Int) - (v : Int)) = 21 + (k : Int) := by rw [Int.add_sub_cancel]; exact we
  have RX := Lib.hid rX
  have RY := Lib.hid rY
  clear eX eY rX rY
  go_enter Try.func15, Try.ntmps15
  go_wp2_with fail
  generalize w.alloc (.cells #[.int .i64 0, .int .u32 0, .int .u32 0, .int .u64 0, .slice none 0 0, .slice none 0 0] 26) = W0 at k0 b0 ⊢
  refine (HG.out _ ((h.below b0).more b0.size)).mono ?_
  rintro e w1 ⟨rfl, b1⟩
  replace k0 := k0.step b1
  replace b0 := below_step b0 b1
  have hne : w.heap.size < w1.heap.size := k0.lt
  have k1 := Blk.new w1 #[.int .i64 (kd : Nat), .int .u32 (fl : Nat), .int .u32 (ex : Nat), .int .u64 (sq : Nat), .slice none 0 0, .slice none 0 0] 26
  replace k0 := k0.alloc (.cells #[.int .i64 (kd : Nat), .int .u32 (fl : Nat), .int .u32 (ex : Nat), .int .u64 (sq : Nat), .slice none 0 0, .slice none 0 0] 26)
  replace b0 := below_a1' b0 (.cells #[.int .i64 (kd : Nat), .int .u32 (fl : Nat), .int .u32 (ex : Nat), .int .u64 (sq : Nat), .slice none 0 0, .slice none 0 0] 26)
  clear b1 HG
  unfold recV
  go_wp2_with fail
  generalize w1.alloc (.cells #[.int .i64 (kd : Nat), .int .u32 (fl : Nat), .int .u32 (ex : Nat), .int .u64 (sq : Nat), .slice none 0 0, .slice none 0 0] 26) = W1 at k0 k1 b0 ⊢
  have k0d : Blk W1.drew w.heap.size _ _ := k0
  have k1d : Blk W1.drew w1.heap.size _ _ := k1
  have b0d : Below w.heap.size w W1.drew := b0.drew
  have r0 : Rd W1.drew w.heap.size X k cx ((l.drop 21).take k) := RX.out _ _ (h.below b0d)
  have s0 : w.heap.size ≤ W1.drew.heap.size := b0d.size
  clear k0 k1 b0
  go_region_held3 (fun w' => True) (trivial)
    (first
      | (go_at_call 31
         with_reducible refine (clone_any X k cx _ _ _ r0 s0 (by omega)).mono ?_
         rintro e w3 ⟨K, ck, rfl, o3, b3⟩
         have hKB : ∀ ad, K = some ad → ad.block < w3.heap.size := fun ad e => (World.ownsRow.lt o3 ad.block (by rw [e]; rfl)).2
         have hB3 := k0d.lt
         have hC3 := k1d.lt
         have k0 := k0d.step b3
         have k1 := k1d.step b3
         have b0 := below_step b0d b3
         clear k0d k1d b0d r0 s0
         have r0 := RY.out _ _ (h.below b0))
      | (go_at_call 31
         with_reducible refine (clone_any Y v cy _ _ _ r0 b0.size (by omega)).mono ?_
         rintro e w4 ⟨V, cv, rfl, o4, b4⟩
         have hB4 := k0.lt
         have hC4 := k1.lt
         replace k0 := k0.step b4
         replace k1 := k1.step b4
         replace b0 := below_step b0 b4
         replace o3 := o3.below b4
         clear r0
         have y4 := k1.frozen 4
         have y5 := k1.frozen 5
         obtain ⟨q0, q1, q2, q3, q4, q5⟩ := box6 k1)
      | fail)
  have hg1 : w4.grownBy ((w4.setCell ⟨w1.heap.size, 4, none⟩ (.slice K k ck)).setCell ⟨w1.heap.size, 5, none⟩ (.slice V v cv)) (some w1.heap.size) := grown_trans (rdr_grown_set w4 w1.heap.size 4 _) (rdr_grown_set _ w1.heap.size 5 _)
  have k1' : Blk ((w4.setCell ⟨w1.heap.size, 4, none⟩ (.slice K k ck)).setCell ⟨w1.heap.size, 5, none⟩ (.slice V v cv)) w1.heap.size #[.int .i64 (kd : Nat), .int .u32 (fl : Nat), .int .u32 (ex : Nat), .int .u64 (sq : Nat), .slice K k ck, .slice V v cv] 26 := (k1.set_ 4 (.slice K k ck)).set_ 5 (.slice V v cv)
  have k0' : Blk _ w.heap.size _ _ := (hg1.block _ k0.lt (fun e => by injection e with e; omega)).trans k0
  have o3' := o3.kept hg1 hC3
  have o4' := o4.kept hg1 hC4
  have b0' := b0.trans (below_grown hg1 (Nat.le_of_lt hne) k1.lt)
  clear q0 q1 q2 q3 q4 q5 y4 y5 k0 k1 o3 o4 b0 hg1
  generalize (w4.setCell ⟨w1.heap.size, 4, none⟩ (.slice K k ck)).setCell ⟨w1.heap.size, 5, none⟩ (.slice V v cv) = W5 at k1' k0' o3' o4' b0' ⊢
  obtain ⟨q0, q1, q2, q3, q4, q5⟩ := box6 k1'
  obtain ⟨z0, z1, z2, z3, z4, z5⟩ := box6 k0'
  have y0 := k0'.frozen 0
  have y1 := k0'.frozen 1
  have y2 := k0'.frozen 2
  have y3 := k0'.frozen 3
  have y4 := k0'.frozen 4
  have y5 := k0'.frozen 5
  have kf := blk_set6 k0' (.int .i64 (kd : Nat)) (.int .u32 (fl : Nat)) (.int .u32 (ex : Nat)) (.int .u64 (sq : Nat)) (.slice K k ck) (.slice V v cv)
  have hg := grown_set6 W5 w.heap.size (.int .i64 (kd : Nat)) (.int .u32 (fl : Nat)) (.int .u32 (ex : Nat)) (.int .u64 (sq : Nat)) (.slice K k ck) (.slice V v cv)
  have bff := b0'.trans (below_grown hg (Nat.le_refl _) k0'.lt)
  have gK := (o3'.kept hg hB3).more (Nat.le_of_lt hB3)
  have gV := o4'.kept hg hB4
  obtain ⟨t0, t1, t2, t3, t4, t5⟩ := box6 kf
  clear kf hg o3' o4' k0' k1' b0'
  go_wp2_with fail
  refine bodyPost_ret (v := .tuple #[.agg #[.int .i64 (kd : Nat), .int .u32 (fl : Nat), .int .u32 (ex : Nat), .int .u64 (sq : Nat), .slice K k ck, .slice V v cv], .int .i64 (21 + (k : Int) + (v : Int)), .int .i64 0]) (by simp [results, Try.results15, go_sem, t0, t1, t2, t3, t4, t5]) rfl ?_
  exact ⟨K, ck, V, cv, _, rfl, gK, gV, Nat.le_of_lt hB4, hKB, bff⟩

/-- What a Decode tells, the key and the value apart. -/
def DecP (kind : Int) (fl ex sq nk nv : Nat) (lk lv : List UInt8) (N : Nat) (err : Int) (w : World) (e : Ending) (w' : World) : Prop := ∃ K ck V cv B2, e = .returned (.tuple #[.agg #[.int .i64 kind, .int .u32 (fl : Nat), .int .u32 (ex : Nat), .int .u64 (sq : Nat), .slice K nk ck, .slice V nv cv], .int .i64 (N : Nat), .int .i64 err]) ∧
  Own w' w.heap.size K nk ck lk ∧ Own w' B2 V nv cv lv ∧ w.heap.size ≤ B2 ∧ (∀ ad, K = some ad → ad.block < B2) ∧ Below w.heap.size w w'
/-- What the document's Decode tells. -/
def DecR (kind : Int) (fl ex sq nk nv : Nat) (lk lv : List UInt8) (N : Nat) (err : Int) (w : World) (e : Ending) (w' : World) : Prop := ∃ K ck V cv, e = .returned (.tuple #[.agg #[.int .i64 kind, .int .u32 (fl : Nat), .int .u32 (ex : Nat), .int .u64 (sq : Nat), .slice K nk ck, .slice V nv cv], .int .i64 (N : Nat), .int .i64 err]) ∧
  Own w' w.heap.size K nk ck lk ∧ Own w' w.heap.size V nv cv lv ∧ Below w.heap.size w w'
theorem decP_no {err : Int} {w : World} {e : Ending} {w' : World} (h : DecNo err w e w') : DecP 0 0 0 0 0 0 [] [] 0 err w e w' := by
  obtain ⟨rfl, b⟩ := h
  exact ⟨none, 0, none, 0, w.heap.size, rfl, Own.nil _ _, Own.nil _ _, Nat.le_refl _, fun _ h => (by cases h), b⟩
theorem decR_no {err : Int} {w : World} {e : Ending} {w' : World} (h : DecNo err w e w') : DecR 0 0 0 0 0 0 [] [] 0 err w e w' := by
  obtain ⟨rfl, b⟩ := h
  exact ⟨none, 0, none, 0, rfl, Own.nil _ _, Own.nil _ _, b⟩
theorem decs_any (l : List UInt8) (hlen : l.length ≤ 281474976710656) : ∃ (kind : Int) (fl ex sq nk nv : Nat) (lk lv : List UInt8) (N : Nat) (err : Int) (Nn : Int) (ee : Int),
    (∀ A n c w, Rd w w.heap.size A n c l → Calls Try.prog 15 #[.slice A n c] w (DecP kind fl ex sq nk nv lk lv N err w)) ∧
    (∀ A n c w, Rd w w.heap.size A n c l → Calls Try.prog 27 #[.slice A n c] w (DecR kind fl ex sq nk nv lk lv N err w)) ∧
    (∀ A n c w, Rd w w.heap.size A n c l → Calls Try.prog 23 #[.slice A n c] w (NeedQ Nn ee w)) ∧
    (∀ A n c w, Rd w w.heap.size A n c l → Calls Try.prog 28 #[.slice A n c] w (NeedQ Nn ee w)) := by
  by_cases he : headE l = 0
  · by_cases hs : l.length < 21 + fld l 17 2 + fld l 19 2
    · refine ⟨0, 0, 0, 0, 0, 0, [], [], 0, 9, 21 + (fld l 17 2 : Nat) + (fld l 19 2 : Nat), 0, fun A n c w r => ?_, fun A n c w r => ?_, fun A n c w r => ?_, fun A n c w r => ?_⟩
      · exact (dec_short A n c l w r (by rw [← r.len]; exact hlen) he (by rw [← r.len]; exact hs)).mono fun e w' h => decP_no h
      · exact (rdec_short A n c l w r he (by rw [← r.len]; exact hs)).mono fun e w' h => decR_no h
      · exact need06_ok A n c l w r (by rw [← r.len]; exact hlen) he
      · exact (rneed06_any A n c l w r).1 he
    · refine ⟨(fld l 0 1 : Nat), fld l 1 4, fld l 5 4, fld l 9 8, fld l 17 2, fld l 19 2, (l.drop 21).take (fld l 17 2), ((l.drop 21).drop (fld l 17 2)).take (fld l 19 2), 21 + fld l 17 2 + fld l 19 2, 0, 21 + (fld l 17 2 : Nat) + (fld l 19 2 : Nat), 0, fun A n c w r => ?_, fun A n c w r => ?_, fun A n c w r => ?_, fun A n c w r => ?_⟩
      · exact (dec_okd A n c l w r (by rw [← r.len]; exact hlen) he (by rw [← r.len]; omega)).mono fun e w' h => h
      · exact (rdec_ok A n c l w r he (by rw [← r.len]; omega)).mono fun e w' h => h
      · exact need06_ok A n c l w r (by rw [← r.len]; exact hlen) he
      · exact (rneed06_any A n c l w r).1 he
  · refine ⟨0, 0, 0, 0, 0, 0, [], [], 0, headE l, 0, headE l, fun A n c w r => ?_, fun A n c w r => ?_, fun A n c w r => ?_, fun A n c w r => ?_⟩
    · exact (dec_no A n c l w r (by rw [← r.len]; exact hlen) he).mono fun e w' h => decP_no h
    · exact (rdec_no A n c l w r he).mono fun e w' h => decR_no h
    · exact need06_no A n c l w r (by rw [← r.len]; exact hlen) he
    · exact (rneed06_any A n c l w r).2 he
end Go.Proofs.Ytkdkmdjfimnkaaa

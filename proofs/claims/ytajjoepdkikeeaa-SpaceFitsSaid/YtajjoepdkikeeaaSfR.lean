/- icehouseref23.Right, icehouseref25.Fits. Conditions: typed in each theorem. -/
import Derived.Test.YtajjoepdkikeeaaSfA
import Derived.Deep.CutBlock
import Derived.Deep.DeepCutAuto
namespace Go.Proofs.Ytajjoepdkikeeaa
set_option linter.unusedVariables false
open Go.RowKit

set_option maxRecDepth 100000 in
set_option maxHeartbeats 40000000 in
theorem rfits_any (s n k p c : Int) (A : Option Addr) (m cc : Nat) (its : List IT) (w : World) (h : RowI w w.heap.size A m cc its) (hm : m ≤ 200) :
    Calls Try.prog 6 #[planV s n k p c, .slice A m cc] w (FitQ (fitsR s n k p c its) w) := by
  have HRT := Lib.hid (fun W => right23_any s n k p c W)
  unfold planV at HRT ⊢
  have k1 := Blk.new w #[.int .i64 s, .int .i64 n, .int .i64 k, .int .i64 p, .int .i64 c] 23
  have b := below_a1' (Below.refl w.heap.size w) (.cells #[.int .i64 s, .int .i64 n, .int .i64 k, .int .i64 p, .int .i64 c] 23)
  have HI := Lib.hid h
  have HM := Lib.hid hm
  obtain ⟨r, hr⟩ : ∃ r, r = fitsR s n k p c its := ⟨_, rfl⟩
  rw [← hr]
  have HR := Lib.hid hr
  clear hr h hm
  go_enter Try.func6, Try.ntmps6
  go_upto_region 1 with fail
  generalize w.alloc (.cells #[.int .i64 s, .int .i64 n, .int .i64 k, .int .i64 p, .int .i64 c] 23) = W0 at k1 b ⊢
  obtain ⟨q0, q1, q2, q3, q4⟩ := box5 k1
  go_wp2_with fail
  refine (HRT.out W0).mono ?_
  rintro e w1 ⟨rfl, b1⟩
  clear q0 q1 q2 q3 q4
  replace k1 := k1.step b1
  replace b := below_step b b1
  clear b1
  cases hpo : planOk s n k p c with
  | false =>
    have HX : Hid (fitsR s n k p c its = (false, 2)) := Lib.hid (by unfold fitsR; rw [hpo, if_pos rfl])
    clear hpo
    go_wp2_with fail
    go_ret2
    exact ⟨by rw [HR.out, HX.out]; rfl, b⟩
  | true =>
    have HPL : Hid (4 ≤ s ∧ s ≤ 16 ∧ 24 ≤ n ∧ n ≤ 64 ∧ 1 ≤ k ∧ k ≤ 1024 ∧ 1 ≤ p ∧ p ≤ 256 ∧ 1 ≤ c ∧ c ≤ 4) := Lib.hid (by unfold planOk at hpo; exact of_decide_eq_true hpo)
    clear hpo
    have hO : OutR #[.int .i64 s, .int .i64 n, .int .i64 k, .int .i64 p, .int .i64 c] 0 0 0 its w w1 := ⟨rfl, by rw [List.drop_zero, Nat.zero_add], by rw [List.drop_zero, Nat.zero_add], Nat.le_refl _, Nat.le_refl _, k1, b⟩
    clear k1 b
    go_wp2_with fail
    go_loopw [6, 7, 8, 9, 10] (fun s6 s7 s8 _ _ wr => ∃ (i sum cnt : Nat), s6 = .int .i64 (sum : Nat) ∧ s7 = .int .i64 (cnt : Nat) ∧ s8 = .int .i64 (i : Nat) ∧ i ≤ m ∧ OutR #[.int .i64 s, .int .i64 n, .int .i64 k, .int .i64 p, .int .i64 c] i sum cnt its w wr) (fun _ _ s8 _ _ _ => m - (intOf s8).toNat)
    case atStart => exact ⟨0, 0, 0, rfl, rfl, rfl, Nat.zero_le _, hO⟩
    case round =>
      clear hO
      obtain ⟨i, sum, cnt, rfl, rfl, rfl, hi, hall, hsum, hcnt, hs17, hci, k1, b⟩ := hrel
      by_cases hlt : i < m
      · obtain ⟨ad, t, AK, nk, ck, AV, nv, cv, hA, ht, hc, rK, rV⟩ := (HI.out.below b).at hlt
        subst hA
        have hlt' : ((i : Int) < (m : Int)) = True := eq_true (by omega)
        have HLT : Hid (i + 1 ≤ m) := Lib.hid (by omega)
        have HJP : IntKind.i64.wrap ((i : Int) + 1) = (i : Int) + 1 := IntWalk.i64_in _ (by have := HM.out; omega)
        have hlk := rK.len
        have hlv := rV.len
        have HRI := Lib.hid (right13_any AK AV nk ck nv cv t.fl t.ex t.sq t.b wr)
        unfold itmV at HRI
        have HT := Lib.hid ht
        have HF := Lib.hid (And.intro hall (And.intro hsum (And.intro hcnt (And.intro hs17 (And.intro hci (And.intro hlk hlv))))))
        have HC := Lib.hid hc
        have HRK := Lib.hid rK
        clear ht hall hsum hcnt hs17 hci hlk hlv hi hlt rV rK
        go_wp2_with (first | refine wpl_loadI rfl _ rfl (ad.add (i * 6)) (by rfl) _ _ _ _ _ _ HC.out ?_)
        refine HRI.out.mono ?_
        rintro e w5 ⟨rfl, b5⟩
        clear HRI
        have b9 := below_step b b5
        have k19 := k1.step b5
        cases hri : rightI t.sq nk nv with
        | false =>
          have HX := Lib.hid (fitsR_bad HPL.out HT.out (by unfold itOk; rw [HF.out.2.2.2.2.2.1, HF.out.2.2.2.2.2.2]; exact hri))
          clear hri k1 k19 b b5
          go_wp2_with fail
          go_ret2
          exact ⟨by rw [HR.out, HX.out]; rfl, b9⟩
        | true =>
          have HRI := Lib.hid hri
          clear hri k1 b b5 HC HRK
          have HK19 := Lib.hid k19
          clear k19
          have HB9 := Lib.hid b9
          clear b9
          go_wp2_with fail
          go_loopw [9, 10] (fun s9 s10 wq => ∃ q : Nat, i + 1 ≤ q ∧ q ≤ m ∧ s10 = .int .i64 (q : Nat) ∧ s9 = .bool (((its.drop (i + 1)).take (q - (i + 1))).any (sameK t)) ∧ Below w5.heap.size w5 wq) (fun _ s10 _ => m - (intOf s10).toNat)
          case atStart => exact ⟨i + 1, Nat.le_refl _, HLT.out, by first | rfl | go_num, by rw [Nat.sub_self, List.take_zero]; rfl, Below.refl _ _⟩
          case round =>
            obtain ⟨q, hq1, hq2, rfl, rfl, hb⟩ := hrel
            by_cases hltq : q < m
            · have bq := below_step HB9.out hb
              obtain ⟨ad1, t1, AK1, nk1, ck1, AV1, nv1, cv1, hA1, ht1, hc1, rK1, rV1⟩ := (HI.out.below bq).at (j := i) HLT.out
              obtain rfl : ad = ad1 := Option.some.inj hA1
              obtain rfl : t1 = t := Option.some.inj (ht1.symm.trans HT.out)
              obtain ⟨ad2, t2, AK2, nk2, ck2, AV2, nv2, cv2, hA2, ht2, hc2, rK2, rV2⟩ := (HI.out.below bq).at hltq
              obtain rfl : ad = ad2 := Option.some.inj hA2
              have hltq' : ((q : Int) < (m : Int)) = True := eq_true (by omega)
              have hltI : ((i : Int) < (m : Int)) = True := eq_true (by have := HLT.out; omega)
              have HLQ : Hid (q + 1 ≤ m) := Lib.hid (by omega)
              have HQP : IntKind.i64.wrap ((q : Int) + 1) = (q : Int) + 1 := IntWalk.i64_in _ (by have := HM.out; omega)
              have HST := Lib.hid (lat_step (t := t1) hq1 ht2)
              have HQ1 := Lib.hid hq1
              have HC0 := Lib.hid (And.intro (hc1 0 _ rfl) (hc2 0 _ rfl))
              have HRS := Lib.hid (And.intro rK1 rK2)
              have HBQ := Lib.hid bq
              have HHB := Lib.hid hb
              clear hltq hq1 hq2 ht1 ht2 hc1 hc2 rK1 rK2 rV1 rV2 bq hb hA1 hA2
              obtain ⟨la, hla⟩ : ∃ la, la = ((its.drop (i + 1)).take (q - (i + 1))).any (sameK t1) := ⟨_, rfl⟩
              rw [← hla]
              rw [← hla] at HST
              clear hla
              go_upto_region 13 with fail
              refine wp_region_noPanic ?_
              refine region_T (fun wx => wx.cell? (ad.add (i * 6)) = some (.slice AK1 nk1 ck1) ∧ wx.cell? (ad.add (q * 6)) = some (.slice AK2 nk2 ck2)) 15 (by kernel_rfl) ?_
              have bD : Below wr.heap.size wr wr.drew := (Below.refl _ _).drew
              have hHeld : wr.drew.cell? (ad.add (i * 6)) = some (.slice AK1 nk1 ck1) ∧ wr.drew.cell? (ad.add (q * 6)) = some (.slice AK2 nk2 ck2) := HC0.out
              have HSM := Lib.hid (same_any AK1 AK2 nk1 ck1 nk2 ck2 w.heap.size t1.lk t2.lk wr.drew (HRS.out.1.below (bD.mono HBQ.out.size)) (HRS.out.2.below (bD.mono HBQ.out.size)))
              have HHD := Lib.hid (HHB.out.trans (bD.mono HHB.out.size))
              clear bD
              generalize wr.drew = Y0 at hHeld HSM HHD ⊢
              cases la with
              | true =>
                refine takeT (i := 0) (v := ?_) rfl (by kernel_rfl) (by kernel_rfl) (by decide) (by kernel_rfl) (by kernel_rfl) (fun _ _ _ h => h) (Or.inl ⟨by rfl, ?_⟩) hHeld ?_
                rotate_left
                · (intro wx hSw; obtain ⟨a0, a1⟩ := hSw; go_simp; try (with_reducible rfl))
                try simp only [Act.put, List.setIfInBounds_toArray, List.set_cons_zero, List.set_cons_succ]
                refine takeT (i := 1) (v := ?_) rfl (by kernel_rfl) (by kernel_rfl) (by decide) (by kernel_rfl) (by kernel_rfl) (fun _ _ _ h => h) (Or.inl ⟨by rfl, ?_⟩) hHeld ?_
                rotate_left
                · (intro wx hSw; obtain ⟨a0, a1⟩ := hSw; go_simp; try (with_reducible rfl))
                try simp only [Act.put, List.setIfInBounds_toArray, List.set_cons_zero, List.set_cons_succ]
                refine takeT (i := 2) (v := undef) rfl (by kernel_rfl) (by kernel_rfl) (by decide) (by kernel_rfl) (by kernel_rfl) (fun _ _ _ h => h) (Or.inr ⟨by rfl, rfl⟩) hHeld ?_
                try simp only [Act.put, List.setIfInBounds_toArray, List.set_cons_zero, List.set_cons_succ]
                refine takeT (i := 3) (v := undef) rfl (by kernel_rfl) (by kernel_rfl) (by decide) (by kernel_rfl) (by kernel_rfl) (fun _ _ _ h => h) (Or.inr ⟨by rfl, rfl⟩) hHeld ?_
                try simp only [Act.put, List.setIfInBounds_toArray, List.set_cons_zero, List.set_cons_succ]
                refine takeT (i := 4) (v := undef) rfl (by kernel_rfl) (by kernel_rfl) (by decide) (by kernel_rfl) (by kernel_rfl) (fun _ _ _ h => h) (Or.inr ⟨by rfl, rfl⟩) hHeld ?_
                try simp only [Act.put, List.setIfInBounds_toArray, List.set_cons_zero, List.set_cons_succ]
                refine takeT (i := 5) (v := undef) rfl (by kernel_rfl) (by kernel_rfl) (by decide) (by kernel_rfl) (by kernel_rfl) (fun _ _ _ h => h) (Or.inr ⟨by rfl, rfl⟩) hHeld ?_
                try simp only [Act.put, List.setIfInBounds_toArray, List.set_cons_zero, List.set_cons_succ]
                refine takeT (i := 6) (v := undef) rfl (by kernel_rfl) (by kernel_rfl) (by decide) (by kernel_rfl) (by kernel_rfl) (fun _ _ _ h => h) (Or.inr ⟨by rfl, rfl⟩) hHeld ?_
                try simp only [Act.put, List.setIfInBounds_toArray, List.set_cons_zero, List.set_cons_succ]
                refine takeT (i := 7) (v := undef) rfl (by kernel_rfl) (by kernel_rfl) (by decide) (by kernel_rfl) (by kernel_rfl) (fun _ _ _ h => h) (Or.inr ⟨by rfl, rfl⟩) hHeld ?_
                try simp only [Act.put, List.setIfInBounds_toArray, List.set_cons_zero, List.set_cons_succ]
                refine takeT (i := 8) (v := undef) rfl (by kernel_rfl) (by kernel_rfl) (by decide) (by kernel_rfl) (by kernel_rfl) (fun _ _ _ h => h) (Or.inr ⟨by rfl, rfl⟩) hHeld ?_
                try simp only [Act.put, List.setIfInBounds_toArray, List.set_cons_zero, List.set_cons_succ]
                refine takeT (i := 9) (v := undef) rfl (by kernel_rfl) (by kernel_rfl) (by decide) (by kernel_rfl) (by kernel_rfl) (fun _ _ _ h => h) (Or.inr ⟨by rfl, rfl⟩) hHeld ?_
                try simp only [Act.put, List.setIfInBounds_toArray, List.set_cons_zero, List.set_cons_succ]
                refine takeT (i := 10) (v := undef) rfl (by kernel_rfl) (by kernel_rfl) (by decide) (by kernel_rfl) (by kernel_rfl) (fun _ _ _ h => h) (Or.inr ⟨by rfl, rfl⟩) hHeld ?_
                try simp only [Act.put, List.setIfInBounds_toArray, List.set_cons_zero, List.set_cons_succ]
                refine takeT (i := 11) (v := undef) rfl (by kernel_rfl) (by kernel_rfl) (by decide) (by kernel_rfl) (by kernel_rfl) (fun _ _ _ h => h) (Or.inr ⟨by rfl, rfl⟩) hHeld ?_
                try simp only [Act.put, List.setIfInBounds_toArray, List.set_cons_zero, List.set_cons_succ]
                refine takeT (i := 12) (v := undef) rfl (by kernel_rfl) (by kernel_rfl) (by decide) (by kernel_rfl) (by kernel_rfl) (fun _ _ _ h => h) (Or.inr ⟨by rfl, rfl⟩) hHeld ?_
                try simp only [Act.put, List.setIfInBounds_toArray, List.set_cons_zero, List.set_cons_succ]
                refine takeT (i := 13) (v := ?_) rfl (by kernel_rfl) (by kernel_rfl) (by decide) (by kernel_rfl) (by kernel_rfl) (fun _ _ _ h => h) (Or.inl ⟨by rfl, ?_⟩) hHeld ?_
                rotate_left
                · (intro wx hSw; obtain ⟨a0, a1⟩ := hSw; go_simp; try (with_reducible rfl))
                try simp only [Act.put, List.setIfInBounds_toArray, List.set_cons_zero, List.set_cons_succ]
                refine takeT (i := 14) (v := ?_) rfl (by kernel_rfl) (by kernel_rfl) (by decide) (by kernel_rfl) (by kernel_rfl) (fun _ _ _ h => h) (Or.inl ⟨by rfl, ?_⟩) hHeld ?_
                rotate_left
                · (intro wx hSw; obtain ⟨a0, a1⟩ := hSw; go_simp; try (with_reducible rfl))
                try simp only [Act.put, List.setIfInBounds_toArray, List.set_cons_zero, List.set_cons_succ]
                refine doneT (by kernel_rfl) ?_ _
                refine NoPanic.normal ?_
                clear hHeld HSM
                go_wp2_with fail
                go_roundw
                case rel => exact ⟨q + 1, by have := HQ1.out; omega, HLQ.out, by first | rfl | go_num, by rw [HST.out]; rfl, HHD.out⟩
                case measure => have := HLQ.out; simp [intOf]; omega
              | false =>
                refine takeT (i := 0) (v := ?_) rfl (by kernel_rfl) (by kernel_rfl) (by decide) (by kernel_rfl) (by kernel_rfl) (fun _ _ _ h => h) (Or.inl ⟨by rfl, ?_⟩) hHeld ?_
                rotate_left
                · (intro wx hSw; obtain ⟨a0, a1⟩ := hSw; go_simp; try (with_reducible rfl))
                try simp only [Act.put, List.setIfInBounds_toArray, List.set_cons_zero, List.set_cons_succ]
                refine takeT (i := 1) (v := ?_) rfl (by kernel_rfl) (by kernel_rfl) (by decide) (by kernel_rfl) (by kernel_rfl) (fun _ _ _ h => h) (Or.inl ⟨by rfl, ?_⟩) hHeld ?_
                rotate_left
                · (intro wx hSw; obtain ⟨a0, a1⟩ := hSw; go_simp; try (with_reducible rfl))
                try simp only [Act.put, List.setIfInBounds_toArray, List.set_cons_zero, List.set_cons_succ]
                refine takeT (i := 2) (v := ?_) rfl (by kernel_rfl) (by kernel_rfl) (by decide) (by kernel_rfl) (by kernel_rfl) (fun _ _ _ h => h) (Or.inl ⟨by rfl, ?_⟩) hHeld ?_
                rotate_left
                · (intro wx hSw; obtain ⟨a0, a1⟩ := hSw; go_simp; try (with_reducible rfl))
                try simp only [Act.put, List.setIfInBounds_toArray, List.set_cons_zero, List.set_cons_succ]
                refine takeT (i := 3) (v := ?_) rfl (by kernel_rfl) (by kernel_rfl) (by decide) (by kernel_rfl) (by kernel_rfl) (fun _ _ _ h => h) (Or.inl ⟨by rfl, ?_⟩) hHeld ?_
                rotate_left
                · (intro wx hSw; obtain ⟨a0, a1⟩ := hSw; go_simp; try (with_reducible rfl))
                try simp only [Act.put, List.setIfInBounds_toArray, List.set_cons_zero, List.set_cons_succ]
                refine takeT (i := 4) (v := ?_) rfl (by kernel_rfl) (by kernel_rfl) (by decide) (by kernel_rfl) (by kernel_rfl) (fun _ _ _ h => h) (Or.inl ⟨by rfl, ?_⟩) hHeld ?_
                rotate_left
                · (intro wx hSw; obtain ⟨a0, a1⟩ := hSw; go_simp; try (with_reducible rfl))
                try simp only [Act.put, List.setIfInBounds_toArray, List.set_cons_zero, List.set_cons_succ]
                refine takeT (i := 5) (v := ?_) rfl (by kernel_rfl) (by kernel_rfl) (by decide) (by kernel_rfl) (by kernel_rfl) (fun _ _ _ h => h) (Or.inl ⟨by rfl, ?_⟩) hHeld ?_
                rotate_left
                · (intro wx hSw; obtain ⟨a0, a1⟩ := hSw; go_simp; try (with_reducible rfl))
                try simp only [Act.put, List.setIfInBounds_toArray, List.set_cons_zero, List.set_cons_succ]
                refine takeT (i := 6) (v := ?_) rfl (by kernel_rfl) (by kernel_rfl) (by decide) (by kernel_rfl) (by kernel_rfl) (fun _ _ _ h => h) (Or.inl ⟨by rfl, ?_⟩) hHeld ?_
                rotate_left
                · (intro wx hSw; obtain ⟨a0, a1⟩ := hSw; go_simp; try (with_reducible rfl))
                try simp only [Act.put, List.setIfInBounds_toArray, List.set_cons_zero, List.set_cons_succ]
                refine takeT (i := 7) (v := ?_) rfl (by kernel_rfl) (by kernel_rfl) (by decide) (by kernel_rfl) (by kernel_rfl) (fun _ _ _ h => h) (Or.inl ⟨by rfl, ?_⟩) hHeld ?_
                rotate_left
                · (intro wx hSw; obtain ⟨a0, a1⟩ := hSw; go_simp; try (with_reducible rfl))
                try simp only [Act.put, List.setIfInBounds_toArray, List.set_cons_zero, List.set_cons_succ]
                refine takeT (i := 8) (v := ?_) rfl (by kernel_rfl) (by kernel_rfl) (by decide) (by kernel_rfl) (by kernel_rfl) (fun _ _ _ h => h) (Or.inl ⟨by rfl, ?_⟩) hHeld ?_
                rotate_left
                · (intro wx hSw; obtain ⟨a0, a1⟩ := hSw; go_simp; try (with_reducible rfl))
                try simp only [Act.put, List.setIfInBounds_toArray, List.set_cons_zero, List.set_cons_succ]
                refine takeT (i := 9) (v := ?_) rfl (by kernel_rfl) (by kernel_rfl) (by decide) (by kernel_rfl) (by kernel_rfl) (fun _ _ _ h => h) (Or.inl ⟨by rfl, ?_⟩) hHeld ?_
                rotate_left
                · (intro wx hSw; obtain ⟨a0, a1⟩ := hSw; go_simp; try (with_reducible rfl))
                try simp only [Act.put, List.setIfInBounds_toArray, List.set_cons_zero, List.set_cons_succ]
                refine takeT (i := 10) (v := ?_) rfl (by kernel_rfl) (by kernel_rfl) (by decide) (by kernel_rfl) (by kernel_rfl) (fun _ _ _ h => h) (Or.inl ⟨by rfl, ?_⟩) hHeld ?_
                rotate_left
                · (intro wx hSw; obtain ⟨a0, a1⟩ := hSw; go_simp; try (with_reducible rfl))
                try simp only [Act.put, List.setIfInBounds_toArray, List.set_cons_zero, List.set_cons_succ]
                refine takeT (i := 11) (v := ?_) rfl (by kernel_rfl) (by kernel_rfl) (by decide) (by kernel_rfl) (by kernel_rfl) (fun _ _ _ h => h) (Or.inl ⟨by rfl, ?_⟩) hHeld ?_
                rotate_left
                · (intro wx hSw; obtain ⟨a0, a1⟩ := hSw; go_simp; try (with_reducible rfl))
                try simp only [Act.put, List.setIfInBounds_toArray, List.set_cons_zero, List.set_cons_succ]
                refine oneT (i := 12) rfl (by kernel_rfl) (fun KK hK => ?_)
                go_simp
                refine HSM.out.mono ?_
                rintro e Y1 ⟨rfl, hq⟩
                obtain ⟨qd, rfl⟩ := hq
                have hHeld2 : (Y0.drewN qd).cell? (ad.add (i * 6)) = some (.slice AK1 nk1 ck1) ∧ (Y0.drewN qd).cell? (ad.add (q * 6)) = some (.slice AK2 nk2 ck2) := hHeld
                have HHE : Hid (Below w5.heap.size w5 (Y0.drewN qd)) := Lib.hid (HHD.out.trans ((quiet_self ⟨qd, rfl⟩).mono HHD.out.size))
                clear hHeld
                have hHeld := hHeld2
                clear hHeld2
                refine hK.out _ _ (fun _ => hHeld) ?_
                clear hK KK
                try simp only [Act.put, List.setIfInBounds_toArray, List.set_cons_zero, List.set_cons_succ]
                refine takeT (i := 13) (v := ?_) rfl (by kernel_rfl) (by kernel_rfl) (by decide) (by kernel_rfl) (by kernel_rfl) (fun _ _ _ h => h) (Or.inl ⟨by rfl, ?_⟩) hHeld ?_
                rotate_left
                · (intro wx hSw; obtain ⟨a0, a1⟩ := hSw; go_simp; try (with_reducible rfl))
                try simp only [Act.put, List.setIfInBounds_toArray, List.set_cons_zero, List.set_cons_succ]
                refine takeT (i := 14) (v := ?_) rfl (by kernel_rfl) (by kernel_rfl) (by decide) (by kernel_rfl) (by kernel_rfl) (fun _ _ _ h => h) (Or.inl ⟨by rfl, ?_⟩) hHeld ?_
                rotate_left
                · (intro wx hSw; obtain ⟨a0, a1⟩ := hSw; go_simp; try (with_reducible rfl))
                try simp only [Act.put, List.setIfInBounds_toArray, List.set_cons_zero, List.set_cons_succ]
                refine doneT (by kernel_rfl) ?_ _
                refine NoPanic.normal ?_
                clear hHeld HSM
                generalize Y0.drewN qd = Y9 at HHE ⊢
                go_wp2_with fail
                go_roundw
                case rel => exact ⟨q + 1, by have := HQ1.out; omega, HLQ.out, by first | rfl | go_num, by rw [HST.out]; rfl, HHE.out⟩
                case measure => have := HLQ.out; simp [intOf]; omega
            · have hqm : q = m := by omega
              subst hqm
              have hltq' : ((q : Int) < (q : Int)) = False := eq_false (by omega)
              have bq := below_step HB9.out hb
              have k1 := HK19.out.step hb
              obtain ⟨ad1, t1, AK1, nk1, ck1, AV1, nv1, cv1, hA1, ht1, hc1, rK1, rV1⟩ := (HI.out.below bq).at (j := i) HLT.out
              obtain rfl : ad = ad1 := Option.some.inj hA1
              obtain rfl : t1 = t := Option.some.inj (ht1.symm.trans HT.out)
              have hlen : q = its.length := by obtain ⟨_, _, _, h⟩ := HI.out; exact h
              have hlat : ((its.drop (i + 1)).take (q - (i + 1))).any (sameK t1) = decide (t1.lk ∈ (fitL (its.drop (i + 1))).map (·.1)) := by rw [List.take_of_length_le (by rw [List.length_drop]; omega), eqB_mem]
              rw [hlat]
              have hdr := fitL_drop HT.out
              obtain ⟨hall, hsum, hcnt, hs17, hci, hlk, hlv⟩ := HF.out
              have hall' : (its.take (i + 1)).all itOk = true := by rw [List.take_add_one, HT.out]; simp only [Option.toList_some, List.all_append, List.all_cons, List.all_nil, Bool.and_true, hall, Bool.true_and]; unfold itOk; rw [hlk, hlv]; exact HRI.out
              rw [hdr] at hsum hcnt
              have hst := last_step (t1.lk, chI t1.lk.length t1.lv.length) (fitL (its.drop (i + 1)))
              have hlk1 := rK1.len
              have hlv1 := rV1.len
              have HC1 := Lib.hid hc1
              have hch : chI t1.lk.length t1.lv.length ≤ 17 := by rw [hlk, hlv]; exact chI_le HRI.out
              by_cases hin : t1.lk ∈ (fitL (its.drop (i + 1))).map (·.1)
              · rw [hst.1 hin] at hsum hcnt
                have HNX : Hid (OutR #[.int .i64 s, .int .i64 n, .int .i64 k, .int .i64 p, .int .i64 c] (i + 1) sum cnt its w wr) := Lib.hid ⟨hall', hsum, hcnt, by omega, by omega, k1, bq⟩
                rw [decide_eq_true hin]
                clear hst hsum hcnt hall hall' hlat hin hdr hs17 hci k1 bq hb rK1 rV1 hc1 hA1 ht1 hq1 hq2 hlen hlk hlv hlk1 hlv1 hch
                go_wp2_with fail
                go_roundw
                case rel => exact ⟨i + 1, sum, cnt, by first | rfl | go_num, by first | rfl | go_num, by first | rfl | go_num, HLT.out, HNX.out⟩
                case measure => have := HLT.out; simp [intOf]; omega
              · obtain ⟨g1, g2⟩ := hst.2 hin
                rw [g1] at hsum
                rw [g2] at hcnt
                have HRK2 : Hid (nk1 ≤ 10000 ∧ nv1 ≤ 10000) := Lib.hid (by have h := HRI.out; unfold rightI at h; have := of_decide_eq_true h; omega)
                have HCH := Lib.hid (charge25_any AK1 AV1 nk1 ck1 nv1 cv1 t1.fl t1.ex t1.sq t1.b wr HRK2.out.1 HRK2.out.2)
                unfold itmV at HCH
                rw [hlk1, hlv1] at hsum hch
                clear g1
                generalize chI nk1 nv1 = ch at HCH hsum hch
                rw [decide_eq_false hin]
                have ws : IntKind.i64.wrap ((sum : Int) + (ch : Int)) = (sum : Int) + (ch : Int) := IntWalk.i64_in _ (by have := HM.out; omega)
                have wc' : IntKind.i64.wrap ((cnt : Int) + 1) = (cnt : Int) + 1 := IntWalk.i64_in _ (by have := HM.out; omega)
                have HNX : Hid (∀ W, Below wr.heap.size wr W → OutR #[.int .i64 s, .int .i64 n, .int .i64 k, .int .i64 p, .int .i64 c] (i + 1) (sum + ch) (cnt + 1) its w W) := Lib.hid (fun W bW => ⟨hall', by simp only at hsum; omega, by omega, by omega, by omega, k1.step bW, below_step bq bW⟩)
                have hltI : ((i : Int) < (q : Int)) = True := eq_true (by have := HLT.out; omega)
                clear hst g2 hsum hcnt hall hall' hlat hin hdr hs17 hci k1 bq hb rK1 rV1 hc1 hA1 ht1 hq1 hq2 hlen hlk hlv hlk1 hlv1 hch
                go_wp2_with (first | refine wpl_loadI rfl _ rfl (ad.add (i * 6)) (by rfl) _ _ _ _ _ _ HC1.out ?_)
                refine HCH.out.mono ?_
                rintro e w7 ⟨rfl, b7⟩
                have HN7 := Lib.hid (HNX.out w7 b7)
                clear b7 HCH
                go_wp2_with fail
                go_roundw
                case rel => exact ⟨i + 1, sum + ch, cnt + 1, by first | rfl | go_num, by first | rfl | go_num, by first | rfl | go_num, HLT.out, HN7.out⟩
                case measure => have := HLT.out; simp [intOf]; omega
      · have him : i = m := by omega
        subst him
        have hlt' : ((i : Int) < (i : Int)) = False := eq_false (by omega)
        have hlen : i = its.length := by obtain ⟨_, _, _, h⟩ := HI.out; exact h
        have hall' : its.all itOk = true := by rw [hlen, List.take_length] at hall; exact hall
        have hdn : fitL (its.drop i) = [] := by rw [hlen, List.drop_length]; rfl
        rw [hdn] at hsum hcnt
        have hsm : sum = sumL (lastOcc (fitL its)) := hsum
        have hcn : cnt = (lastOcc (fitL its)).length := hcnt
        have HFR := Lib.hid (fitsR_ok HPL.out hall')
        rw [← hsm, ← hcn] at HFR
        have hpl := HPL.out
        have hmb := mul_bnd (s := s) (n := n) ⟨hpl.1, hpl.2.1, hpl.2.2.1, hpl.2.2.2.1⟩
        have v1 : IntKind.i64.wrap (s - 4) = s - 4 := IntWalk.i64_in _ (by omega)
        have v2 : IntKind.i64.wrap (n - 17) = n - 17 := IntWalk.i64_in _ (by omega)
        have v3 : IntKind.i64.wrap ((s - 4) * (n - 17)) = (s - 4) * (n - 17) := IntWalk.i64_in _ (by omega)
        obtain ⟨q0, q1, q2, q3, q4⟩ := box5 k1
        have HB := Lib.hid b
        clear hall hsum hcnt hs17 hci hi hlt hlen hall' hdn hsm hcn hpl hmb k1 b
        by_cases hq : (sum : Int) ≤ (s - 4) * (n - 17)
        · by_cases hc : (cnt : Int) ≤ k
          · have HE : Hid (decide ((sum : Int) ≤ (s - 4) * (n - 17)) = true ∧ decide ((cnt : Int) ≤ k) = true) := Lib.hid ⟨decide_eq_true hq, decide_eq_true hc⟩
            have eq1 := eq_true hq
            have eq2 := eq_true hc
            clear hq hc
            go_wp2_with fail
            go_ret2
            exact ⟨by rw [HR.out, HFR.out, HE.out.1, HE.out.2]; rfl, HB.out⟩
          · have HE : Hid (decide ((sum : Int) ≤ (s - 4) * (n - 17)) = true ∧ decide ((cnt : Int) ≤ k) = false) := Lib.hid ⟨decide_eq_true hq, decide_eq_false hc⟩
            have eq1 := eq_true hq
            have eq2 := eq_false hc
            clear hq hc
            go_wp2_with fail
            go_ret2
            exact ⟨by rw [HR.out, HFR.out, HE.out.1, HE.out.2]; rfl, HB.out⟩
        · have HE : Hid (decide ((sum : Int) ≤ (s - 4) * (n - 17)) = false) := Lib.hid (decide_eq_false hq)
          have eq1 := eq_false hq
          clear hq
          go_wp2_with fail
          go_ret2
          exact ⟨by rw [HR.out, HFR.out, HE.out]; rfl, HB.out⟩
end Go.Proofs.Ytajjoepdkikeeaa

/- icehouseref05.Join. Conditions: typed in each theorem. -/
import Derived.Test.YtkemlpcfijfaeaaSpj
namespace Go.Proofs.Ytkemlpcfijfaeaa
set_option linter.unusedVariables false
open Go.RowKit

def filJ (L : List (List UInt8)) : Nat := fld (L.headD []) 12 2
theorem goodJ_fill {L : List (List UInt8)} {x : List UInt8} (h : L[0]? = some x) : filJ L = fld x 12 2 := by
  cases L with
  | nil => simp at h
  | cons y L =>
    simp at h
    subst h
    rfl
def firstC (L : List (List UInt8)) (k : Nat) : Array Value := if k = 0 then #[.int .u64 0, .int .u32 0, .int .i64 0] else #[.int .u64 (genJ L : Nat), .int .u32 (posJ L : Nat), .int .i64 (filJ L : Nat)]
theorem firstC_pos (L : List (List UInt8)) (k : Nat) (h0 : 0 < k) : firstC L k = #[.int .u64 (genJ L : Nat), .int .u32 (posJ L : Nat), .int .i64 (filJ L : Nat)] := if_neg (by omega)
def RJoinNo (w : World) (e : Ending) (w' : World) : Prop := e = .returned (.tuple #[.slice none 0 0, .bool false]) ∧ Below w.heap.size w w'
def RJoinOk (l : List UInt8) (w : World) (e : Ending) (w' : World) : Prop := ∃ A' c', e = .returned (.tuple #[.slice A' l.length c', .bool true]) ∧ Own w' w.heap.size A' l.length c' l ∧ Below w.heap.size w w'
def RJoinT (L : List (List UInt8)) (w : World) (e : Ending) (w' : World) : Prop := ((∀ j, j < L.length → GoodJ L j) ∧ RJoinOk (joinB L L.length) w e w') ∨ ((∃ j, j < L.length ∧ ¬ GoodJ L j) ∧ RJoinNo w e w')
def RJRel (L : List (List UInt8)) (w : World) (o i : Value) (wr : World) : Prop :=
  ∃ (k : Nat) (A : Option Addr) (N c : Nat), k ≤ L.length ∧ i = .int .i64 k ∧ o = .slice A N c ∧ Own wr (w.heap.size + 1) A N c (joinB L k) ∧ N ≤ 48 * k ∧ (∀ j, j < k → GoodJ L j) ∧ Blk wr w.heap.size (firstC L k) 49 ∧ Below w.heap.size w wr
set_option maxRecDepth 100000 in
set_option maxHeartbeats 1000000 in
theorem rjoin_nil (A : Option Addr) (c : Nat) (w : World) : Calls Try.prog 13 #[.slice A 0 c] w (RJoinNo w) := by
  go_enter Try.func13, Try.ntmps13
  go_wp2_with fail
  go_loopw [4, 6] (fun o i wr => o = .slice none 0 0 ∧ i = .int .i64 0 ∧ Below w.heap.size w wr) (fun _ _ _ => 0)
  case atStart => exact ⟨rfl, rfl, below_a1' (Below.refl _ _) _⟩
  case round =>
    obtain ⟨rfl, rfl, b⟩ := hrel
    go_wp2_with fail
    go_ret2
    exact ⟨rfl, b⟩
set_option maxRecDepth 100000 in
set_option maxHeartbeats 8000000 in
theorem rjoin_any (L : List (List UInt8)) (h64 : ∀ x ∈ L, x.length = 64) (A : Option Addr) (n c : Nat) (hn : n ≤ 1000) (hn0 : n ≠ 0) (w : World) (r : RdB w w.heap.size A n c L) : Calls Try.prog 13 #[.slice A n c] w (RJoinT L w) := by
  have hl := r.len h64
  have n0 : (0 : Int) < (n : Int) := by omega
  have e0 : (0 < n) = True := by simp; omega
  have k0 := Blk.new w #[.int .u64 0, .int .u32 0, .int .i64 0] 49
  have b0 := below_a1' (Below.refl w.heap.size w) (.cells #[.int .u64 0, .int .u32 0, .int .i64 0] 49)
  have hnL : L.length ≤ 1000 := by omega
  have HL := Lib.hid hl
  have H64 := Lib.hid h64
  clear hl h64
  go_enter Try.func13, Try.ntmps13
  go_wp2_with fail
  go_loopw [4, 6] (fun o i wr => RJRel L w o i wr) (fun _ i _ => n - (intOf i).toNat)
  case atStart => exact ⟨0, none, 0, 0, Nat.zero_le _, rfl, rfl, Own.nil _ _, by omega, fun j hj => absurd hj (Nat.not_lt_zero _), k0, b0⟩
  case round =>
    obtain ⟨k, A1, N, c1, hk, rfl, rfl, o1, hN, hgood, kw, b1⟩ := hrel
    have HG := Lib.hid hgood
    clear hgood k0 b0
    rw [HL.out] at hk
    by_cases hlt : k < n
    · obtain ⟨ad, x, rfl, had, hx, hx64, hc⟩ := (r.step b1).at_ H64.out hlt
      have HX := Lib.hid hx
      have HX64 := Lib.hid hx64
      have HC := Lib.hid hc
      clear hx hx64 hc
      have hsz := b1.size
      have hg0 := kw.lt
      by_cases hok : okS x
      · have hR := fun W => rread_yes x HX64.out W hok
        unfold ROk at hR
        have HOK := Lib.hid hok
        have hpl := pay_len HX64.out hok.2.1
        have hf48 : fld x 12 2 ≤ 48 := hok.2.1
        have fp : fld x 8 4 < 4294967296 := fld_lt x 8 4
        have fg : fld x 0 8 < 18446744073709551616 := fld_lt x 0 8
        have HJ := Lib.hid (joinB_snoc HX.out)
        have HNO : Hid (¬ (okS x ∧ fld x 0 8 = genJ L ∧ fld x 8 4 = posJ L + k ∧ (k + 1 < L.length → 48 ≤ fld x 12 2)) → ¬ GoodJ L k) := Lib.hid (goodJ_no HX.out)
        have HYES : Hid ((fld x 0 8 = genJ L ∧ fld x 8 4 = posJ L + k ∧ (k + 1 < n → 48 ≤ fld x 12 2)) → GoodJ L k) := Lib.hid (fun h => ⟨x, HX.out, HOK.out, h.1, h.2.1, fun h2 => h.2.2 (by rw [← HL.out]; exact h2)⟩)
        have HZ : Hid (k = 0 → genJ L = fld x 0 8 ∧ posJ L = fld x 8 4) := Lib.hid (fun h => goodJ_head (by have := HX.out; rw [h] at this; exact this))
        have HFZ : Hid (k = 0 → filJ L = fld x 12 2) := Lib.hid (fun h => goodJ_fill (by have := HX.out; rw [h] at this; exact this))
        unfold paylS at HJ
        generalize eG : fld x 0 8 = g at *
        generalize eP : fld x 8 4 = p at *
        generalize eF : fld x 12 2 = f at *
        clear eG eP eF hok
        have HP := Lib.hid hpl
        have HR := Lib.hid hR
        have ew1 : IntKind.u64.wrap (p : Int) = (p : Int) := IntWalk.u64_in _ (by omega)
        have ewk : IntKind.u64.wrap (k : Int) = (k : Int) := IntWalk.u64_in _ (by omega)
        clear hpl hR
        go_wp2_with (refine wpl_loadS rfl _ rfl (ad.add (k * 64)) rfl x HX64.out HC.out ?_)
        refine (HR.out _).mono ?_
        rintro e w3 ⟨P, cP, rfl, oP, b3⟩
        have hlw2 : w.heap.size < wr.heap.size := hg0
        have hlw : w.heap.size < w3.heap.size := Nat.lt_of_lt_of_le hg0 b3.size
        replace kw := kw.step b3
        replace o1 := Own.below o1 b3
        replace b1 := below_step b1 b3
        have k8 := Blk.new w3 #[.int .u64 (g : Nat), .int .u32 (p : Nat), .int .i64 (f : Nat)] 49
        have ba := below_a1' (Below.refl w3.heap.size w3) (.cells #[.int .u64 (g : Nat), .int .u32 (p : Nat), .int .i64 (f : Nat)] 49)
        replace kw := kw.step ba
        replace o1 := Own.below o1 ba
        replace oP := oP.below ba
        replace b1 := below_step b1 ba
        clear b3 HR ba HC
        go_upto_region 7 with fail
        generalize w3.alloc (.cells #[.int .u64 (g : Nat), .int .u32 (p : Nat), .int .i64 (f : Nat)] 49) = W4 at k8 kw o1 oP b1 ⊢
        by_cases hk0 : k = 0
        · replace kw : Blk W4 w.heap.size #[.int .u64 0, .int .u32 0, .int .i64 0] 49 := by have := kw; unfold firstC at this; rwa [if_pos hk0] at this
          have ek : ((k : Int) == 0) = true := by rw [beq_iff_eq]; omega
          have HK0 := Lib.hid hk0
          have HZ0 := Lib.hid (HZ.out hk0)
          have HF0 : Hid (filJ L = f) := Lib.hid (HFZ.out hk0)
          have epk : ((p : Int) != (p : Int) + (k : Int)) = false := by rw [bne_eq_false_iff_eq]; omega
          have ew3 : IntKind.u64.wrap ((p : Int) + (k : Int)) = (p : Int) + (k : Int) := IntWalk.u64_in _ (by omega)
          clear hk0 fp fg
          have k8w := k8
          have kf := blk_set3 kw (.int .u64 (g : Nat)) (.int .u32 (p : Nat)) (.int .i64 (f : Nat))
          have hg3 := grown_set3 W4 w.heap.size (.int .u64 (g : Nat)) (.int .u32 (p : Nat)) (.int .i64 (f : Nat))
          replace o1 := o1.kept hg3 (Nat.lt_succ_self _)
          replace oP := oP.kept hg3 hlw2
          replace k8 := k8.left hg3 (by omega)
          replace b1 := b1.trans (below_grown hg3 (Nat.le_refl _) kw.lt)
          obtain ⟨z0, z1, z2⟩ := box3 kw
          have y0 := kw.frozen 0
          have y1 := kw.frozen 1
          have y2 := kw.frozen 2
          obtain ⟨q0, q1, q2⟩ := box3 k8w
          go_upto_region 9 with fail
          generalize ((W4.setCell ⟨w.heap.size, 0, none⟩ (.int .u64 (g : Nat))).setCell ⟨w.heap.size, 1, none⟩ (.int .u32 (p : Nat))).setCell ⟨w.heap.size, 2, none⟩ (.int .i64 (f : Nat)) = W5 at kf o1 oP k8 b1 ⊢
          clear z0 z1 z2 y0 y1 y2 q0 q1 q2 hg3 kw k8w
          obtain ⟨z0, z1, z2⟩ := box3 kf
          obtain ⟨q0, q1, q2⟩ := box3 k8
          by_cases hl : k + 1 < n
          · have i1 : (k : Int) + 1 < (n : Int) := by omega
            by_cases hf : f < 48
            · have i2 : ((f : Int) < 48) = True := by simp; omega
              have HNN : Hid (¬ GoodJ L k) := Lib.hid (HNO.out (fun h => by have := h.2.2.2 (by rw [HL.out]; exact hl); omega))
              
              go_wp2_with fail
              go_ret2
              exact Or.inr ⟨⟨k, by rw [HL.out]; exact hlt, HNN.out⟩, rfl, b1⟩
            · have i2 : ((f : Int) < 48) = False := by simp; omega
              have HGN : Hid (GoodJ L k) := Lib.hid (HYES.out ⟨HZ0.out.1.symm, by rw [HZ0.out.2, HK0.out]; rfl, fun _ => by omega⟩)
              have HW : Hid (firstC L (k + 1) = #[.int .u64 (g : Nat), .int .u32 (p : Nat), .int .i64 (f : Nat)]) := Lib.hid (by rw [firstC_pos L (k + 1) (by omega), HZ0.out.1, HZ0.out.2, HF0.out])

              go_wp2_with fail
              refine (both_any A1 P N c1 f cP _ _ _ _ o1.rd oP.rd (Nat.le_refl _) (by omega)).mono ?_
              rintro e w9 ⟨A9, c9, rfl, o9, b9⟩
              have hszk := kf.lt
              replace kf := kf.step b9
              replace b1 := below_step b1 b9
              replace o9 : Own w9 (w.heap.size + 1) A9 (N + f) c9 _ := o9.more (by omega)
              rw [← HJ.out] at o9
              clear b9 o1 oP
              go_wp2_with fail
              go_roundw
              case rel => exact ⟨k + 1, A9, N + f, c9, by rw [HL.out]; omega, by go_num, rfl, o9, by omega, all_step HG.out HGN.out, by rw [HW.out]; exact kf, b1⟩
              case measure => simp [intOf]; omega
          · have i1 : ((k : Int) + 1 < (n : Int)) = False := by simp; omega
            have HGN : Hid (GoodJ L k) := Lib.hid (HYES.out ⟨HZ0.out.1.symm, by rw [HZ0.out.2, HK0.out]; rfl, fun h => absurd h hl⟩)
            have HW : Hid (firstC L (k + 1) = #[.int .u64 (g : Nat), .int .u32 (p : Nat), .int .i64 (f : Nat)]) := Lib.hid (by rw [firstC_pos L (k + 1) (by omega), HZ0.out.1, HZ0.out.2, HF0.out])

            go_wp2_with fail
            refine (both_any A1 P N c1 f cP _ _ _ _ o1.rd oP.rd (Nat.le_refl _) (by omega)).mono ?_
            rintro e w9 ⟨A9, c9, rfl, o9, b9⟩
            have hszk := kf.lt
            replace kf := kf.step b9
            replace b1 := below_step b1 b9
            replace o9 : Own w9 (w.heap.size + 1) A9 (N + f) c9 _ := o9.more (by omega)
            rw [← HJ.out] at o9
            clear b9 o1 oP
            go_wp2_with fail
            go_roundw
            case rel => exact ⟨k + 1, A9, N + f, c9, by rw [HL.out]; omega, by go_num, rfl, o9, by omega, all_step HG.out HGN.out, by rw [HW.out]; exact kf, b1⟩
            case measure => simp [intOf]; omega
        · have hkp : 0 < k := by omega
          have ek : ((k : Int) == 0) = false := by rw [beq_eq_false_iff_ne]; omega
          rw [firstC_pos L k hkp] at kw
          have fP : posJ L < 4294967296 := fld_lt _ 8 4
          obtain ⟨G, hG⟩ : ∃ G, G = genJ L := ⟨_, rfl⟩
          obtain ⟨P0, hP0⟩ : ∃ P0, P0 = posJ L := ⟨_, rfl⟩
          obtain ⟨F, hF⟩ : ∃ F, F = filJ L := ⟨_, rfl⟩
          rw [← hG, ← hP0, ← hF] at kw
          rw [← hP0] at fP
          have HGe := Lib.hid hG.symm
          have HPe := Lib.hid hP0.symm
          have HFe := Lib.hid hF.symm
          clear hG hP0 hF
          have kf := kw
          obtain ⟨z0, z1, z2⟩ := box3 kf
          obtain ⟨q0, q1, q2⟩ := box3 k8
          have ew2 : IntKind.u64.wrap (P0 : Int) = (P0 : Int) := IntWalk.u64_in _ (by omega)
          have ew3 : IntKind.u64.wrap ((P0 : Int) + (k : Int)) = (P0 : Int) + (k : Int) := IntWalk.u64_in _ (by omega)
          by_cases hgg : g = G
          · have eg : ((g : Int) != (G : Int)) = false := by rw [bne_eq_false_iff_eq]; omega
            by_cases hpp : p = P0 + k
            · have epk : ((p : Int) != (P0 : Int) + (k : Int)) = false := by rw [bne_eq_false_iff_eq]; omega
              clear fp fg fP
              by_cases hl : k + 1 < n
              · have i1 : (k : Int) + 1 < (n : Int) := by omega
                by_cases hf : f < 48
                · have i2 : ((f : Int) < 48) = True := by simp; omega
                  have HNN : Hid (¬ GoodJ L k) := Lib.hid (HNO.out (fun h => by have := h.2.2.2 (by rw [HL.out]; exact hl); omega))
                  clear hgg hpp
                  go_wp2_with fail
                  go_ret2
                  exact Or.inr ⟨⟨k, by rw [HL.out]; exact hlt, HNN.out⟩, rfl, b1⟩
                · have i2 : ((f : Int) < 48) = False := by simp; omega
                  have HGN : Hid (GoodJ L k) := Lib.hid (HYES.out ⟨by rw [HGe.out]; exact hgg, by rw [HPe.out]; exact hpp, fun _ => by omega⟩)
                  have HW : Hid (firstC L (k + 1) = #[.int .u64 (G : Nat), .int .u32 (P0 : Nat), .int .i64 (F : Nat)]) := Lib.hid (by rw [firstC_pos L (k + 1) (by omega), HGe.out, HPe.out, HFe.out])
                  clear hgg hpp
                  go_wp2_with fail
                  refine (both_any A1 P N c1 f cP _ _ _ _ o1.rd oP.rd (Nat.le_refl _) (by omega)).mono ?_
                  rintro e w9 ⟨A9, c9, rfl, o9, b9⟩
                  have hszk := kf.lt
                  replace kf := kf.step b9
                  replace b1 := below_step b1 b9
                  replace o9 : Own w9 (w.heap.size + 1) A9 (N + f) c9 _ := o9.more (by omega)
                  rw [← HJ.out] at o9
                  clear b9 o1 oP
                  go_wp2_with fail
                  go_roundw
                  case rel => exact ⟨k + 1, A9, N + f, c9, by rw [HL.out]; omega, by go_num, rfl, o9, by omega, all_step HG.out HGN.out, by rw [HW.out]; exact kf, b1⟩
                  case measure => simp [intOf]; omega
              · have i1 : ((k : Int) + 1 < (n : Int)) = False := by simp; omega
                have HGN : Hid (GoodJ L k) := Lib.hid (HYES.out ⟨by rw [HGe.out]; exact hgg, by rw [HPe.out]; exact hpp, fun h => absurd h hl⟩)
                have HW : Hid (firstC L (k + 1) = #[.int .u64 (G : Nat), .int .u32 (P0 : Nat), .int .i64 (F : Nat)]) := Lib.hid (by rw [firstC_pos L (k + 1) (by omega), HGe.out, HPe.out, HFe.out])
                clear hgg hpp
                go_wp2_with fail
                refine (both_any A1 P N c1 f cP _ _ _ _ o1.rd oP.rd (Nat.le_refl _) (by omega)).mono ?_
                rintro e w9 ⟨A9, c9, rfl, o9, b9⟩
                have hszk := kf.lt
                replace kf := kf.step b9
                replace b1 := below_step b1 b9
                replace o9 : Own w9 (w.heap.size + 1) A9 (N + f) c9 _ := o9.more (by omega)
                rw [← HJ.out] at o9
                clear b9 o1 oP
                go_wp2_with fail
                go_roundw
                case rel => exact ⟨k + 1, A9, N + f, c9, by rw [HL.out]; omega, by go_num, rfl, o9, by omega, all_step HG.out HGN.out, by rw [HW.out]; exact kf, b1⟩
                case measure => simp [intOf]; omega
            · have epk : ((p : Int) != (P0 : Int) + (k : Int)) = true := by rw [bne_iff_ne]; omega
              have HNN : Hid (¬ GoodJ L k) := Lib.hid (HNO.out (fun h => hpp (by rw [h.2.2.1, HPe.out])))
              clear hgg hpp fp fg fP
              go_wp2_with fail
              go_ret2
              exact Or.inr ⟨⟨k, by rw [HL.out]; exact hlt, HNN.out⟩, rfl, b1⟩
          · have eg : ((g : Int) != (G : Int)) = true := by rw [bne_iff_ne]; omega
            have HNN : Hid (¬ GoodJ L k) := Lib.hid (HNO.out (fun h => hgg (by rw [h.2.1, HGe.out])))
            clear hgg fp fg fP
            go_wp2_with fail
            go_ret2
            exact Or.inr ⟨⟨k, by rw [HL.out]; exact hlt, HNN.out⟩, rfl, b1⟩
      · have hR := fun W => rread_no x HX64.out W hok
        unfold RNo at hR
        have HR := Lib.hid hR
        have HNN : Hid (¬ GoodJ L k) := Lib.hid (goodJ_no HX.out fun h => hok h.1)
        clear hR hok
        go_wp2_with (refine wpl_loadS rfl _ rfl (ad.add (k * 64)) rfl x HX64.out HC.out ?_)
        refine (HR.out _).mono ?_
        rintro e w3 ⟨rfl, b3⟩
        have hlw : w.heap.size < w3.heap.size := Nat.lt_of_lt_of_le hg0 b3.size
        replace kw := kw.step b3
        replace b1 := below_step b1 b3
        have k8 := Blk.new w3 #[.int .u64 0, .int .u32 0, .int .i64 0] 49
        have ba := below_a1' (Below.refl w3.heap.size w3) (.cells #[.int .u64 0, .int .u32 0, .int .i64 0] 49)
        replace kw := kw.step ba
        replace b1 := below_step b1 ba
        clear b3 HR ba o1
        go_upto_region 7 with fail
        generalize w3.alloc (.cells #[.int .u64 0, .int .u32 0, .int .i64 0] 49) = W4 at k8 kw b1 ⊢
        obtain ⟨q0, q1, q2⟩ := box3 k8
        by_cases hk0 : k = 0
        · replace kw : Blk W4 w.heap.size #[.int .u64 0, .int .u32 0, .int .i64 0] 49 := by have := kw; unfold firstC at this; rwa [if_pos hk0] at this
          have ek : ((k : Int) == 0) = true := by rw [beq_iff_eq]; omega
          clear hk0
          have hg3 := grown_set3 W4 w.heap.size (.int .u64 0) (.int .u32 0) (.int .i64 0)
          replace b1 := b1.trans (below_grown hg3 (Nat.le_refl _) kw.lt)
          obtain ⟨z0, z1, z2⟩ := box3 kw
          have y0 := kw.frozen 0
          have y1 := kw.frozen 1
          have y2 := kw.frozen 2
          clear hg3
          go_wp2_with fail
          go_ret2
          exact Or.inr ⟨⟨k, by rw [HL.out]; exact hlt, HNN.out⟩, rfl, b1⟩
        · have ek : ((k : Int) == 0) = false := by rw [beq_eq_false_iff_ne]; omega
          clear hk0
          go_wp2_with fail
          go_ret2
          exact Or.inr ⟨⟨k, by rw [HL.out]; exact hlt, HNN.out⟩, rfl, b1⟩
    · obtain rfl : k = n := by omega
      go_wp2_with fail
      go_ret2
      have hjl : (joinB L k).length = N := o1.len
      refine Or.inl ⟨by rw [HL.out]; exact HG.out, ?_⟩
      rw [HL.out]
      refine ⟨A1, c1, by rw [hjl]; rfl, by rw [hjl]; exact o1.more (Nat.le_succ _), b1⟩
end Go.Proofs.Ytkemlpcfijfaeaa

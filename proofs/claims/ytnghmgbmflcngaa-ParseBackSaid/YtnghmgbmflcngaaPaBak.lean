/- ParseBack: requests that are put as frames are told again. Conditions: none. -/
import Derived.Test.YtnghmgbmflcngaaBkm
namespace Go.Proofs.Ytnghmgbmflcngaa
set_option linter.unusedVariables false
open Go.ChangeShapes Go.WideShapes Go.ChangeAt Go.RowKit

theorem wpl_loadR {ops : Array Oper} {rest : List Oper} {o : Oper} {a : Act} {w : World} {Q : Exit → Act → World → Prop} (hgd : o.guard = none) (x : Operand) (ho : o.op = .load 26 x)
    (p : Addr) (hx : a.eval x = .pointer (some p)) (cs : List Value) (hl : cs.length = 12) (hc : ∀ j v, cs[j]? = some v → w.cell? (p.add j) = some v)
    (h : wpList Try.prog ops Q rest (a.put o.dst (.agg cs.toArray)) w) : wpList Try.prog ops Q (o :: rest) a w := by
  obtain ⟨fs, hu⟩ := undReq
  exact wpList_loadz hgd _ x ho p hx cs _ hc hu rfl (by rw [hl]; exact szReq) h
/-- What the calls on a request give. -/
structure BakC (q : RQ) (c nx bl N : Nat) (bs : List UInt8) : Prop where
  fr : ∀ W K2 V2 ck2 cv2, Rd W W.heap.size K2 q.lk.length ck2 q.lk → Rd W W.heap.size V2 q.lv.length cv2 q.lv → Calls Try.prog 42 #[.agg #[.int .i64 q.op, .bool q.qt, .bool q.fu, .int .i64 q.bd, .int .u32 (q.oq : Nat), .slice K2 q.lk.length ck2, .slice V2 q.lv.length cv2, .int .u32 (q.fl : Nat), .int .u32 (q.ex : Nat), .int .u64 (q.cs : Nat), .int .u64 (q.dl : Nat), .int .u64 (q.ni : Nat)]] W fun e w' => ∃ X5 cx5 K5 ck5 V5 cv5, e = .returned (.tuple #[.agg #[.int .u8 128, .int .u8 (c : Nat), .int .u16 (q.lk.length : Nat), .int .u8 (nx : Nat), .int .u8 0, .int .u16 0, .int .u32 (bl : Nat), .int .u32 (q.oq : Nat), .int .u64 (q.cs : Nat), .slice X5 nx cx5, .slice K5 q.lk.length ck5, .slice V5 q.lv.length cv5], .int .i64 0]) ∧ Rd w' w'.heap.size X5 nx cx5 (frmX q) ∧ Rd w' w'.heap.size K5 q.lk.length ck5 q.lk ∧ Rd w' w'.heap.size V5 q.lv.length cv5 q.lv ∧ Below W.heap.size W w'
  rq : ∀ W X5 K5 V5 cx5 ck5 cv5, Rd W W.heap.size X5 nx cx5 (frmX q) → Rd W W.heap.size K5 q.lk.length ck5 q.lk → Rd W W.heap.size V5 q.lv.length cv5 q.lv → Calls Try.prog 53 #[.agg #[.int .u8 128, .int .u8 (c : Nat), .int .u16 (q.lk.length : Nat), .int .u8 (nx : Nat), .int .u8 0, .int .u16 0, .int .u32 (bl : Nat), .int .u32 (q.oq : Nat), .int .u64 (q.cs : Nat), .slice X5 nx cx5, .slice K5 q.lk.length ck5, .slice V5 q.lv.length cv5]] W fun e w' => ∃ K4 V4 ck4 cv4, e = .returned (.tuple #[.agg #[.int .i64 q.op, .bool q.qt, .bool q.fu, .int .i64 q.bd, .int .u32 (q.oq : Nat), .slice K4 q.lk.length ck4, .slice V4 q.lv.length cv4, .int .u32 (q.fl : Nat), .int .u32 (q.ex : Nat), .int .u64 (q.cs : Nat), .int .u64 (q.dl : Nat), .int .u64 (q.ni : Nat)], .int .i64 0]) ∧ Rd w' w'.heap.size K4 q.lk.length ck4 q.lk ∧ Rd w' w'.heap.size V4 q.lv.length cv4 q.lv ∧ Below W.heap.size W w'
  pt : ∀ W X5 K5 V5 cx5 ck5 cv5, Rd W W.heap.size X5 nx cx5 (frmX q) → Rd W W.heap.size K5 q.lk.length ck5 q.lk → Rd W W.heap.size V5 q.lv.length cv5 q.lv → Calls Try.prog 58 #[.agg #[.int .u8 128, .int .u8 (c : Nat), .int .u16 (q.lk.length : Nat), .int .u8 (nx : Nat), .int .u8 0, .int .u16 0, .int .u32 (bl : Nat), .int .u32 (q.oq : Nat), .int .u64 (q.cs : Nat), .slice X5 nx cx5, .slice K5 q.lk.length ck5, .slice V5 q.lv.length cv5]] W fun e w' => ∃ A6 c6, e = .returned (.tuple #[.slice A6 N c6, .int .i64 0]) ∧ Rd w' w'.heap.size A6 N c6 bs ∧ Below W.heap.size W w'
  sm : ∀ W K2 V2 ck2 cv2 K4 V4 ck4 cv4, Rd W W.heap.size K2 q.lk.length ck2 q.lk → Rd W W.heap.size V2 q.lv.length cv2 q.lv → Rd W W.heap.size K4 q.lk.length ck4 q.lk → Rd W W.heap.size V4 q.lv.length cv4 q.lv → Calls Try.prog 48 #[.agg #[.int .i64 q.op, .bool q.qt, .bool q.fu, .int .i64 q.bd, .int .u32 (q.oq : Nat), .slice K2 q.lk.length ck2, .slice V2 q.lv.length cv2, .int .u32 (q.fl : Nat), .int .u32 (q.ex : Nat), .int .u64 (q.cs : Nat), .int .u64 (q.dl : Nat), .int .u64 (q.ni : Nat)], .agg #[.int .i64 q.op, .bool q.qt, .bool q.fu, .int .i64 q.bd, .int .u32 (q.oq : Nat), .slice K4 q.lk.length ck4, .slice V4 q.lv.length cv4, .int .u32 (q.fl : Nat), .int .u32 (q.ex : Nat), .int .u64 (q.cs : Nat), .int .u64 (q.dl : Nat), .int .u64 (q.ni : Nat)]] W fun e w' => e = .returned (.bool true) ∧ Below W.heap.size W w'
  ns : N ≤ 806
  gd : Good q
  bo : bs = bOf q
theorem bakC_of {q : RQ} {c : Nat} (hin : q.In) (hcs : q.cs < 18446744073709551616) (h : sayO q = some c) : BakC q c (frmX q).length ((frmX q).length + q.lk.length + q.lv.length) (24 + (frmX q).length + q.lk.length + q.lv.length) (bytesOf c q) := by
  obtain ⟨f1, f2, f3, f4, f5⟩ := say_frame hin hcs h
  obtain ⟨w1, w2, w3, w4, w5⟩ := wrongE_0 f2
  have hx := frmX_len q
  refine ⟨fun W K2 V2 ck2 cv2 r1 r2 => ?_, fun W X5 K5 V5 cx5 ck5 cv5 r1 r2 r3 => ?_, fun W X5 K5 V5 cx5 ck5 cv5 r1 r2 r3 => ?_, fun W K2 V2 ck2 cv2 K4 V4 ck4 cv4 r1 r2 r3 r4 => ?_, by omega, ⟨hin, hcs, c, h⟩, (bOf_eq h).symm⟩
  · have h1 := pframe_O q hin c h K2 V2 q.lk.length ck2 q.lv.length cv2 W r1 r2
    unfold RQ.val reqV at h1
    exact h1.mono fun _ _ h => h.p
  · have h1 := prequest_yes 128 c q.lk.length (frmX q).length 0 0 ((frmX q).length + q.lk.length + q.lv.length) q.oq q.cs f1 X5 K5 V5 (frmX q).length cx5 q.lk.length ck5 q.lv.length cv5 (by omega) (frmX q) q.lk q.lv W r1 r2 r3 f2 (by decide) q f5
    exact h1.mono fun _ _ h => h.b
  · have h1 := put_O 128 c q.lk.length (frmX q).length 0 0 ((frmX q).length + q.lk.length + q.lv.length) q.oq q.cs f1 X5 K5 V5 (frmX q).length cx5 q.lk.length ck5 q.lv.length cv5 (by omega) w1 w2 w3 w4 w5 (frmX q) q.lk q.lv W r1 r2 r3
    exact h1.mono fun _ _ h => by obtain ⟨A', c', he, o, b⟩ := h; exact ⟨A', c', he, o.rd, b⟩
  · exact same_self q K2 V2 K4 V4 q.lk.length ck2 q.lv.length cv2 q.lk.length ck4 q.lv.length cv4 W r1 r2 r3 r4
set_option maxRecDepth 100000 in
set_option maxHeartbeats 16000000 in
theorem walk_parseBack (A : Option Addr) (n c : Nat) (qs0 : List RQ) (L0 : List (List Value)) (A1 : Option Addr) (n1 c1 : Nat) (l1 : List UInt8) (w : World) (r0 : RowQ w A n c qs0 L0) (s0 : True) (r1 : Rd w w.heap.size A1 n1 c1 l1) (s1 : c1 ≤ 140737488351232) :
    Calls Try.prog 13 #[.slice A n c, .slice A1 n1 c1] w fun e w' => e = .returned (.bool true) ∧ Below w.heap.size w w' := by
  obtain ⟨z0, t0, hn0, hq0⟩ := r0
  have hc1 := r1.cap
  have hcn := z0.cap
  have hcm := z0.max
  unfold maxLen at hcm
  obtain ⟨m1, E1⟩ : ∃ m, m = min n1 100 := ⟨_, rfl⟩
  have I1 : (if (100 : Int) < (n1 : Int) then (100 : Int) else (n1 : Int)) = (m1 : Int) := by split <;> omega
  obtain ⟨X1, cx1, HX1, h1⟩ := slc_h r1 m1 (m1 : Int) rfl (by omega)
  have HR1 := Lib.hid (h1 _ _ r1)
  have HM : Hid (m1 ≤ 100) := Lib.hid (by omega)
  have HN0 := Lib.hid hn0
  have HQ0 := Lib.hid hq0
  have HZ0 := Lib.hid z0
  have HT0 := Lib.hid t0
  clear E1 h1 hc1 hn0 hq0 z0 t0 hcn hcm r1 s1 s0
  go_enter Try.func13, Try.ntmps13
  go_wp2_with fail
  refine (wakes20 w).mono ?_
  rintro e w1 ⟨rfl, b⟩
  have HS := BakS.start b
  clear b
  go_wp2_with fail
  go_loopw [5, 6, 7, 8, 9, 10, 11, 12, 13, 22] (fun sb sw x1 x2 x3 x4 x5 x6 x7 i wr => ∃ (j : Nat) (AB : Option Addr) (nb cb : Nat) (bb : List UInt8) (AW : Option Addr) (nw cw : Nat) (qs : List RQ) (L : List (List Value)), sb = .slice AB nb cb ∧ sw = .slice AW nw cw ∧ i = .int .i64 (j : Nat) ∧ j ≤ n ∧ j ≤ 20 ∧ BakS w AB nb cb bb AW nw cw qs L wr ∧ BakG bb qs j) (fun _ _ _ _ _ _ _ _ _ i _ => n - (intOf i).toNat)
  case atStart => exact ⟨0, none, 0, 0, [], none, 0, 0, [], [], rfl, rfl, rfl, Nat.zero_le _, Nat.zero_le _, HS, BakG.nil⟩
  case round =>
    clear HS
    obtain ⟨j, AB, nb, cb, bb, AW, nw, cw, qs, L, rfl, rfl, rfl, hj, hj2, hs, hg⟩ := hrel
    have HG := Lib.hid hg
    clear hg
    by_cases hlt : j < n
    · have hlt' : ((j : Int) < (n : Int)) = True := eq_true (by omega)
      have HJP : IntKind.i64.wrap ((j : Int) + 1) = (j : Int) + 1 := IntWalk.i64_in _ (by omega)
      have HLT : Hid (j + 1 ≤ n) := Lib.hid (by omega)
      obtain ⟨ad, q0, K0, nk0, ck0, V0, nv0, cv0, hA0, hq0, hcc, rk0, rv0⟩ := wrow_at (HZ0.out.below hs.bel) (HT0.out.below hs.bel) (j := j) (by have := HN0.out; omega) HN0.out
      subst hA0
      obtain ⟨hin0, hcs0⟩ := HQ0.out q0 (List.mem_of_getElem? hq0)
      have HIN : Hid ((fewQ q0).In ∧ (fewQ q0).cs < 18446744073709551616) := Lib.hid ⟨hin0, hcs0⟩
      have HQL : Hid ((fewQ q0).lk.length ≤ 600 ∧ (fewQ q0).lv.length ≤ 3000) := Lib.hid ⟨by show (q0.lk.take _).length ≤ 600; rw [List.length_take]; omega, by show (q0.lv.take _).length ≤ 3000; rw [List.length_take]; omega⟩
      have hfew := fun W hB r1 r2 => few_C w.heap.size q0 K0 V0 nk0 ck0 nv0 cv0 W hB r1 r2
      unfold reqL at hfew
      generalize fewQ q0 = q at HIN HQL hfew
      have HFEW := Lib.hid hfew
      unfold reqL at hcc
      clear hin0 hcs0 hq0 hfew hlt
      by_cases h20 : j = 20
      · have h20a : ((j : Int) == 20) = true := beq_iff_eq.2 (by omega)
        have h20b : ((j : Int) = 20) = True := eq_true (by omega)
        have HJ20 := Lib.hid hj2
        clear h20 hj hj2
        go_upto_region 8 with (first | refine wpl_loadR rfl _ rfl (ad.add (j * 12)) (by rfl) [.int .i64 q0.op, .bool q0.qt, .bool q0.fu, .int .i64 q0.bd, .int .u32 (q0.oq : Nat), .slice K0 nk0 ck0, .slice V0 nv0 cv0, .int .u32 (q0.fl : Nat), .int .u32 (q0.ex : Nat), .int .u64 (q0.cs : Nat), .int .u64 (q0.dl : Nat), .int .u64 (q0.ni : Nat)] rfl hcc ?_)
        replace hs := hs.below (below_a1' (Below.refl wr.heap.size wr) (.cells #[.int .i64 q0.op, .bool q0.qt, .bool q0.fu, .int .i64 q0.bd, .int .u32 (q0.oq : Nat), .slice K0 nk0 ck0, .slice V0 nv0 cv0, .int .u32 (q0.fl : Nat), .int .u32 (q0.ex : Nat), .int .u64 (q0.cs : Nat), .int .u64 (q0.dl : Nat), .int .u64 (q0.ni : Nat)] 26))
        generalize wr.alloc (.cells #[.int .i64 q0.op, .bool q0.qt, .bool q0.fu, .int .i64 q0.bd, .int .u32 (q0.oq : Nat), .slice K0 nk0 ck0, .slice V0 nv0 cv0, .int .u32 (q0.fl : Nat), .int .u32 (q0.ex : Nat), .int .u64 (q0.cs : Nat), .int .u64 (q0.dl : Nat), .int .u64 (q0.ni : Nat)] 26) = W1 at hs ⊢
        clear rk0 rv0 hcc HFEW
        have hnb : nb + m1 ≤ 60000 := by have h1 := HG.out.len; have h2 := hs.que.len; have h3 := HM.out; have := HJ20.out; omega
        have hnb2 : nb + m1 ≤ 140737488355328 := by omega
        have HNB := Lib.hid hnb
        clear hnb
        have rr := HR1.out.below hs.bel
        have hbs := hs.bel.size
        go_wp2_with (at_builtin; refine wpList_appQ _ rfl _ _ rfl w.heap.size AB nb cb bb rfl hs.que w.heap.size X1 m1 cx1 _ rfl rr hnb2 hbs ?_)
        intro AB2 cb2 w3 hq2 gg2 hA2
        have hs2 := hs.app1 hq2 gg2 hA2
        obtain ⟨qt, N, hl, er, hN, hNW, hpre, hA⟩ : ∃ qt N hl er, N = qt.length ∧ nw ≤ N ∧ (∀ i, i < qs.length → qt[i]? = qs[i]?) ∧ Calls Try.prog 50 #[.slice AB2 (nb + m1) cb2, .slice none 0 0] w3 (AllR qt N hl er w3) := by
          have h1 := (all_any AB2 (nb + m1) cb2 _ none 0 0 [] w3 hq2.rd (Rd.nil _ _) (by have := HNB.out; omega) (by decide)).mono (fun _ _ h => h.r)
          rw [HG.out.1, tell_frames qs _ HG.out.2.1] at h1
          exact ⟨_, _, _, _, rfl, by rw [hs.len, List.length_append]; omega, fun i hi => List.getElem?_append_left hi, h1⟩
        have HA := Lib.hid hA
        have HNN := Lib.hid hN
        have HPRE := Lib.hid hpre
        have HNWB : Hid (nw ≤ 20) := Lib.hid (by have h1 := HG.out.len; have h2 := hs.len; have := HJ20.out; omega)
        have hNW' : ((N : Int) < (nw : Int)) = False := eq_false (by omega)
        have HNW2 := Lib.hid hNW
        clear hA hN hpre hNW hs hq2 gg2 hA2 rr hbs hnb2
        go_wp2_with fail
        refine HA.out.mono ?_
        rintro e w4 ⟨OA, oc, L4, rfl, z4, t4, b1⟩
        replace hs2 := hs2.below b1
        clear b1 HA
        go_wp2_with fail
        go_loopw [17, 87] (fun y i wr => ∃ j : Nat, j ≤ nw ∧ i = .int .i64 (j : Nat) ∧ Below w4.heap.size w4 wr) (fun _ i _ => nw - (intOf i).toNat)
        case atStart => exact ⟨0, Nat.zero_le _, rfl, Below.refl _ _⟩
        case round =>
          obtain ⟨j, hj, rfl, hb⟩ := hrel
          have z1 := z4.step hb
          have t1 := t4.below hb (fun _ h => h.elim)
          have hs3 := hs2.below hb
          by_cases hlt : j < nw
          · obtain ⟨ad2, q2, K2, nk2, ck2, V2, nv2, cv2, hA2, hq2, hc2, k2, v2⟩ := wrow_at hs3.oz.rz hs3.row (j := j) (by rw [← hs3.len]; exact hlt) hs3.len
            obtain ⟨ad1, q, K1, nk1, ck1, V1, nv1, cv1, hA1, hq1, hc1, k1, v1⟩ := told_at z1 t1 (j := j) (by have := HNN.out; have := HNW2.out; omega) HNN.out
            obtain rfl : q = q2 := by rw [HPRE.out j (by rw [← hs3.len]; exact hlt), hq2] at hq1; injection hq1 with h; exact h.symm
            subst hA1 hA2
            have hlt' : ((j : Int) < (nw : Int)) = True := eq_true (by omega)
            have hlt2 : ((j : Int) < (N : Int)) = True := eq_true (by have := HNW2.out; omega)
            have HJP2 : IntKind.i64.wrap ((j : Int) + 1) = (j : Int) + 1 := IntWalk.i64_in _ (by have := HNWB.out; omega)
            have HLT2 : Hid (j + 1 ≤ nw) := Lib.hid (by omega)
            have hlt3 : j < N := by have := HNW2.out; omega
            have k2' := k2.more hs3.bel.size
            have v2' := v2.more hs3.bel.size
            have HS2 := Lib.hid hs2
            have HLT3 := Lib.hid hlt3
            clear hlt hlt3 z1 t1 hq1 hq2 hs3 k2 v2 hs2
            go_upto_region 25 with fail
            have hbd := hb.drew
            have k1d : Rd wr.drew wr.drew.heap.size K1 nk1 ck1 q.lk := k1
            have v1d : Rd wr.drew wr.drew.heap.size V1 nv1 cv1 q.lv := v1
            have k2d : Rd wr.drew wr.drew.heap.size K2 nk2 ck2 q.lk := k2'
            have v2d : Rd wr.drew wr.drew.heap.size V2 nv2 cv2 q.lv := v2'
            have HC1 : Hid (∀ i v, (reqL q K1 nk1 ck1 V1 nv1 cv1)[i]? = some v → wr.drew.cell? ((ad1.add (j * 12)).add i) = some v) := Lib.hid hc1
            have HC2 : Hid (∀ i v, (reqL q K2 nk2 ck2 V2 nv2 cv2)[i]? = some v → wr.drew.cell? ((ad2.add (j * 12)).add i) = some v) := Lib.hid hc2
            clear hc1 hc2 k1 v1 k2' v2'
            refine wp_region_still_tail 8 (by kernel_rfl) (by kernel_rfl) ?_
            change wpStill _ _ wr.drew (fun a' => wpList _ _ _ _ a' wr.drew) _ _
            generalize wr.drew = W1 at hbd k1d v1d k2d v2d HC1 HC2 ⊢
            simp only [List.take_succ_cons, List.take_zero, List.drop_succ_cons, List.drop_zero]
            still_step
            still_step
            still_step
            refine still_loadR (by rfl) _ rfl (ad1.add (j * 12)) (by rfl) (reqL q K1 nk1 ck1 V1 nv1 cv1) rfl HC1.out ?_
            still_step
            still_step
            still_step
            refine still_loadR (by rfl) _ rfl (ad2.add (j * 12)) (by rfl) (reqL q K2 nk2 ck2 V2 nv2 cv2) rfl HC2.out ?_
            refine wpStill_nil ?_
            go_wp2_with fail
            refine (same_self q K1 V1 K2 V2 nk1 ck1 nv1 cv1 nk2 ck2 nv2 cv2 W1 k1d v1d k2d v2d).mono ?_
            rintro e w5 ⟨rfl, b5⟩
            replace hbd := below_step hbd b5
            clear b5 k1d v1d k2d v2d HC1 HC2
            go_wp2_with fail
            go_roundw
            case rel => exact ⟨j + 1, HLT2.out, by first | rfl | go_num, hbd⟩
            case measure => have := HLT2.out; simp [intOf]; omega
          · have hlt' : ((j : Int) < (nw : Int)) = False := eq_false (by omega)
            go_wp2_with fail
            go_ret
            exact ⟨rfl, below_step hs2.bel hb⟩
      · have h20a : ((j : Int) == 20) = false := by rw [beq_eq_false_iff_ne]; omega
        have h20b : ((j : Int) = 20) = False := eq_false (by omega)
        have HJ20 : Hid (j + 1 ≤ 20) := Lib.hid (by omega)
        clear h20 hj hj2
        go_upto_region 8 with (first | refine wpl_loadR rfl _ rfl (ad.add (j * 12)) (by rfl) [.int .i64 q0.op, .bool q0.qt, .bool q0.fu, .int .i64 q0.bd, .int .u32 (q0.oq : Nat), .slice K0 nk0 ck0, .slice V0 nv0 cv0, .int .u32 (q0.fl : Nat), .int .u32 (q0.ex : Nat), .int .u64 (q0.cs : Nat), .int .u64 (q0.dl : Nat), .int .u64 (q0.ni : Nat)] rfl hcc ?_)
        have ho8 := hs.owns
        have hge8 := hs.bel.size
        have k8 := Blk.new wr #[.int .i64 q0.op, .bool q0.qt, .bool q0.fu, .int .i64 q0.bd, .int .u32 (q0.oq : Nat), .slice K0 nk0 ck0, .slice V0 nv0 cv0, .int .u32 (q0.fl : Nat), .int .u32 (q0.ex : Nat), .int .u64 (q0.cs : Nat), .int .u64 (q0.dl : Nat), .int .u64 (q0.ni : Nat)] 26
        have ba := below_a1' (Below.refl wr.heap.size wr) (.cells #[.int .i64 q0.op, .bool q0.qt, .bool q0.fu, .int .i64 q0.bd, .int .u32 (q0.oq : Nat), .slice K0 nk0 ck0, .slice V0 nv0 cv0, .int .u32 (q0.fl : Nat), .int .u32 (q0.ex : Nat), .int .u64 (q0.cs : Nat), .int .u64 (q0.dl : Nat), .int .u64 (q0.ni : Nat)] 26)
        replace rk0 := rk0.below (ba.mono hge8)
        replace rv0 := rv0.below (ba.mono hge8)
        replace hs := hs.below ba
        clear ba hcc
        generalize wr.alloc (.cells #[.int .i64 q0.op, .bool q0.qt, .bool q0.fu, .int .i64 q0.bd, .int .u32 (q0.oq : Nat), .slice K0 nk0 ck0, .slice V0 nv0 cv0, .int .u32 (q0.fl : Nat), .int .u32 (q0.ex : Nat), .int .u64 (q0.cs : Nat), .int .u64 (q0.dl : Nat), .int .u64 (q0.ni : Nat)] 26) = W1 at k8 rk0 rv0 hs ⊢
        generalize wr.heap.size = g8 at k8 ho8 hge8 ⊢
        have HO8 := Lib.hid ho8
        have HG8 := Lib.hid hge8
        clear ho8 hge8
        obtain ⟨a0, a1, a2, a3, a4, a5, a6, a7, a8, a9, a10, a11⟩ := box12 k8
        go_wp2_with fail
        refine (HFEW.out _ hs.bel.size rk0 rv0).mono ?_
        rintro e w2 ⟨K2, V2, ck2, cv2, rfl, rK, rV, b1⟩
        replace k8 := k8.step b1
        replace hs := hs.below b1
        clear b1 rk0 rv0 HFEW a0 a1 a2 a3 a4 a5 a6 a7 a8 a9 a10 a11
        obtain ⟨z0, z1, z2, z3, z4, z5, z6, z7, z8, z9, z10, z11⟩ := box12 k8
        have y0 := k8.frozen 0
        have y1 := k8.frozen 1
        have y2 := k8.frozen 2
        have y3 := k8.frozen 3
        have y4 := k8.frozen 4
        have y5 := k8.frozen 5
        have y6 := k8.frozen 6
        have y7 := k8.frozen 7
        have y8 := k8.frozen 8
        have y9 := k8.frozen 9
        have y10 := k8.frozen 10
        have y11 := k8.frozen 11
        have kf := blk_set12 k8 (.int .i64 q.op) (.bool q.qt) (.bool q.fu) (.int .i64 q.bd) (.int .u32 (q.oq : Nat)) (.slice K2 q.lk.length ck2) (.slice V2 q.lv.length cv2) (.int .u32 (q.fl : Nat)) (.int .u32 (q.ex : Nat)) (.int .u64 (q.cs : Nat)) (.int .u64 (q.dl : Nat)) (.int .u64 (q.ni : Nat))
        have gs := grown_set12 w2 g8 (.int .i64 q.op) (.bool q.qt) (.bool q.fu) (.int .i64 q.bd) (.int .u32 (q.oq : Nat)) (.slice K2 q.lk.length ck2) (.slice V2 q.lv.length cv2) (.int .u32 (q.fl : Nat)) (.int .u32 (q.ex : Nat)) (.int .u64 (q.cs : Nat)) (.int .u64 (q.dl : Nat)) (.int .u64 (q.ni : Nat))
        have hge8 := HG8.out
        have hlt8 := k8.lt
        replace hs := hs.box gs hge8 hlt8 HO8.out.1 HO8.out.2
        have b1 := below_grown gs hge8 hlt8
        replace rK := rK.below b1
        replace rV := rV.below b1
        clear b1 gs k8 hge8 hlt8
        go_upto_region 10 with fail
        generalize ((((((((((((w2.setCell ⟨g8, 0, none⟩ (.int .i64 q.op)).setCell ⟨g8, 1, none⟩ (.bool q.qt)).setCell ⟨g8, 2, none⟩ (.bool q.fu)).setCell ⟨g8, 3, none⟩ (.int .i64 q.bd)).setCell ⟨g8, 4, none⟩ (.int .u32 (q.oq : Nat))).setCell ⟨g8, 5, none⟩ (.slice K2 q.lk.length ck2)).setCell ⟨g8, 6, none⟩ (.slice V2 q.lv.length cv2)).setCell ⟨g8, 7, none⟩ (.int .u32 (q.fl : Nat))).setCell ⟨g8, 8, none⟩ (.int .u32 (q.ex : Nat))).setCell ⟨g8, 9, none⟩ (.int .u64 (q.cs : Nat))).setCell ⟨g8, 10, none⟩ (.int .u64 (q.dl : Nat))).setCell ⟨g8, 11, none⟩ (.int .u64 (q.ni : Nat))) = W2 at kf hs rK rV ⊢
        clear z0 z1 z2 z3 z4 z5 z6 z7 z8 z9 z10 z11 y0 y1 y2 y3 y4 y5 y6 y7 y8 y9 y10 y11
        obtain ⟨a0, a1, a2, a3, a4, a5, a6, a7, a8, a9, a10, a11⟩ := box12 kf
        cases hsay : sayO q with
        | none =>
          have HFN : Hid (Calls Try.prog 42 #[.agg #[.int .i64 q.op, .bool q.qt, .bool q.fu, .int .i64 q.bd, .int .u32 (q.oq : Nat), .slice K2 q.lk.length ck2, .slice V2 q.lv.length cv2, .int .u32 (q.fl : Nat), .int .u32 (q.ex : Nat), .int .u64 (q.cs : Nat), .int .u64 (q.dl : Nat), .int .u64 (q.ni : Nat)]] W2 fun e w' => e = .returned (.tuple #[.agg #[.int .u8 0, .int .u8 0, .int .u16 0, .int .u8 0, .int .u8 0, .int .u16 0, .int .u32 0, .int .u32 0, .int .u64 0, .slice none 0 0, .slice none 0 0, .slice none 0 0], .int .i64 2]) ∧ Below W2.heap.size W2 w') := Lib.hid (pframe_N q HIN.out.1 hsay K2 V2 q.lk.length ck2 q.lv.length cv2 W2 (rK.more hs.bel.size) (rV.more hs.bel.size) (by have := HQL.out; omega))
          go_wp2_with fail
          refine HFN.out.mono ?_
          rintro e w3 ⟨rfl, b1⟩
          replace hs := hs.below b1
          clear b1 kf rK rV HFN a0 a1 a2 a3 a4 a5 a6 a7 a8 a9 a10 a11
          go_upto_region 11 with fail
          replace hs := hs.below (below_a1' (Below.refl w3.heap.size w3) (.cells #[.int .u8 0, .int .u8 0, .int .u16 0, .int .u8 0, .int .u8 0, .int .u16 0, .int .u32 0, .int .u32 0, .int .u64 0, .slice none 0 0, .slice none 0 0, .slice none 0 0] 61))
          generalize w3.alloc (.cells #[.int .u8 0, .int .u8 0, .int .u16 0, .int .u8 0, .int .u8 0, .int .u16 0, .int .u32 0, .int .u32 0, .int .u64 0, .slice none 0 0, .slice none 0 0, .slice none 0 0] 61) = W3 at hs ⊢
          go_wp2_with fail
          go_roundw
          case rel => exact ⟨j + 1, AB, nb, cb, bb, AW, nw, cw, qs, L, rfl, rfl, by first | rfl | go_num, HLT.out, HJ20.out, hs, HG.out.more⟩
          case measure => have := HLT.out; simp [intOf]; omega
        | some c =>
          obtain ⟨nx, bl, N, bs, hC⟩ : ∃ nx bl N bs, BakC q c nx bl N bs := ⟨_, _, _, _, bakC_of HIN.out.1 HIN.out.2 hsay⟩
          have HC := Lib.hid hC
          clear hC hsay
          go_wp2_with fail
          refine (HC.out.fr _ _ _ _ _ (rK.more hs.bel.size) (rV.more hs.bel.size)).mono ?_
          rintro e w3 ⟨X5, cx5, K5, ck5, V5, cv5, rfl, rX5, rK5, rV5, b1⟩
          have hz := hs.bel.size
          replace kf := kf.step b1
          replace rK := rK.below (b1.mono hz)
          replace rV := rV.below (b1.mono hz)
          replace hs := hs.below b1
          clear b1 hz
          clear a0 a1 a2 a3 a4 a5 a6 a7 a8 a9 a10 a11
          go_upto_region 11 with fail
          have hz := hs.bel.size
          have k9 := Blk.new w3 #[.int .u8 128, .int .u8 (c : Nat), .int .u16 (q.lk.length : Nat), .int .u8 (nx : Nat), .int .u8 0, .int .u16 0, .int .u32 (bl : Nat), .int .u32 (q.oq : Nat), .int .u64 (q.cs : Nat), .slice X5 nx cx5, .slice K5 q.lk.length ck5, .slice V5 q.lv.length cv5] 61
          have ba := below_a1' (Below.refl w3.heap.size w3) (.cells #[.int .u8 128, .int .u8 (c : Nat), .int .u16 (q.lk.length : Nat), .int .u8 (nx : Nat), .int .u8 0, .int .u16 0, .int .u32 (bl : Nat), .int .u32 (q.oq : Nat), .int .u64 (q.cs : Nat), .slice X5 nx cx5, .slice K5 q.lk.length ck5, .slice V5 q.lv.length cv5] 61)
          replace kf := kf.step ba
          replace rX5 := rX5.step ba
          replace rK5 := rK5.step ba
          replace rV5 := rV5.step ba
          replace rK := rK.below (ba.mono hz)
          replace rV := rV.below (ba.mono hz)
          replace hs := hs.below ba
          clear ba hz
          generalize w3.alloc (.cells #[.int .u8 128, .int .u8 (c : Nat), .int .u16 (q.lk.length : Nat), .int .u8 (nx : Nat), .int .u8 0, .int .u16 0, .int .u32 (bl : Nat), .int .u32 (q.oq : Nat), .int .u64 (q.cs : Nat), .slice X5 nx cx5, .slice K5 q.lk.length ck5, .slice V5 q.lv.length cv5] 61) = W3 at k9 kf rX5 rK5 rV5 rK rV hs ⊢
          generalize w3.heap.size = g9 at k9 ⊢
          obtain ⟨a0, a1, a2, a3, a4, a5, a6, a7, a8, a9, a10, a11⟩ := box12 k9
          go_wp2_with fail
          refine (HC.out.rq _ _ _ _ _ _ _ rX5 rK5 rV5).mono ?_
          rintro e w4 ⟨K4, V4, ck4, cv4, rfl, rK4, rV4, b1⟩
          have hz := hs.bel.size
          replace kf := kf.step b1
          replace k9 := k9.step b1
          replace rX5 := rX5.step b1
          replace rK5 := rK5.step b1
          replace rV5 := rV5.step b1
          replace rK := rK.below (b1.mono hz)
          replace rV := rV.below (b1.mono hz)
          replace hs := hs.below b1
          clear b1 hz
          clear a0 a1 a2 a3 a4 a5 a6 a7 a8 a9 a10 a11
          go_upto_region 13 with fail
          have hz := hs.bel.size
          have k11 := Blk.new w4 #[.int .i64 q.op, .bool q.qt, .bool q.fu, .int .i64 q.bd, .int .u32 (q.oq : Nat), .slice K4 q.lk.length ck4, .slice V4 q.lv.length cv4, .int .u32 (q.fl : Nat), .int .u32 (q.ex : Nat), .int .u64 (q.cs : Nat), .int .u64 (q.dl : Nat), .int .u64 (q.ni : Nat)] 26
          have ba := below_a1' (Below.refl w4.heap.size w4) (.cells #[.int .i64 q.op, .bool q.qt, .bool q.fu, .int .i64 q.bd, .int .u32 (q.oq : Nat), .slice K4 q.lk.length ck4, .slice V4 q.lv.length cv4, .int .u32 (q.fl : Nat), .int .u32 (q.ex : Nat), .int .u64 (q.cs : Nat), .int .u64 (q.dl : Nat), .int .u64 (q.ni : Nat)] 26)
          replace kf := kf.step ba
          replace k9 := k9.step ba
          replace rX5 := rX5.step ba
          replace rK5 := rK5.step ba
          replace rV5 := rV5.step ba
          replace rK4 := rK4.step ba
          replace rV4 := rV4.step ba
          replace rK := rK.below (ba.mono hz)
          replace rV := rV.below (ba.mono hz)
          replace hs := hs.below ba
          clear ba hz
          generalize w4.alloc (.cells #[.int .i64 q.op, .bool q.qt, .bool q.fu, .int .i64 q.bd, .int .u32 (q.oq : Nat), .slice K4 q.lk.length ck4, .slice V4 q.lv.length cv4, .int .u32 (q.fl : Nat), .int .u32 (q.ex : Nat), .int .u64 (q.cs : Nat), .int .u64 (q.dl : Nat), .int .u64 (q.ni : Nat)] 26) = W4 at k11 kf k9 rX5 rK5 rV5 rK4 rV4 rK rV hs ⊢
          generalize w4.heap.size = g11 at k11 ⊢
          obtain ⟨a0, a1, a2, a3, a4, a5, a6, a7, a8, a9, a10, a11⟩ := box12 k9
          go_wp2_with fail
          refine (HC.out.pt _ _ _ _ _ _ _ rX5 rK5 rV5).mono ?_
          rintro e w5 ⟨A6, c6, rfl, rB, b1⟩
          have hz := hs.bel.size
          replace kf := kf.step b1
          replace k11 := k11.step b1
          replace rK4 := rK4.step b1
          replace rV4 := rV4.step b1
          replace rK := rK.below (b1.mono hz)
          replace rV := rV.below (b1.mono hz)
          replace hs := hs.below b1
          clear b1 hz
          clear k9 rX5 rK5 rV5 a0 a1 a2 a3 a4 a5 a6 a7 a8 a9 a10 a11
          obtain ⟨a0, a1, a2, a3, a4, a5, a6, a7, a8, a9, a10, a11⟩ := box12 kf
          obtain ⟨p0, p1, p2, p3, p4, p5, p6, p7, p8, p9, p10, p11⟩ := box12 k11
          go_wp2_with fail
          refine (HC.out.sm _ _ _ _ _ _ _ _ _ (rK.more hs.bel.size) (rV.more hs.bel.size) rK4 rV4).mono ?_
          rintro e w6 ⟨rfl, b1⟩
          replace rB := rB.step b1
          have hz := hs.bel.size
          replace kf := kf.step b1
          replace rK := rK.below (b1.mono hz)
          replace rV := rV.below (b1.mono hz)
          replace hs := hs.below b1
          clear b1 hz
          clear k11 rK4 rV4 a0 a1 a2 a3 a4 a5 a6 a7 a8 a9 a10 a11 p0 p1 p2 p3 p4 p5 p6 p7 p8 p9 p10 p11
          have hnb : nb + N ≤ 140737488355328 := by have h1 := HG.out.len; have h2 := hs.que.len; have h3 := HC.out.ns; have := HJ20.out; omega
          have HNW : Hid (nw + 1 ≤ 200000000000) := Lib.hid (by have h1 := HG.out.len; have h2 := hs.len; have := HJ20.out; omega)
          go_wp2_with (at_builtin; refine wpList_appQ _ rfl _ _ rfl w.heap.size AB nb cb bb rfl hs.que _ A6 N c6 bs rfl rB hnb hs.bel.size ?_)
          intro AB2 cb2 w7 hq7 gg7 hA7
          clear hnb
          have hge8 := HG8.out
          have hlt8 := kf.lt
          have kf7 : Blk w7 g8 #[.int .i64 q.op, .bool q.qt, .bool q.fu, .int .i64 q.bd, .int .u32 (q.oq : Nat), .slice K2 q.lk.length ck2, .slice V2 q.lv.length cv2, .int .u32 (q.fl : Nat), .int .u32 (q.ex : Nat), .int .u64 (q.cs : Nat), .int .u64 (q.dl : Nat), .int .u64 (q.ni : Nat)] 26 := (Kp.of_row gg7).blk kf (fun e => HO8.out.1 (by rw [← obk_eq AB nb cb]; exact e.symm))
          have hs7 := hs.app1 hq7 gg7 hA7
          have b1 : Below w.heap.size w6 w7 := (Kp.of_row gg7).below (fun k e => (hs.que.owner k e.symm).1) hs.bel.size
          replace rK := rK.below b1
          replace rV := rV.below b1
          clear b1 gg7 hA7 hq7 hs kf rB hge8 hlt8
          obtain ⟨a0, a1, a2, a3, a4, a5, a6, a7, a8, a9, a10, a11⟩ := box12 kf7
          have rn := Rz.new1 w7 #[.int .i64 q.op, .bool q.qt, .bool q.fu, .int .i64 q.bd, .int .u32 (q.oq : Nat), .slice K2 q.lk.length ck2, .slice V2 q.lv.length cv2, .int .u32 (q.fl : Nat), .int .u32 (q.ex : Nat), .int .u64 (q.cs : Nat), .int .u64 (q.dl : Nat), .int .u64 (q.ni : Nat)] 26 12 rfl
          have hs8 := hs7.below (below_a1' (Below.refl w7.heap.size w7) (.cells #[.int .i64 q.op, .bool q.qt, .bool q.fu, .int .i64 q.bd, .int .u32 (q.oq : Nat), .slice K2 q.lk.length ck2, .slice V2 q.lv.length cv2, .int .u32 (q.fl : Nat), .int .u32 (q.ex : Nat), .int .u64 (q.cs : Nat), .int .u64 (q.dl : Nat), .int .u64 (q.ni : Nat)] 26))
          have hwc : WCell (w7.alloc (.cells #[.int .i64 q.op, .bool q.qt, .bool q.fu, .int .i64 q.bd, .int .u32 (q.oq : Nat), .slice K2 q.lk.length ck2, .slice V2 q.lv.length cv2, .int .u32 (q.fl : Nat), .int .u32 (q.ex : Nat), .int .u64 (q.cs : Nat), .int .u64 (q.dl : Nat), .int .u64 (q.ni : Nat)] 26)) w.heap.size q (reqL q K2 q.lk.length ck2 V2 q.lv.length cv2) := ⟨K2, _, ck2, V2, _, cv2, rfl, rK.alloc hs7.bel.size _, rV.alloc hs7.bel.size _⟩
          have h1c := hwc.ones
          go_wp2_with (first | refine wpl_bsR _ rfl _ rfl #[.int .i64 q.op, .bool q.qt, .bool q.fu, .int .i64 q.bd, .int .u32 (q.oq : Nat), .slice K2 q.lk.length ck2, .slice V2 q.lv.length cv2, .int .u32 (q.fl : Nat), .int .u32 (q.ex : Nat), .int .u64 (q.cs : Nat), .int .u64 (q.dl : Nat), .int .u64 (q.ni : Nat)] rfl rfl ?_ | (at_builtin; refine wpl_appR _ rfl _ _ rfl w.heap.size AW nw cw L.flatten rfl hs8.oz _ _ 1 1 _ rfl rn h1c HNW.out hs8.bel.size ?_))
          intro AW2 cw2 w9 ho9 gg9 hA9
          have hs9 := hs8.app2 hwc ho9 gg9 (by rw [World.size_alloc]; exact hA9)
          clear hs8 hs7 hwc h1c rn ho9 gg9 hA9 kf7 rK rV a0 a1 a2 a3 a4 a5 a6 a7 a8 a9 a10 a11
          go_wp2_with fail
          go_roundw
          case rel =>
            have hgs := HG.out.snoc HC.out.gd
            rw [← HC.out.bo] at hgs
            exact ⟨j + 1, AB2, nb + N, cb2, bb ++ bs, AW2, nw + 1, cw2, qs ++ [q], L ++ [_], rfl, rfl, by first | rfl | go_num, HLT.out, HJ20.out, hs9, hgs⟩
          case measure => have := HLT.out; simp [intOf]; omega
    · have hlt' : ((j : Int) < (n : Int)) = False := eq_false (by omega)
      have HJ20 := Lib.hid hj2
      clear hlt hj hj2
      have hnb : nb + m1 ≤ 60000 := by have h1 := HG.out.len; have h2 := hs.que.len; have h3 := HM.out; have := HJ20.out; omega
      have hnb2 : nb + m1 ≤ 140737488355328 := by omega
      have HNB := Lib.hid hnb
      clear hnb
      have rr := HR1.out.below hs.bel
      have hbs := hs.bel.size
      go_wp2_with (at_builtin; refine wpList_appQ _ rfl _ _ rfl w.heap.size AB nb cb bb rfl hs.que w.heap.size X1 m1 cx1 _ rfl rr hnb2 hbs ?_)
      intro AB2 cb2 w3 hq2 gg2 hA2
      have hs2 := hs.app1 hq2 gg2 hA2
      obtain ⟨qt, N, hl, er, hN, hNW, hpre, hA⟩ : ∃ qt N hl er, N = qt.length ∧ nw ≤ N ∧ (∀ i, i < qs.length → qt[i]? = qs[i]?) ∧ Calls Try.prog 50 #[.slice AB2 (nb + m1) cb2, .slice none 0 0] w3 (AllR qt N hl er w3) := by
        have h1 := (all_any AB2 (nb + m1) cb2 _ none 0 0 [] w3 hq2.rd (Rd.nil _ _) (by have := HNB.out; omega) (by decide)).mono (fun _ _ h => h.r)
        rw [HG.out.1, tell_frames qs _ HG.out.2.1] at h1
        exact ⟨_, _, _, _, rfl, by rw [hs.len, List.length_append]; omega, fun i hi => List.getElem?_append_left hi, h1⟩
      have HA := Lib.hid hA
      have HNN := Lib.hid hN
      have HPRE := Lib.hid hpre
      have HNWB : Hid (nw ≤ 20) := Lib.hid (by have h1 := HG.out.len; have h2 := hs.len; have := HJ20.out; omega)
      have hNW' : ((N : Int) < (nw : Int)) = False := eq_false (by omega)
      have HNW2 := Lib.hid hNW
      clear hA hN hpre hNW hs hq2 gg2 hA2 rr hbs hnb2
      go_wp2_with fail
      refine HA.out.mono ?_
      rintro e w4 ⟨OA, oc, L4, rfl, z4, t4, b1⟩
      replace hs2 := hs2.below b1
      clear b1 HA
      go_wp2_with fail
      go_loopw [17, 87] (fun y i wr => ∃ j : Nat, j ≤ nw ∧ i = .int .i64 (j : Nat) ∧ Below w4.heap.size w4 wr) (fun _ i _ => nw - (intOf i).toNat)
      case atStart => exact ⟨0, Nat.zero_le _, rfl, Below.refl _ _⟩
      case round =>
        obtain ⟨j, hj, rfl, hb⟩ := hrel
        have z1 := z4.step hb
        have t1 := t4.below hb (fun _ h => h.elim)
        have hs3 := hs2.below hb
        by_cases hlt : j < nw
        · obtain ⟨ad2, q2, K2, nk2, ck2, V2, nv2, cv2, hA2, hq2, hc2, k2, v2⟩ := wrow_at hs3.oz.rz hs3.row (j := j) (by rw [← hs3.len]; exact hlt) hs3.len
          obtain ⟨ad1, q, K1, nk1, ck1, V1, nv1, cv1, hA1, hq1, hc1, k1, v1⟩ := told_at z1 t1 (j := j) (by have := HNN.out; have := HNW2.out; omega) HNN.out
          obtain rfl : q = q2 := by rw [HPRE.out j (by rw [← hs3.len]; exact hlt), hq2] at hq1; injection hq1 with h; exact h.symm
          subst hA1 hA2
          have hlt' : ((j : Int) < (nw : Int)) = True := eq_true (by omega)
          have hlt2 : ((j : Int) < (N : Int)) = True := eq_true (by have := HNW2.out; omega)
          have HJP2 : IntKind.i64.wrap ((j : Int) + 1) = (j : Int) + 1 := IntWalk.i64_in _ (by have := HNWB.out; omega)
          have HLT2 : Hid (j + 1 ≤ nw) := Lib.hid (by omega)
          have hlt3 : j < N := by have := HNW2.out; omega
          have k2' := k2.more hs3.bel.size
          have v2' := v2.more hs3.bel.size
          have HS2 := Lib.hid hs2
          have HLT3 := Lib.hid hlt3
          clear hlt hlt3 z1 t1 hq1 hq2 hs3 k2 v2 hs2
          go_upto_region 25 with fail
          have hbd := hb.drew
          have k1d : Rd wr.drew wr.drew.heap.size K1 nk1 ck1 q.lk := k1
          have v1d : Rd wr.drew wr.drew.heap.size V1 nv1 cv1 q.lv := v1
          have k2d : Rd wr.drew wr.drew.heap.size K2 nk2 ck2 q.lk := k2'
          have v2d : Rd wr.drew wr.drew.heap.size V2 nv2 cv2 q.lv := v2'
          have HC1 : Hid (∀ i v, (reqL q K1 nk1 ck1 V1 nv1 cv1)[i]? = some v → wr.drew.cell? ((ad1.add (j * 12)).add i) = some v) := Lib.hid hc1
          have HC2 : Hid (∀ i v, (reqL q K2 nk2 ck2 V2 nv2 cv2)[i]? = some v → wr.drew.cell? ((ad2.add (j * 12)).add i) = some v) := Lib.hid hc2
          clear hc1 hc2 k1 v1 k2' v2'
          refine wp_region_still_tail 8 (by kernel_rfl) (by kernel_rfl) ?_
          change wpStill _ _ wr.drew (fun a' => wpList _ _ _ _ a' wr.drew) _ _
          generalize wr.drew = W1 at hbd k1d v1d k2d v2d HC1 HC2 ⊢
          simp only [List.take_succ_cons, List.take_zero, List.drop_succ_cons, List.drop_zero]
          still_step
          still_step
          still_step
          refine still_loadR (by rfl) _ rfl (ad1.add (j * 12)) (by rfl) (reqL q K1 nk1 ck1 V1 nv1 cv1) rfl HC1.out ?_
          still_step
          still_step
          still_step
          refine still_loadR (by rfl) _ rfl (ad2.add (j * 12)) (by rfl) (reqL q K2 nk2 ck2 V2 nv2 cv2) rfl HC2.out ?_
          refine wpStill_nil ?_
          go_wp2_with fail
          refine (same_self q K1 V1 K2 V2 nk1 ck1 nv1 cv1 nk2 ck2 nv2 cv2 W1 k1d v1d k2d v2d).mono ?_
          rintro e w5 ⟨rfl, b5⟩
          replace hbd := below_step hbd b5
          clear b5 k1d v1d k2d v2d HC1 HC2
          go_wp2_with fail
          go_roundw
          case rel => exact ⟨j + 1, HLT2.out, by first | rfl | go_num, hbd⟩
          case measure => have := HLT2.out; simp [intOf]; omega
        · have hlt' : ((j : Int) < (nw : Int)) = False := eq_false (by omega)
          go_wp2_with fail
          go_ret
          exact ⟨rfl, below_step hs2.bel hb⟩
end Go.Proofs.Ytnghmgbmflcngaa

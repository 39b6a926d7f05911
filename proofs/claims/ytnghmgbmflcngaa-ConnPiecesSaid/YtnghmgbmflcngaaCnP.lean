/- ConnPieces: in whatever pieces bytes come, the same requests are told, and their answers go out in order. Conditions: none. -/
import Derived.Test.YtnghmgbmflcngaaTlx
import Derived.Test.YtnghmgbmflcngaaCpl
import Derived.Test.YtnghmgbmflcngaaWk22
import Derived.Test.YtnghmgbmflcngaaClo
import Derived.Test.YtnghmgbmflcngaaOpen
import Derived.BigRegion
namespace Go.Proofs.Ytnghmgbmflcngaa
set_option linter.unusedVariables false
open Go.ChangeShapes Go.WideShapes Go.ChangeAt Go.RowKit

set_option maxRecDepth 100000 in
set_option maxHeartbeats 8000000 in
theorem walk_connPieces (A0 : Option Addr) (n0 c0 : Nat) (l0 : List UInt8) (A1 : Option Addr) (n1 c1 : Nat) (l1 : List UInt8) (w : World) (r0 : Rd w w.heap.size A0 n0 c0 l0) (s0 : c0 ≤ 140737488351232) (r1 : Rd w w.heap.size A1 n1 c1 l1) (s1 : c1 ≤ 140737488351232) :
    Calls Try.prog 20 #[.slice A0 n0 c0, .slice A1 n1 c1] w fun e w' => e = .returned (.bool true) ∧ Below w.heap.size w w' := by
  have hc0 := r0.cap
  have hc1 := r1.cap
  obtain ⟨m0, E0⟩ : ∃ m, m = min n0 20000 := ⟨_, rfl⟩
  have I0 : (if (20000 : Int) < (n0 : Int) then (20000 : Int) else (n0 : Int)) = (m0 : Int) := by split <;> omega
  obtain ⟨m1, E1⟩ : ∃ m, m = min n1 200 := ⟨_, rfl⟩
  have I1 : (if (200 : Int) < (n1 : Int) then (200 : Int) else (n1 : Int)) = (m1 : Int) := by split <;> omega
  obtain ⟨X0, cx0, HX0, h0⟩ := slc_h r0 m0 (m0 : Int) rfl (by omega)
  obtain ⟨X1, cx1, HX1, h1⟩ := slc_h r1 m1 (m1 : Int) rfl (by omega)
  have HR0 := Lib.hid (h0 _ _ r0)
  have HR1 := Lib.hid (h1 _ _ r1)
  have HM : Hid (m0 ≤ 20000 ∧ m1 ≤ 200) := Lib.hid (by omega)
  have HTK : Hid (∃ O qs on N cl, (on = (O : List UInt8).length ∧ N = (qs : List RQ).length ∧ N ≤ 20000) ∧ TEnd O qs cl ∧ ∀ W, Below w.heap.size w W → ∀ (A : Option Addr) (m c : Nat) (lc : List UInt8), Rd W W.heap.size A m c lc → m ≤ 200 → Calls Try.prog 73 #[.slice X0 m0 cx0, .slice A m c, .func (.func 70) #[] #[]] W (TlkR O qs on N cl W)) := Lib.hid ⟨_, _, _, _, _, ⟨rfl, rfl, by have h1 := (talk_end (l0.take m0)).2; rw [List.length_take] at h1; omega⟩, (talk_end (l0.take m0)).1, fun W b A m c lc r hm => (talk_any X0 m0 cx0 _ A m c lc W (HR0.out.step b) r HM.out.1 hm).mono fun _ _ h => h.r⟩
  obtain ⟨O, qs, on, N, cl, ⟨hon, hN, hN2⟩, hTE, HT⟩ := HTK.out
  have HTALK := Lib.hid HT
  have HON := Lib.hid hon
  have HN := Lib.hid hN
  have HN2 := Lib.hid hN2
  have HTE := Lib.hid hTE
  clear HT HTK hN hN2 hon hTE E0 E1 h0 h1 hc0 hc1 HR0 r0 r1 s0 s1
  go_enter Try.func20, Try.ntmps20
  go_wp2_with fail
  refine (wakes22 w).mono ?_
  rintro e w1 ⟨rfl, b⟩
  go_upto_region 3 with fail
  go_cut [0, 1] (fun v0 v1 wx => v0 = .slice X0 m0 cx0 ∧ v1 = .slice X1 m1 cx1 ∧ Below w.heap.size w wx)
  case first =>
    go_region
    all_goals (first | go_meet | (go_wp2_with fail; go_meet))
    all_goals exact ⟨rfl, rfl, b.drew⟩
  case rest =>
    obtain ⟨rfl, rfl, b⟩ := hcut
    clear HX0 HX1 I0 I1
    go_wp2_with fail
    refine (HTALK.out _ b X1 m1 cx1 _ (HR1.out.step b) HM.out.2).mono ?_
    rintro e w2 ⟨XA1, xc1, LA1, lc1, L1, rfl, x1, z1, t1, b1⟩
    replace b := below_step b b1
    clear b1
    go_wp2_with fail
    refine (HTALK.out _ b none 0 0 [] (Rd.nil _ _) (by decide)).mono ?_
    rintro e w3 ⟨XA2, xc2, LA2, lc2, L2, rfl, x2, z2, t2, b1⟩
    replace b := below_step b b1
    replace x1 := x1.step b1
    replace z1 := z1.step b1
    replace t1 := t1.below b1 (fun _ h => h.elim)
    clear b1
    have HEQ : Hid (Calls Try.prog 74 #[.slice XA1 on xc1, .slice XA2 on xc2] w3 fun e w' => e = .returned (.bool true) ∧ w3 = w') := Lib.hid (by have h := bytesEqual_any XA1 XA2 on xc1 on xc2 _ _ O O w3 x1 x2; rw [show (O == O) = true from by simp] at h; exact h)
    go_wp2_with fail
    refine HEQ.out.mono ?_
    rintro e w4 ⟨rfl, rfl⟩
    clear HEQ x2
    go_wp2_with fail
    have HX1 := Lib.hid x1
    clear x1
    go_loopw [11, 12, 13, 14, 15, 59] (fun s11 _ _ _ _ i wr => ∃ (j : Nat) (WA : Option Addr) (wn wk : Nat), j ≤ N ∧ i = .int .i64 (j : Nat) ∧ s11 = .slice WA wn wk ∧ Own wr w3.heap.size WA wn wk (outs (qs.take j) 0) ∧ wn ≤ 400 * j ∧ Below w3.heap.size w3 wr) (fun _ _ _ _ _ i _ => N - (intOf i).toNat)
    case atStart => exact ⟨0, none, 0, 0, Nat.zero_le _, rfl, rfl, by rw [List.take_zero]; exact Own.nil _ _, Nat.zero_le _, Below.refl _ _⟩
    case round =>
      obtain ⟨j, WA, wn, wk, hj, rfl, rfl, ho, hwn, hb⟩ := hrel
      by_cases hlt : j < N
      · have z1 := z1.step hb
        have z2 := z2.step hb
        have t1 := t1.below hb (fun _ h => h.elim)
        have t2 := t2.below hb (fun _ h => h.elim)
        obtain ⟨ad1, q, K1, nk1, ck1, V1, nv1, cv1, hA1, hq1, hc1, k1, v1⟩ := told_at z1 t1 (j := j) (by rw [← HN.out]; exact hlt) HN.out
        obtain ⟨ad2, q2, K2, nk2, ck2, V2, nv2, cv2, hA2, hq2, hc2, k2, v2⟩ := told_at z2 t2 (j := j) (by rw [← HN.out]; exact hlt) HN.out
        obtain rfl : q = q2 := by rw [hq1] at hq2; injection hq2
        subst hA1 hA2
        have hlt' : ((j : Int) < (N : Int)) = True := eq_true (by omega)
        have HJP : IntKind.i64.wrap ((j : Int) + 1) = (j : Int) + 1 := IntWalk.i64_in _ (by have := HN2.out; omega)
        have HLT : Hid (j + 1 ≤ N) := Lib.hid (by omega)
        have HQ := Lib.hid hq1
        have HPQ : Hid (PrQ q) := Lib.hid (HTE.out.pr q (List.mem_of_getElem? hq1))
        have HWN : Hid (wn ≤ 400 * j) := Lib.hid hwn
        clear hlt z1 z2 t1 t2 hq1 hq2 hj hwn
        have HC2 := Lib.hid hc2
        clear hc2
        go_upto_region 12 with (first | refine wpl_loadR rfl _ rfl (ad1.add (j * 12)) (by rfl) [.int .i64 q.op, .bool q.qt, .bool q.fu, .int .i64 q.bd, .int .u32 (q.oq : Nat), .slice K1 nk1 ck1, .slice V1 nv1 cv1, .int .u32 (q.fl : Nat), .int .u32 (q.ex : Nat), .int .u64 (q.cs : Nat), .int .u64 (q.dl : Nat), .int .u64 (q.ni : Nat)] rfl hc1 ?_)
        have kb := Blk.new wr #[.int .i64 q.op, .bool q.qt, .bool q.fu, .int .i64 q.bd, .int .u32 (q.oq : Nat), .slice K1 nk1 ck1, .slice V1 nv1 cv1, .int .u32 (q.fl : Nat), .int .u32 (q.ex : Nat), .int .u64 (q.cs : Nat), .int .u64 (q.dl : Nat), .int .u64 (q.ni : Nat)] 26
        have ba := below_a1' (Below.refl wr.heap.size wr) (.cells #[.int .i64 q.op, .bool q.qt, .bool q.fu, .int .i64 q.bd, .int .u32 (q.oq : Nat), .slice K1 nk1 ck1, .slice V1 nv1 cv1, .int .u32 (q.fl : Nat), .int .u32 (q.ex : Nat), .int .u64 (q.cs : Nat), .int .u64 (q.dl : Nat), .int .u64 (q.ni : Nat)] 26)
        replace k1 := k1.step ba
        replace v1 := v1.step ba
        replace k2 := k2.step ba
        replace v2 := v2.step ba
        replace ho := ho.step ba
        replace hb := below_step hb ba
        have HC2' : Hid (∀ i v, (reqL q K2 nk2 ck2 V2 nv2 cv2)[i]? = some v → (wr.alloc (.cells #[.int .i64 q.op, .bool q.qt, .bool q.fu, .int .i64 q.bd, .int .u32 (q.oq : Nat), .slice K1 nk1 ck1, .slice V1 nv1 cv1, .int .u32 (q.fl : Nat), .int .u32 (q.ex : Nat), .int .u64 (q.cs : Nat), .int .u64 (q.dl : Nat), .int .u64 (q.ni : Nat)] 26)).cell? ((ad2.add (j * 12)).add i) = some v) := Lib.hid (fun i v h => cell_later ba (HC2.out i v h))
        clear ba hc1 HC2
        generalize wr.alloc (.cells #[.int .i64 q.op, .bool q.qt, .bool q.fu, .int .i64 q.bd, .int .u32 (q.oq : Nat), .slice K1 nk1 ck1, .slice V1 nv1 cv1, .int .u32 (q.fl : Nat), .int .u32 (q.ex : Nat), .int .u64 (q.cs : Nat), .int .u64 (q.dl : Nat), .int .u64 (q.ni : Nat)] 26) = W0 at kb k1 v1 k2 v2 ho hb HC2' ⊢
        generalize wr.heap.size = gb at kb ⊢
        go_cut [70] (fun s70 wx => s70 = .bool false ∧ Below W0.heap.size W0 wx)
        case first =>
          have HCB := Lib.hid (blk_cells12 (cs := [.int .i64 q.op, .bool q.qt, .bool q.fu, .int .i64 q.bd, .int .u32 (q.oq : Nat), .slice K1 nk1 ck1, .slice V1 nv1 cv1, .int .u32 (q.fl : Nat), .int .u32 (q.ex : Nat), .int .u64 (q.cs : Nat), .int .u64 (q.dl : Nat), .int .u64 (q.ni : Nat)]) kb)
          have k1d : Rd W0.drew W0.drew.heap.size K1 nk1 ck1 q.lk := k1
          have v1d : Rd W0.drew W0.drew.heap.size V1 nv1 cv1 q.lv := v1
          have k2d : Rd W0.drew W0.drew.heap.size K2 nk2 ck2 q.lk := k2
          have v2d : Rd W0.drew W0.drew.heap.size V2 nv2 cv2 q.lv := v2
          have HCBd : Hid (∀ i v, ([.int .i64 q.op, .bool q.qt, .bool q.fu, .int .i64 q.bd, .int .u32 (q.oq : Nat), .slice K1 nk1 ck1, .slice V1 nv1 cv1, .int .u32 (q.fl : Nat), .int .u32 (q.ex : Nat), .int .u64 (q.cs : Nat), .int .u64 (q.dl : Nat), .int .u64 (q.ni : Nat)] : List Value)[i]? = some v → W0.drew.cell? ((⟨gb, 0, none⟩ : Addr).add i) = some v) := Lib.hid HCB.out
          have HC2d : Hid (∀ i v, (reqL q K2 nk2 ck2 V2 nv2 cv2)[i]? = some v → W0.drew.cell? ((ad2.add (j * 12)).add i) = some v) := Lib.hid HC2'.out
          have bD : Below W0.heap.size W0 W0.drew := (Below.refl _ _).drew
          clear HCB HC2' k1 v1 k2 v2
          refine wp_region_still_tail 5 (by kernel_rfl) (by kernel_rfl) ?_
          change wpStill _ _ W0.drew (fun a' => wpList _ _ _ _ a' W0.drew) _ _
          generalize W0.drew = W1 at k1d v1d k2d v2d HCBd HC2d bD ⊢
          simp only [List.take_succ_cons, List.take_zero, List.drop_succ_cons, List.drop_zero]
          refine still_loadR (by rfl) _ rfl ⟨gb, 0, none⟩ (by rfl) [.int .i64 q.op, .bool q.qt, .bool q.fu, .int .i64 q.bd, .int .u32 (q.oq : Nat), .slice K1 nk1 ck1, .slice V1 nv1 cv1, .int .u32 (q.fl : Nat), .int .u32 (q.ex : Nat), .int .u64 (q.cs : Nat), .int .u64 (q.dl : Nat), .int .u64 (q.ni : Nat)] rfl HCBd.out ?_
          still_step
          still_step
          still_step
          refine still_loadR (by rfl) _ rfl (ad2.add (j * 12)) (by rfl) (reqL q K2 nk2 ck2 V2 nv2 cv2) rfl HC2d.out ?_
          refine wpStill_nil ?_
          go_wp2_with fail
          refine (same_selfC q K1 V1 K2 V2 nk1 ck1 nv1 cv1 nk2 ck2 nv2 cv2 W1 k1d v1d k2d v2d).mono ?_
          rintro e w5 ⟨rfl, b5⟩
          replace bD := below_step bD b5
          clear b5
          go_wp2_with fail
          go_meet
          exact ⟨rfl, bD⟩
        case rest =>
          obtain ⟨rfl, bc⟩ := hcut
          replace kb := kb.step bc
          replace k1 := k1.step bc
          replace v1 := v1.step bc
          replace ho := ho.step bc
          replace hb := below_step hb bc
          clear bc k2 v2 HC2'
          go_upto_region 14 with fail
          go_cut [14, 15] (fun s14 s15 wx => ∃ (A : Option Addr) (n c : Nat), s14 = .slice A n c ∧ s15 = .int .i64 0 ∧ Rd wx wx.heap.size A n c (plR q j) ∧ Below wc.heap.size wc wx)
          case first =>
            refine wp_region_noPanic ?_
            refine region_T (fun wx => Blk wx gb #[.int .i64 q.op, .bool q.qt, .bool q.fu, .int .i64 q.bd, .int .u32 (q.oq : Nat), .slice K1 nk1 ck1, .slice V1 nv1 cv1, .int .u32 (q.fl : Nat), .int .u32 (q.ex : Nat), .int .u64 (q.cs : Nat), .int .u64 (q.dl : Nat), .int .u64 (q.ni : Nat)] 26) 10 (by kernel_rfl) ?_
            have bD : Below wc.heap.size wc wc.drew := (Below.refl _ _).drew
            replace k1 := k1.step bD
            replace kb := kb.step bD
            have hHeld := kb
            generalize wc.drew = Y0 at k1 kb bD hHeld ⊢
            refine takeT (i := 0) (v := ?_) rfl (by kernel_rfl) (by kernel_rfl) (by decide) (by kernel_rfl) (by kernel_rfl) (fun _ _ _ h => h) (Or.inl ⟨by rfl, ?_⟩) hHeld ?_
            rotate_left
            · (intro wx hSw; obtain ⟨a0, a1, a2, a3, a4, a5, a6, a7, a8, a9, a10, a11⟩ := box12 hSw; go_simp; try (with_reducible rfl))
            try simp only [Act.put, List.setIfInBounds_toArray, List.set_cons_zero, List.set_cons_succ]
            refine takeT (i := 1) (v := ?_) rfl (by kernel_rfl) (by kernel_rfl) (by decide) (by kernel_rfl) (by kernel_rfl) (fun _ _ _ h => h) (Or.inl ⟨by rfl, ?_⟩) hHeld ?_
            rotate_left
            · (intro wx hSw; obtain ⟨a0, a1, a2, a3, a4, a5, a6, a7, a8, a9, a10, a11⟩ := box12 hSw; go_simp; try (with_reducible rfl))
            try simp only [Act.put, List.setIfInBounds_toArray, List.set_cons_zero, List.set_cons_succ]
            refine takeT (i := 2) (v := ?_) rfl (by kernel_rfl) (by kernel_rfl) (by decide) (by kernel_rfl) (by kernel_rfl) (fun _ _ _ h => h) (Or.inl ⟨by rfl, ?_⟩) hHeld ?_
            rotate_left
            · (intro wx hSw; obtain ⟨a0, a1, a2, a3, a4, a5, a6, a7, a8, a9, a10, a11⟩ := box12 hSw; go_simp; try (with_reducible rfl))
            try simp only [Act.put, List.setIfInBounds_toArray, List.set_cons_zero, List.set_cons_succ]
            have HPL : Hid (Calls Try.prog 70 #[.agg #[.int .i64 q.op, .bool q.qt, .bool q.fu, .int .i64 q.bd, .int .u32 (q.oq : Nat), .slice K1 nk1 ck1, .slice V1 nv1 cv1, .int .u32 (q.fl : Nat), .int .u32 (q.ex : Nat), .int .u64 (q.cs : Nat), .int .u64 (q.dl : Nat), .int .u64 (q.ni : Nat)], .int .i64 (j : Nat)] Y0 (fun e w' => e = .returned (ansV (plS q j) (.slice none 0 0) 0 0 0 (.slice none 0 0) (plC q)) ∧ Below Y0.heap.size Y0 w')) := Lib.hid (plain_any q (.slice K1 nk1 ck1) (.slice V1 nv1 cv1) j Y0)
            refine oneT (i := 3) rfl (by kernel_rfl) (fun KK hK => ?_)
            go_simp
            refine HPL.out.mono ?_
            rintro e Y2 ⟨rfl, b1⟩
            clear hHeld HPL
            replace k1 := k1.step b1
            replace kb := kb.step b1
            replace bD := below_step bD b1
            have hHeld := kb
            clear b1
            refine hK.out _ _ (fun _ => hHeld) ?_
            clear hK KK
            try simp only [Act.put, List.setIfInBounds_toArray, List.set_cons_zero, List.set_cons_succ]
            have HOF : Hid (Calls Try.prog 22 #[.agg #[.int .i64 q.op, .bool q.qt, .bool q.fu, .int .i64 q.bd, .int .u32 (q.oq : Nat), .slice K1 nk1 ck1, .slice V1 nv1 cv1, .int .u32 (q.fl : Nat), .int .u32 (q.ex : Nat), .int .u64 (q.cs : Nat), .int .u64 (q.dl : Nat), .int .u64 (q.ni : Nat)], .agg #[.int .i64 (plS q j), .slice none 0 0, .int .u32 (0 : Nat), .int .u64 (0 : Nat), .int .u64 (0 : Nat), .slice none 0 0, .bool (plC q)]] Y2 (OfQ (plR q j, 0) Y2)) := Lib.hid (by have h := of_any q.op q.qt q.fu q.bd q.oq K1 nk1 ck1 q.lk (.slice V1 nv1 cv1) q.fl q.ex q.cs q.dl q.ni (plS q j) none 0 0 [] 0 0 0 none 0 0 [] (plC q) Y2 k1 (Rd.nil _ _) (Rz.nil _ _ _) rfl (by have h1 := k1.len; have h2 := HPQ.out.lk; omega) (by decide) (by decide) (by decide) (by decide) HPQ.out.oq; rw [(plg_of HPQ.out j).1] at h; exact h)
            refine oneT (i := 4) rfl (by kernel_rfl) (fun KK hK => ?_)
            go_simp
            refine HOF.out.mono ?_
            rintro e Y3 ⟨on3, OA3, oc3, rfl, o3, b1⟩
            clear hHeld HOF
            replace kb := kb.step b1
            replace bD := below_step bD b1
            have hHeld := kb
            have r3 := o3.rd
            clear b1 o3
            refine hK.out _ _ (fun _ => hHeld) ?_
            clear hK KK
            refine takeT (i := 5) (v := ?_) rfl (by kernel_rfl) (by kernel_rfl) (by decide) (by kernel_rfl) (by kernel_rfl) (fun _ _ _ h => h) (Or.inl ⟨by rfl, ?_⟩) hHeld ?_
            rotate_left
            · (intro wx hSw; obtain ⟨a0, a1, a2, a3, a4, a5, a6, a7, a8, a9, a10, a11⟩ := box12 hSw; go_simp; try (with_reducible rfl))
            try simp only [Act.put, List.setIfInBounds_toArray, List.set_cons_zero, List.set_cons_succ]
            refine takeT (i := 6) (v := ?_) rfl (by kernel_rfl) (by kernel_rfl) (by decide) (by kernel_rfl) (by kernel_rfl) (fun _ _ _ h => h) (Or.inl ⟨by rfl, ?_⟩) hHeld ?_
            rotate_left
            · (intro wx hSw; obtain ⟨a0, a1, a2, a3, a4, a5, a6, a7, a8, a9, a10, a11⟩ := box12 hSw; go_simp; try (with_reducible rfl))
            try simp only [Act.put, List.setIfInBounds_toArray, List.set_cons_zero, List.set_cons_succ]
            refine takeT (i := 7) (v := ?_) rfl (by kernel_rfl) (by kernel_rfl) (by decide) (by kernel_rfl) (by kernel_rfl) (fun _ _ _ h => h) (Or.inl ⟨by rfl, ?_⟩) hHeld ?_
            rotate_left
            · (intro wx hSw; obtain ⟨a0, a1, a2, a3, a4, a5, a6, a7, a8, a9, a10, a11⟩ := box12 hSw; go_simp; try (with_reducible rfl))
            try simp only [Act.put, List.setIfInBounds_toArray, List.set_cons_zero, List.set_cons_succ]
            refine takeT (i := 8) (v := ?_) rfl (by kernel_rfl) (by kernel_rfl) (by decide) (by kernel_rfl) (by kernel_rfl) (fun _ _ _ h => h) (Or.inl ⟨by rfl, ?_⟩) hHeld ?_
            rotate_left
            · (intro wx hSw; obtain ⟨a0, a1, a2, a3, a4, a5, a6, a7, a8, a9, a10, a11⟩ := box12 hSw; go_simp; try (with_reducible rfl))
            try simp only [Act.put, List.setIfInBounds_toArray, List.set_cons_zero, List.set_cons_succ]
            refine takeT (i := 9) (v := ?_) rfl (by kernel_rfl) (by kernel_rfl) (by decide) (by kernel_rfl) (by kernel_rfl) (fun _ _ _ h => h) (Or.inl ⟨by rfl, ?_⟩) hHeld ?_
            rotate_left
            · (intro wx hSw; obtain ⟨a0, a1, a2, a3, a4, a5, a6, a7, a8, a9, a10, a11⟩ := box12 hSw; go_simp; try (with_reducible rfl))
            try simp only [Act.put, List.setIfInBounds_toArray, List.set_cons_zero, List.set_cons_succ]
            refine doneT (by kernel_rfl) ?_ _
            refine NoPanic.normal ?_
            clear hHeld
            go_wp2_with fail
            go_meet
            exact ⟨_, _, _, rfl, rfl, r3, bD⟩
          case rest =>
            obtain ⟨A3, on3, oc3, rfl, rfl, r3, bc⟩ := hcut
            rename_i w5
            replace ho := ho.step bc
            replace hb := below_step hb bc
            clear bc kb k1 v1
            have hr3 := r3.len
            have hR4 := (plg_of HPQ.out j).2
            have HBY : Hid (wn + on3 ≤ 400 * (j + 1)) := Lib.hid (by have := HWN.out; omega)
            clear hr3 hR4
            have hby2 : wn + on3 ≤ 140737488355328 := by have h1 := HBY.out; have h2 := HN2.out; have h3 := HLT.out; omega
            have hsz := hb.size
            go_wp2_with (at_builtin; refine wpl_appO _ rfl _ _ rfl w3.heap.size WA wn wk _ rfl ho _ A3 on3 oc3 _ rfl r3 hby2 hsz ?_)
            intro WA2 wc2 w6 o6 g6 hA6
            have hk6 := (Kp.of_row g6).below (fun k e => (ho.ownt k e.symm).1) hsz
            replace hb := hb.trans hk6
            rw [← outs_take HQ.out] at o6
            clear hk6 g6 hA6 ho r3 hsz hby2
            go_wp2_with fail
            go_roundw
            case rel => exact ⟨j + 1, WA2, wn + on3, wc2, HLT.out, by first | rfl | go_num, rfl, o6, HBY.out, hb⟩
            case measure => have := HLT.out; simp [intOf]; omega
      · have hlt' : ((j : Int) < (N : Int)) = False := eq_false (by omega)
        obtain rfl : j = N := by omega
        rw [show outs (qs.take j) 0 = outs qs 0 from by rw [HN.out, List.take_length]] at ho
        have x1 := HX1.out.step hb
        have z1 := z1.step hb
        have t1 := t1.below hb (fun _ h => h.elim)
        have HEQ := Lib.hid (bytesEqual_any XA1 WA on xc1 wn wk _ _ O (outs qs 0) wr x1 ho.rd)
        go_wp2_with fail
        refine HEQ.out.mono ?_
        rintro e w5 ⟨rfl, rfl⟩
        clear HEQ
        rcases HTE.out.how with ⟨hO, rfl⟩ | ⟨hO, rfl, q, hq, h7, hpos⟩ | ⟨hO, rfl⟩
        · have hE : (O == outs qs 0) = true := by rw [beq_iff_eq]; exact hO
          rw [hE]
          clear hE hO
          go_wp2_with fail
          go_ret
          exact ⟨rfl, below_step b hb⟩
        · have hE : (O == outs qs 0) = true := by rw [beq_iff_eq]; exact hO
          rw [hE]
          obtain ⟨ad1, q1, K1, nk1, ck1, V1, nv1, cv1, hA1, hq1, hc1, -, -⟩ := told_at z1 t1 (j := j - 1) (by rw [← HN.out]; have := HN.out; omega) HN.out
          obtain rfl : q1 = q := by have hq2 := hq; rw [← HN.out] at hq2; rw [hq1] at hq2; injection hq2
          subst hA1
          have hn0 : ((0 : Int) < (j : Int)) = True := eq_true (by have := HN.out; omega)
          have hw : IntKind.i64.wrap ((j : Int) - 1) = ((j - 1 : Nat) : Int) := by rw [IntWalk.i64_in _ (by have := HN2.out; omega)]; have := HN.out; omega
          have hcell := hc1 0 (.int .i64 q1.op) rfl
          rw [h7, Addr.add_zero'] at hcell
          have HJ0 : Hid (0 < j) := Lib.hid (by have := HN.out; omega)
          clear hE hO hq hq1 h7 hpos hc1
          go_wp2_with fail
          go_ret
          exact ⟨rfl, below_step b hb⟩
        · have hE : (O == outs qs 0) = false := by rw [hO]; exact mal_ne _
          rw [hE]
          have HMA := Lib.hid (mal_any wr)
          have HOL := Lib.hid hO
          have HWN := Lib.hid hwn
          clear hE hO hwn z1 t1
          go_wp2_with fail
          refine HMA.out.mono ?_
          rintro e w6 ⟨NM, AM, cM, rfl, oM, bM⟩
          replace ho := ho.step bM
          replace x1 := x1.step bM
          have hb2 := below_step hb bM
          clear hb bM HMA
          have hml := oM.rd.len
          have hml2 : malB.length ≤ 1000 := by decide +kernel
          have hby2 : wn + NM ≤ 140737488355328 := by have h1 := HWN.out; have h2 := HN2.out; omega
          have hsz := hb2.size
          have rM := oM.rd
          clear hml hml2
          go_wp2_with (at_builtin; refine wpl_appO _ rfl _ _ rfl w3.heap.size WA wn wk _ rfl ho _ AM NM cM _ rfl rM hby2 hsz ?_)
          intro WA2 wc2 w7 o7 g7 hA7
          have b7 := (Kp.of_row g7).below (fun k e => (ho.ownt k e.symm).1) hsz
          have hb7 := hb2.trans b7
          replace x1 := HX1.out.step hb7
          have HEQ : Hid (Calls Try.prog 74 #[.slice XA1 on xc1, .slice WA2 (wn + NM) wc2] w7 fun e w' => e = .returned (.bool true) ∧ w7 = w') := Lib.hid (by have h := bytesEqual_any XA1 WA2 on xc1 (wn + NM) wc2 _ _ O _ w7 x1 o7.rd; rw [HOL.out, show ((outs qs 0 ++ malB) == (outs qs 0 ++ malB)) = true from by simp] at h; exact h)
          clear b7 g7 hA7 ho oM rM hsz hby2 hb2
          go_wp2_with fail
          refine HEQ.out.mono ?_
          rintro e w8 ⟨rfl, rfl⟩
          go_wp2_with fail
          go_ret
          exact ⟨rfl, below_step b hb7⟩


set_option maxRecDepth 100000 in
theorem lifted_connPieces (os : Os) (started : os.Started) (H : Type) (enc : TypeId × Value → H) :
    ReturnsInHanded {} Try.checked os 20 .any (Rows.connPiecesSpec.pre6 enc Try.prog Try.f20 Rows.connPiecesRow.domain false) (Rows.connPiecesSpec.post enc Try.prog Try.f20 false true false false) := by
  refine returnsInHanded_of_change_sized (C := Try.checked) own started (by kernel_rfl) Try.func20
    (ChangeSpec.witness6 (enc := enc) (C := Try.checked) false ⟨#[], #[.slice none 0 0, .slice none 0 0], []⟩ 8 (by kernel_rfl) (by kernel_rfl) (by kernel_rfl) (by kernel_rfl)) ?_
  intro W base args ds gs before hval0 hW hcnd hsz0 _
  have hval : ∀ (j : Nat) t v, Try.f20.params[j]? = some t → args[j]? = some v → Value.okWide Try.prog W .any base t v := hval0
  have hsz : (DataW.weightsEach Try.prog (Try.f20.params.toList ++ Rows.connPiecesSpec.plain.varTypes Try.prog) (ds ++ gs)).all (· ≤ reachBytes) = true := hsz0
  have hW' := hW
  obtain ⟨p, q, hA0, hV, rfl, hfz, hnd⟩ := hW
  have hA : DataW.TrodAll enc Try.prog W 0 (fun _ => true) true Try.f20.params.toList args.toList ds p := hA0
  rw [Try.params20] at hA hval hsz
  obtain ⟨v0, vs0, d0, ds0, p0, q0, hargs, rfl, rfl, h0, t0⟩ := trodAll_cons hA
  obtain ⟨v1, vs1, d1, ds1, p1, q1, rfl, rfl, rfl, h1, t1⟩ := trodAll_cons t0
  obtain ⟨rfl, rfl, rfl⟩ := trodAll_nil t1
  obtain rfl : args = #[v0, v1] := by cases args; simp_all
  obtain ⟨rfl, rfl⟩ := trodVars_none hV
  have k0 := h0
  obtain ⟨A0, n0, c0, l0, rfl, r0, y0⟩ := open_bytes (hval 0 23 v0 rfl rfl) h0
  have s0 := y0 (weights_of hsz (j := 0) rfl rfl)
  have k1 := h1
  obtain ⟨A1, n1, c1, l1, rfl, r1, y1⟩ := open_bytes (hval 1 23 v1 rfl rfl) h1
  have s1 := y1 (weights_of hsz (j := 1) rfl rfl)
  clear hA0 hval0
  refine (walk_connPieces A0 n0 c0 l0 A1 n1 c1 l1 W r0 s0 r1 s1).mono fun e W' ⟨he, bel⟩ => ?_
  subst he
  exact ⟨_, rfl, _, _, _, [], _, [], hW', trodAll_mk1 (shut_bool Try.underlying4 _), (trodAll_cons_mk (Below.trod laidOut (by kernel_rfl) (of_decide_eq_true (by kernel_rfl)) k0 bel (trod_places k0)) (trodAll_cons_mk (Below.trod laidOut (by kernel_rfl) (of_decide_eq_true (by kernel_rfl)) k1 bel (trod_places k1)) trodAll_mk0)), rfl, bel.frame _, fun h => by cases h⟩

theorem closed_connPieces : joinedFacts Try.pinned.checked.prog 20 Try.f20 Rows.connPiecesSpec Rows.connPiecesRow = true := by
  unfold joinedFacts
  rw [clo_heard, clo_may, clo_lifts, clo_make]
  kernel_rfl
theorem over_connPieces : Rows.connPiecesRow.holds Try.pinned (OpenSpec.ofChange Rows.connPiecesSpec) :=
  OpenClaim.holds_of_wide 20 Try.f20 rfl rfl rfl rfl rfl rfl rfl ⟨rfl, rfl, rfl, rfl, rfl⟩ rfl rfl rfl rfl rfl (by kernel_rfl) Try.func20 closed_connPieces
    (of_decide_eq_true (by kernel_rfl)) (by unfold Func.isWrapper; first | (rw [if_pos (by decide +kernel)]; kernel_rfl) | (rw [if_neg (by decide +kernel)]; exact ⟨rfl, rfl⟩))
    (fun os started H enc _ => lifted_connPieces os started H enc)

/-- The statement. -/
theorem connPieces_holds : Rows.ConnPiecesSaid := over_connPieces
#print axioms connPieces_holds

end Go.Proofs.Ytnghmgbmflcngaa

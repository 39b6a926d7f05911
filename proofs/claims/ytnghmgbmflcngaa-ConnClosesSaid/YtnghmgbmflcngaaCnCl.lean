/- ConnCloses: a request waits till it is answered once, and a closed connection tells and says nothing more. Conditions: none. -/
import Derived.Test.YtnghmgbmflcngaaWk22
import Derived.Test.YtnghmgbmflcngaaPln
import Derived.Test.YtnghmgbmflcngaaOpen
import Derived.Test.YtnghmgbmflcngaaClo
import Derived.Deep.DeepCutAuto
namespace Go.Proofs.Ytnghmgbmflcngaa
set_option linter.unusedVariables false
open Go.ChangeShapes Go.WideShapes Go.ChangeAt Go.RowKit

/-- How much is left to tell. -/
def msC (wr : World) (gc gp : Nat) : Nat := match wr.cell? ⟨gc, 3, none⟩ with
  | some (.bool true) => 0
  | _ => match wr.cell? ⟨gp, 0, none⟩ with
    | some (.slice _ n _) => n + 1
    | _ => 0
theorem CnA.ms {w : World} {B gc gp n c on oc : Nat} {A OA : Option Addr} {l lo : List UInt8} {wv : Value} {wq : Option RQ} (h : CnA w B gc gp A n c l OA on oc lo wv wq) : msC w gc gp = n + 1 := by
  unfold msC
  rw [(box4 h.box).2.2.2, (box2 h.prs.1).1]
theorem CnC.ms {w : World} {B gc on oc : Nat} {OA : Option Addr} {lo : List UInt8} (h : CnC w B gc OA on oc lo) (gp : Nat) : msC w gc gp = 0 := by
  unfold msC
  rw [(box4 h.box).2.2.2]
def ClI (w : World) (Bb gc gp : Nat) (wr : World) : Prop := Below w.heap.size w wr ∧ ((∃ A n c l OA on oc lo, CnA wr Bb gc gp A n c l OA on oc lo (.pointer none) none ∧ n ≤ 5000 ∧ 24 * on ≤ 400 * (5000 - n)) ∨ ∃ OA on oc lo, CnC wr Bb gc OA on oc lo ∧ on ≤ 200000)
/-- Behind a round: less is left. -/
def ClN (w : World) (Bb gc n : Nat) (wx : World) : Prop := ClI w Bb gc Bb wx ∧ msC wx gc Bb < n + 1
set_option maxRecDepth 100000 in
set_option maxHeartbeats 8000000 in
theorem walk_connCloses (A0 : Option Addr) (n0 c0 : Nat) (l0 : List UInt8) (A1 : Option Addr) (n1 c1 : Nat) (l1 : List UInt8) (w : World) (r0 : Rd w w.heap.size A0 n0 c0 l0) (s0 : c0 ≤ 140737488351232) (r1 : Rd w w.heap.size A1 n1 c1 l1) (s1 : c1 ≤ 140737488351232) :
    Calls Try.prog 18 #[.slice A0 n0 c0, .slice A1 n1 c1] w fun e w' => e = .returned (.bool true) ∧ Below w.heap.size w w' := by
  have hc0 := r0.cap
  have hc1 := r1.cap
  obtain ⟨m0, E0⟩ : ∃ m, m = min n0 5000 := ⟨_, rfl⟩
  have I0 : (if (5000 : Int) < (n0 : Int) then (5000 : Int) else (n0 : Int)) = (m0 : Int) := by split <;> omega
  obtain ⟨m1, E1⟩ : ∃ m, m = min n1 5000 := ⟨_, rfl⟩
  have I1 : (if (5000 : Int) < (n1 : Int) then (5000 : Int) else (n1 : Int)) = (m1 : Int) := by split <;> omega
  obtain ⟨X0, cx0, HX0, h0⟩ := slc_h r0 m0 (m0 : Int) rfl (by omega)
  obtain ⟨X1, cx1, HX1, h1⟩ := slc_h r1 m1 (m1 : Int) rfl (by omega)
  have HR0 := Lib.hid (h0 _ _ r0)
  have HM : Hid (m0 ≤ 5000) := Lib.hid (by omega)
  clear E0 E1 h0 h1 hc0 hc1 r0 r1 s0 s1
  go_enter Try.func18, Try.ntmps18
  go_wp2_with fail
  refine (wakes22 w).mono ?_
  rintro e w1 ⟨rfl, b⟩
  go_upto_region 3 with fail
  go_cut [0, 1] (fun v0 v1 wx => v0 = .slice X0 m0 cx0 ∧ v1 = .slice X1 m1 cx1 ∧ Below w.heap.size w wx)
  case first =>
    go_region
    all_goals (first | go_meet | (go_wp2_with fail; go_meet))
    all_goals exact ⟨rfl, rfl, b.drew⟩
  case rest =>
    obtain ⟨rfl, rfl, b⟩ := hcut
    clear HX0 HX1 I0 I1
    have HNW := Lib.hid (cnew_any wc)
    go_wp2_with fail
    refine HNW.out.mono ?_
    rintro e w3 ⟨gc, rfl, h, b3⟩
    have hBb := b.size
    replace b := below_step b b3
    clear HNW
    have HF := Lib.hid (cfeed_ok _ _ _ _ _ _ _ _ _ _ _ _ _ X0 m0 cx0 _ w3 h ((HR0.out.below b).more b.size) (by have := HM.out; omega))
    go_wp2_with fail
    refine HF.out.mono ?_
    rintro e w4 ⟨A4, c4, rfl, h4, k4, -⟩
    replace b := b.trans (k4.below (fun k hk => Nat.le_trans hBb (h.fp k hk).1) b.size)
    clear HF h k4 b3
    have hms := h4.ms
    simp only [Nat.zero_add] at h4 hms
    obtain ⟨Bb, hB⟩ : ∃ x, x = wc.heap.size := ⟨_, rfl⟩
    rw [← hB] at h4 hms hBb
    clear hB
    have h0I : ClI w Bb gc Bb w4 := ⟨b, Or.inl ⟨A4, m0, c4, _, none, 0, 0, [], h4, HM.out, by omega⟩⟩
    have HBb := Lib.hid hBb
    clear h4 b hms hBb
    go_wp2_with fail
    go_loopw [6, 7, 8, 9] (fun _ _ _ _ wr => ClI w Bb gc Bb wr) (fun _ _ _ _ wr => msC wr gc Bb)
    case atStart => exact h0I
    case round =>
      clear h0I
      obtain ⟨b, hst⟩ := hrel
      rcases hst with ⟨A, n, c, l, OA, on, oc, lo, h, hn, hon⟩ | ⟨OA, on, oc, lo, h, hon⟩
      · cases hx : nxt l with
        | none =>
          have hBb := HBb.out
          have hml : malB.length ≤ 1000 := by decide +kernel
          have HN := Lib.hid (cnext_bad _ _ _ _ _ _ _ _ _ _ _ wr h hx (by omega))
          have hfp := fun k hk => (h.fp k hk).1
          clear h hx
          go_wp2_with fail
          refine HN.out.mono ?_
          rintro e w5 ⟨OA2, oc2, rfl, h, k5⟩
          replace b := b.trans (k5.below (fun k hk => Nat.le_trans hBb (hfp k hk)) b.size)
          have hon : on + malB.length ≤ 200000 := by omega
          generalize on + malB.length = on at h hon ⊢
          clear k5 HN hfp hml
          have ba := below_a1' (Below.refl w5.heap.size w5) (.cells #[.int .i64 0, .bool false, .bool false, .int .i64 0, .int .u32 0, .slice none 0 0, .slice none 0 0, .int .u32 0, .int .u32 0, .int .u64 0, .int .u64 0, .int .u64 0] 26)
          replace h := h.step ba
          replace b := below_step b ba
          clear ba
          go_upto_region 7 with fail
          generalize w5.alloc (.cells #[.int .i64 0, .bool false, .bool false, .int .i64 0, .int .u32 0, .slice none 0 0, .slice none 0 0, .int .u32 0, .int .u32 0, .int .u64 0, .int .u64 0, .int .u64 0] 26) = w6 at h b ⊢
          have hsz : ((on : Int) < 1048576) = True := eq_true (by omega)
          have hwb := h.bc
          have HCL := Lib.hid (cclosed_any gc _ _ _ _ w6 h.box)
          have HO := Lib.hid (cout_closed _ _ _ _ _ _ w6 h)
          clear h hon
          go_wp2_with fail
          refine HCL.out.mono ?_
          rintro e w8 ⟨rfl, rfl⟩
          go_wp2_with fail
          refine HO.out.mono ?_
          rintro e w9 ⟨rfl, -, h, g9⟩
          replace b := b.trans ((Kp.of_grown g9).below (fun k hk => by subst hk; omega) b.size)
          clear g9 HO HCL
          have HN := Lib.hid (cnext_closed gc _ _ _ w9 h.box)
          go_wp2_with fail
          refine HN.out.mono ?_
          rintro e w10 ⟨rfl, b10⟩
          replace h := h.step b10
          replace b := below_step b b10
          clear b10 HN
          have ba := below_a1' (Below.refl w10.heap.size w10) (.cells #[.int .i64 0, .bool false, .bool false, .int .i64 0, .int .u32 0, .slice none 0 0, .slice none 0 0, .int .u32 0, .int .u32 0, .int .u64 0, .int .u64 0, .int .u64 0] 26)
          replace h := h.step ba
          replace b := below_step b ba
          clear ba
          go_upto_region 15 with fail
          generalize w10.alloc (.cells #[.int .i64 0, .bool false, .bool false, .int .i64 0, .int .u32 0, .slice none 0 0, .slice none 0 0, .int .u32 0, .int .u32 0, .int .u64 0, .int .u64 0, .int .u64 0] 26) = w11 at h b ⊢
          have HF := Lib.hid (cfeed_closed gc _ _ _ X1 m1 cx1 w11 h.box)
          have HA : Hid (Calls Try.prog 66 #[.pointer (some ⟨gc, 0, none⟩), .agg #[.int .i64 0, .bool false, .bool false, .int .i64 0, .int .u32 0, .slice none 0 0, .slice none 0 0, .int .u32 0, .int .u32 0, .int .u64 0, .int .u64 0, .int .u64 0], .agg #[.int .i64 0, .slice none 0 0, .int .u32 0, .int .u64 0, .int .u64 0, .slice none 0 0, .bool false]] w11 (BoxQ' (.int .i64 320) w11)) := Lib.hid (by have h := canswer_closed gc _ _ _ 0 false false 0 0 0 0 0 0 0 (.slice none 0 0) (.slice none 0 0) 0 (.slice none 0 0) (.slice none 0 0) 0 0 0 false w11 h.box; exact h)
          go_wp2_with fail
          refine HF.out.mono ?_
          rintro e w12 ⟨rfl, rfl⟩
          go_wp2_with fail
          refine HA.out.mono ?_
          rintro e w13 ⟨rfl, b13⟩
          replace h := h.step b13
          replace b := below_step b b13
          clear b13 HA HF
          have HO := Lib.hid (cout_closed _ _ _ _ _ _ w13 h)
          clear h
          go_wp2_with fail
          refine HO.out.mono ?_
          rintro e w14 ⟨rfl, -, h, g9⟩
          replace b := b.trans ((Kp.of_grown g9).below (fun k hk => by subst hk; omega) b.size)
          clear g9 HO h hwb
          go_wp2_with fail
          go_ret
          exact ⟨rfl, b⟩
        | some y =>
          cases y with
          | none =>
            have HN := Lib.hid (cnext_wait _ _ _ _ _ _ _ _ _ _ _ wr h hx)
            clear h hx
            go_wp2_with fail
            refine HN.out.mono ?_
            rintro e w5 ⟨rfl, h, b5⟩
            replace b := below_step b b5
            clear b5 HN
            have ba := below_a1' (Below.refl w5.heap.size w5) (.cells #[.int .i64 0, .bool false, .bool false, .int .i64 0, .int .u32 0, .slice none 0 0, .slice none 0 0, .int .u32 0, .int .u32 0, .int .u64 0, .int .u64 0, .int .u64 0] 26)
            replace h := h.step ba
            replace b := below_step b ba
            clear ba
            go_upto_region 7 with fail
            generalize w5.alloc (.cells #[.int .i64 0, .bool false, .bool false, .int .i64 0, .int .u32 0, .slice none 0 0, .slice none 0 0, .int .u32 0, .int .u32 0, .int .u64 0, .int .u64 0, .int .u64 0] 26) = w6 at h b ⊢
            have HCL := Lib.hid (cclosed_any gc _ _ _ _ w6 h.box)
            have HA : Hid (Calls Try.prog 66 #[.pointer (some ⟨gc, 0, none⟩), .agg #[.int .i64 0, .bool false, .bool false, .int .i64 0, .int .u32 0, .slice none 0 0, .slice none 0 0, .int .u32 0, .int .u32 0, .int .u64 0, .int .u64 0, .int .u64 0], .agg #[.int .i64 0, .slice none 0 0, .int .u32 0, .int .u64 0, .int .u64 0, .slice none 0 0, .bool false]] w6 (BoxQ' (.int .i64 4) w6)) := Lib.hid (by have h := canswer_none gc _ _ 0 false false 0 0 0 0 0 0 0 (.slice none 0 0) (.slice none 0 0) 0 (.slice none 0 0) (.slice none 0 0) 0 0 0 false w6 h.box; exact h)
            clear h
            go_wp2_with fail
            refine HCL.out.mono ?_
            rintro e w8 ⟨rfl, rfl⟩
            go_wp2_with fail
            refine HA.out.mono ?_
            rintro e w13 ⟨rfl, b13⟩
            replace b := below_step b b13
            go_wp2_with fail
            go_ret
            exact ⟨rfl, b⟩
          | some qN =>
            obtain ⟨q, N⟩ := qN
            have hBb := HBb.out
            have hP := nxt_pr hx
            have hst2 := nxt_step hx
            have hln := h.prs.2.len
            have HMS := Lib.hid h.ms
            have hlq : q.lk.length ≤ 100000000 ∧ q.lv.length ≤ 100000000 := ⟨by have := hP.lk; omega, by have := hP.lv; omega⟩
            have HN := Lib.hid (cnext_yes _ _ _ _ _ _ _ _ _ _ _ wr h q N hx hlq)
            have hfp := fun k hk => h.fp k hk
            clear h hx
            go_wp2_with fail
            refine HN.out.mono ?_
            rintro e w5 ⟨K, nk, ck, V, nv, cv, A', c', wv, rfl, oK, oV, h, -, k5, -⟩
            unfold reqV
            replace b := b.trans (k5.below (fun k hk => Nat.le_trans hBb (hfp k hk).1) b.size)
            have rK := oK.rd
            have rV := oV.rd
            clear oK oV k5 HN hfp
            have hf6 : ∀ k, FP gc Bb A' OA k → k < w5.heap.size := fun k hk => (h.fp k hk).2
            have k6 := Blk.new w5 #[.int .i64 q.op, .bool q.qt, .bool q.fu, .int .i64 q.bd, .int .u32 (q.oq : Nat), .slice K nk ck, .slice V nv cv, .int .u32 (q.fl : Nat), .int .u32 (q.ex : Nat), .int .u64 (q.cs : Nat), .int .u64 (q.dl : Nat), .int .u64 (q.ni : Nat)] 26
            have ba := below_a1' (Below.refl w5.heap.size w5) (.cells #[.int .i64 q.op, .bool q.qt, .bool q.fu, .int .i64 q.bd, .int .u32 (q.oq : Nat), .slice K nk ck, .slice V nv cv, .int .u32 (q.fl : Nat), .int .u32 (q.ex : Nat), .int .u64 (q.cs : Nat), .int .u64 (q.dl : Nat), .int .u64 (q.ni : Nat)] 26)
            replace h := h.step ba
            replace rK := rK.step ba
            replace rV := rV.step ba
            replace b := below_step b ba
            clear ba
            go_upto_region 7 with fail
            generalize w5.alloc (.cells #[.int .i64 q.op, .bool q.qt, .bool q.fu, .int .i64 q.bd, .int .u32 (q.oq : Nat), .slice K nk ck, .slice V nv cv, .int .u32 (q.fl : Nat), .int .u32 (q.ex : Nat), .int .u64 (q.cs : Nat), .int .u64 (q.dl : Nat), .int .u64 (q.ni : Nat)] 26) = w6 at h rK rV k6 b ⊢
            generalize w5.heap.size = g6 at k6 hf6 ⊢
            go_upto_region 8 with fail
            have HN := Lib.hid (cnext_waits _ _ _ _ _ _ _ _ _ _ _ w6 wv q h hlq)
            clear h
            go_wp2_with fail
            refine HN.out.mono ?_
            rintro e w7 ⟨K2, nk2, ck2, V2, nv2, cv2, rfl, oK2, oV2, h, -, b7⟩
            unfold reqV
            replace rK := rK.step b7
            replace rV := rV.step b7
            replace k6 := k6.step b7
            replace b := below_step b b7
            have rK2 := oK2.rd
            have rV2 := oV2.rd
            clear HN oK2 oV2 b7
            have HG6 := Lib.hid k6.lt
            have k8 := Blk.new w7 #[.int .i64 q.op, .bool q.qt, .bool q.fu, .int .i64 q.bd, .int .u32 (q.oq : Nat), .slice K2 nk2 ck2, .slice V2 nv2 cv2, .int .u32 (q.fl : Nat), .int .u32 (q.ex : Nat), .int .u64 (q.cs : Nat), .int .u64 (q.dl : Nat), .int .u64 (q.ni : Nat)] 26
            have ba := below_a1' (Below.refl w7.heap.size w7) (.cells #[.int .i64 q.op, .bool q.qt, .bool q.fu, .int .i64 q.bd, .int .u32 (q.oq : Nat), .slice K2 nk2 ck2, .slice V2 nv2 cv2, .int .u32 (q.fl : Nat), .int .u32 (q.ex : Nat), .int .u64 (q.cs : Nat), .int .u64 (q.dl : Nat), .int .u64 (q.ni : Nat)] 26)
            replace h := h.step ba
            replace rK := rK.step ba
            replace rV := rV.step ba
            replace rK2 := rK2.step ba
            replace rV2 := rV2.step ba
            replace k6 := k6.step ba
            replace b := below_step b ba
            clear ba
            go_upto_region 9 with fail
            have hg8 := (show g6 < w7.heap.size from HG6.out)
            generalize w7.alloc (.cells #[.int .i64 q.op, .bool q.qt, .bool q.fu, .int .i64 q.bd, .int .u32 (q.oq : Nat), .slice K2 nk2 ck2, .slice V2 nv2 cv2, .int .u32 (q.fl : Nat), .int .u32 (q.ex : Nat), .int .u64 (q.cs : Nat), .int .u64 (q.dl : Nat), .int .u64 (q.ni : Nat)] 26) = w8 at h rK rV rK2 rV2 k6 k8 b ⊢
            generalize w7.heap.size = g8 at k8 hg8 ⊢
            have hnk : nk ≤ 250 := by have := rK.len; have := hP.lk; omega
            obtain ⟨RR, hRR, hRl⟩ := pl_of hP
            have HSA : Hid (∀ W, Below w8.heap.size w8 W → Calls Try.prog 48 #[.agg #[.int .i64 q.op, .bool q.qt, .bool q.fu, .int .i64 q.bd, .int .u32 (q.oq : Nat), .slice K nk ck, .slice V nv cv, .int .u32 (q.fl : Nat), .int .u32 (q.ex : Nat), .int .u64 (q.cs : Nat), .int .u64 (q.dl : Nat), .int .u64 (q.ni : Nat)], .agg #[.int .i64 q.op, .bool q.qt, .bool q.fu, .int .i64 q.bd, .int .u32 (q.oq : Nat), .slice K2 nk2 ck2, .slice V2 nv2 cv2, .int .u32 (q.fl : Nat), .int .u32 (q.ex : Nat), .int .u64 (q.cs : Nat), .int .u64 (q.dl : Nat), .int .u64 (q.ni : Nat)]] W (PSame true W)) := Lib.hid (fun W b => by have h := qsame_any q.op q.op q.bd q.bd q.qt q.qt q.fu q.fu q.oq q.oq q.fl q.fl q.ex q.ex q.cs q.cs q.dl q.dl q.ni q.ni K K2 V V2 nk ck nk2 ck2 nv cv nv2 cv2 q.lk q.lk q.lv q.lv W ((rK.below b).more b.size) ((rK2.below b).more b.size) ((rV.below b).more b.size) ((rV2.below b).more b.size); rw [reqSame_yes ⟨rfl, rfl, rfl, rfl, rfl, rfl, rfl, rfl, rfl, rfl, rfl, rfl⟩] at h; exact h)
            have HPL : Hid (∀ W, Calls Try.prog 70 #[.agg #[.int .i64 q.op, .bool q.qt, .bool q.fu, .int .i64 q.bd, .int .u32 (q.oq : Nat), .slice K nk ck, .slice V nv cv, .int .u32 (q.fl : Nat), .int .u32 (q.ex : Nat), .int .u64 (q.cs : Nat), .int .u64 (q.dl : Nat), .int .u64 (q.ni : Nat)], .int .i64 1] W (BoxQ' (.agg #[.int .i64 q.bd, .slice none 0 0, .int .u32 (0 : Nat), .int .u64 (0 : Nat), .int .u64 (0 : Nat), .slice none 0 0, .bool (plC q)]) W)) := Lib.hid (fun W => plain1_any q (.slice K nk ck) (.slice V nv cv) W)
            have hf8 : ∀ k, FP gc Bb A' OA k → k ≠ g6 ∧ k ≠ g8 := fun k hk => by have := hf6 k hk; omega
            have HF8 := Lib.hid hf8
            have HNUM := Lib.hid (And.intro hn (And.intro hon (And.intro hst2 (And.intro hln hRl))))
            have HFPB := Lib.hid (fun k (hk : FP gc Bb A' OA k) => (h.fp k hk).1)
            cases hpl : plC q with
            | true =>
              rw [hpl] at HPL
              have b8 := Below.refl w8.heap.size w8
              go_cut [69] (fun s69 wx => s69 = .bool false ∧ ClN w Bb gc n wx)
              case first =>
                refine wp_region_noPanic ?_
                refine region_T (fun wx => Blk wx g6 #[.int .i64 q.op, .bool q.qt, .bool q.fu, .int .i64 q.bd, .int .u32 (q.oq : Nat), .slice K nk ck, .slice V nv cv, .int .u32 (q.fl : Nat), .int .u32 (q.ex : Nat), .int .u64 (q.cs : Nat), .int .u64 (q.dl : Nat), .int .u64 (q.ni : Nat)] 26 ∧ Blk wx g8 #[.int .i64 q.op, .bool q.qt, .bool q.fu, .int .i64 q.bd, .int .u32 (q.oq : Nat), .slice K2 nk2 ck2, .slice V2 nv2 cv2, .int .u32 (q.fl : Nat), .int .u32 (q.ex : Nat), .int .u64 (q.cs : Nat), .int .u64 (q.dl : Nat), .int .u64 (q.ni : Nat)] 26) 29 (by kernel_rfl) ?_
                have bD : Below w8.heap.size w8 w8.drew := (Below.refl _ _).drew
                replace h := h.step bD
                replace k6 := k6.step bD
                replace k8 := k8.step bD
                replace b := below_step b bD
                replace b8 := below_step b8 bD
                have hHeld := And.intro k6 k8
                clear bD
                generalize w8.drew = Y0 at h k6 k8 b b8 hHeld ⊢
                refine takeT (i := 0) (v := ?_) rfl (by kernel_rfl) (by kernel_rfl) (by decide) (by kernel_rfl) (by kernel_rfl) (fun _ _ _ h => h) (Or.inl ⟨by rfl, ?_⟩) hHeld ?_
                rotate_left
                · (intro wx hSw; obtain ⟨sa, sb⟩ := hSw; obtain ⟨a0, a1, a2, a3, a4, a5, a6, a7, a8, a9, a10, a11⟩ := box12 sa; obtain ⟨d0, d1, d2, d3, d4, d5, d6, d7, d8, d9, d10, d11⟩ := box12 sb; go_simp; try (with_reducible rfl))
                try simp only [Act.put, List.setIfInBounds_toArray, List.set_cons_zero, List.set_cons_succ]
                refine takeT (i := 1) (v := ?_) rfl (by kernel_rfl) (by kernel_rfl) (by decide) (by kernel_rfl) (by kernel_rfl) (fun _ _ _ h => h) (Or.inl ⟨by rfl, ?_⟩) hHeld ?_
                rotate_left
                · (intro wx hSw; obtain ⟨sa, sb⟩ := hSw; obtain ⟨a0, a1, a2, a3, a4, a5, a6, a7, a8, a9, a10, a11⟩ := box12 sa; obtain ⟨d0, d1, d2, d3, d4, d5, d6, d7, d8, d9, d10, d11⟩ := box12 sb; go_simp; try (with_reducible rfl))
                try simp only [Act.put, List.setIfInBounds_toArray, List.set_cons_zero, List.set_cons_succ]
                refine takeT (i := 2) (v := ?_) rfl (by kernel_rfl) (by kernel_rfl) (by decide) (by kernel_rfl) (by kernel_rfl) (fun _ _ _ h => h) (Or.inl ⟨by rfl, ?_⟩) hHeld ?_
                rotate_left
                · (intro wx hSw; obtain ⟨sa, sb⟩ := hSw; obtain ⟨a0, a1, a2, a3, a4, a5, a6, a7, a8, a9, a10, a11⟩ := box12 sa; obtain ⟨d0, d1, d2, d3, d4, d5, d6, d7, d8, d9, d10, d11⟩ := box12 sb; go_simp; try (with_reducible rfl))
                try simp only [Act.put, List.setIfInBounds_toArray, List.set_cons_zero, List.set_cons_succ]
                refine takeT (i := 3) (v := ?_) rfl (by kernel_rfl) (by kernel_rfl) (by decide) (by kernel_rfl) (by kernel_rfl) (fun _ _ _ h => h) (Or.inl ⟨by rfl, ?_⟩) hHeld ?_
                rotate_left
                · (intro wx hSw; obtain ⟨sa, sb⟩ := hSw; obtain ⟨a0, a1, a2, a3, a4, a5, a6, a7, a8, a9, a10, a11⟩ := box12 sa; obtain ⟨d0, d1, d2, d3, d4, d5, d6, d7, d8, d9, d10, d11⟩ := box12 sb; go_simp; try (with_reducible rfl))
                try simp only [Act.put, List.setIfInBounds_toArray, List.set_cons_zero, List.set_cons_succ]
                refine takeT (i := 4) (v := ?_) rfl (by kernel_rfl) (by kernel_rfl) (by decide) (by kernel_rfl) (by kernel_rfl) (fun _ _ _ h => h) (Or.inl ⟨by rfl, ?_⟩) hHeld ?_
                rotate_left
                · (intro wx hSw; obtain ⟨sa, sb⟩ := hSw; obtain ⟨a0, a1, a2, a3, a4, a5, a6, a7, a8, a9, a10, a11⟩ := box12 sa; obtain ⟨d0, d1, d2, d3, d4, d5, d6, d7, d8, d9, d10, d11⟩ := box12 sb; go_simp; try (with_reducible rfl))
                try simp only [Act.put, List.setIfInBounds_toArray, List.set_cons_zero, List.set_cons_succ]
                refine oneT (i := 5) rfl (by kernel_rfl) (fun KK hK => ?_)
                go_simp
                refine (HSA.out Y0 b8).mono ?_
                rintro e Y1 ⟨rfl, b1⟩
                clear hHeld
                replace h := h.step b1
                replace k6 := k6.step b1
                replace k8 := k8.step b1
                replace b := below_step b b1
                replace b8 := below_step b8 b1
                have hHeld := And.intro k6 k8
                clear b1
                refine hK.out _ _ (fun _ => hHeld) ?_
                clear hK KK
                try simp only [Act.put, List.setIfInBounds_toArray, List.set_cons_zero, List.set_cons_succ]
                refine takeT (i := 6) (v := ?_) rfl (by kernel_rfl) (by kernel_rfl) (by decide) (by kernel_rfl) (by kernel_rfl) (fun _ _ _ h => h) (Or.inl ⟨by rfl, ?_⟩) hHeld ?_
                rotate_left
                · (intro wx hSw; obtain ⟨sa, sb⟩ := hSw; obtain ⟨a0, a1, a2, a3, a4, a5, a6, a7, a8, a9, a10, a11⟩ := box12 sa; obtain ⟨d0, d1, d2, d3, d4, d5, d6, d7, d8, d9, d10, d11⟩ := box12 sb; go_simp; try (with_reducible rfl))
                try simp only [Act.put, List.setIfInBounds_toArray, List.set_cons_zero, List.set_cons_succ]
                refine takeT (i := 7) (v := ?_) rfl (by kernel_rfl) (by kernel_rfl) (by decide) (by kernel_rfl) (by kernel_rfl) (fun _ _ _ h => h) (Or.inl ⟨by rfl, ?_⟩) hHeld ?_
                rotate_left
                · (intro wx hSw; obtain ⟨sa, sb⟩ := hSw; obtain ⟨a0, a1, a2, a3, a4, a5, a6, a7, a8, a9, a10, a11⟩ := box12 sa; obtain ⟨d0, d1, d2, d3, d4, d5, d6, d7, d8, d9, d10, d11⟩ := box12 sb; go_simp; try (with_reducible rfl))
                try simp only [Act.put, List.setIfInBounds_toArray, List.set_cons_zero, List.set_cons_succ]
                refine takeT (i := 8) (v := ?_) rfl (by kernel_rfl) (by kernel_rfl) (by decide) (by kernel_rfl) (by kernel_rfl) (fun _ _ _ h => h) (Or.inl ⟨by rfl, ?_⟩) hHeld ?_
                rotate_left
                · (intro wx hSw; obtain ⟨sa, sb⟩ := hSw; obtain ⟨a0, a1, a2, a3, a4, a5, a6, a7, a8, a9, a10, a11⟩ := box12 sa; obtain ⟨d0, d1, d2, d3, d4, d5, d6, d7, d8, d9, d10, d11⟩ := box12 sb; go_simp; try (with_reducible rfl))
                try simp only [Act.put, List.setIfInBounds_toArray, List.set_cons_zero, List.set_cons_succ]
                refine takeT (i := 9) (v := ?_) rfl (by kernel_rfl) (by kernel_rfl) (by decide) (by kernel_rfl) (by kernel_rfl) (fun _ _ _ h => h) (Or.inl ⟨by rfl, ?_⟩) hHeld ?_
                rotate_left
                · (intro wx hSw; obtain ⟨sa, sb⟩ := hSw; obtain ⟨a0, a1, a2, a3, a4, a5, a6, a7, a8, a9, a10, a11⟩ := box12 sa; obtain ⟨d0, d1, d2, d3, d4, d5, d6, d7, d8, d9, d10, d11⟩ := box12 sb; go_simp; try (with_reducible rfl))
                try simp only [Act.put, List.setIfInBounds_toArray, List.set_cons_zero, List.set_cons_succ]
                refine takeT (i := 10) (v := ?_) rfl (by kernel_rfl) (by kernel_rfl) (by decide) (by kernel_rfl) (by kernel_rfl) (fun _ _ _ h => h) (Or.inl ⟨by rfl, ?_⟩) hHeld ?_
                rotate_left
                · (intro wx hSw; obtain ⟨sa, sb⟩ := hSw; obtain ⟨a0, a1, a2, a3, a4, a5, a6, a7, a8, a9, a10, a11⟩ := box12 sa; obtain ⟨d0, d1, d2, d3, d4, d5, d6, d7, d8, d9, d10, d11⟩ := box12 sb; go_simp; try (with_reducible rfl))
                try simp only [Act.put, List.setIfInBounds_toArray, List.set_cons_zero, List.set_cons_succ]
                refine takeT (i := 11) (v := ?_) rfl (by kernel_rfl) (by kernel_rfl) (by decide) (by kernel_rfl) (by kernel_rfl) (fun _ _ _ h => h) (Or.inl ⟨by rfl, ?_⟩) hHeld ?_
                rotate_left
                · (intro wx hSw; obtain ⟨sa, sb⟩ := hSw; obtain ⟨a0, a1, a2, a3, a4, a5, a6, a7, a8, a9, a10, a11⟩ := box12 sa; obtain ⟨d0, d1, d2, d3, d4, d5, d6, d7, d8, d9, d10, d11⟩ := box12 sb; go_simp; try (with_reducible rfl))
                try simp only [Act.put, List.setIfInBounds_toArray, List.set_cons_zero, List.set_cons_succ]
                refine oneT (i := 12) rfl (by kernel_rfl) (fun KK hK => ?_)
                go_simp
                refine (HPL.out Y1).mono ?_
                rintro e Y2 ⟨rfl, b1⟩
                clear hHeld
                replace h := h.step b1
                replace k6 := k6.step b1
                replace k8 := k8.step b1
                replace b := below_step b b1
                replace b8 := below_step b8 b1
                have hHeld := And.intro k6 k8
                clear b1
                refine hK.out _ _ (fun _ => hHeld) ?_
                clear hK KK
                try simp only [Act.put, List.setIfInBounds_toArray, List.set_cons_zero, List.set_cons_succ]
                have HAN : Hid (Calls Try.prog 66 #[.pointer (some ⟨gc, 0, none⟩), .agg #[.int .i64 q.op, .bool q.qt, .bool q.fu, .int .i64 q.bd, .int .u32 (q.oq : Nat), .slice K nk ck, .slice V nv cv, .int .u32 (q.fl : Nat), .int .u32 (q.ex : Nat), .int .u64 (q.cs : Nat), .int .u64 (q.dl : Nat), .int .u64 (q.ni : Nat)], .agg #[.int .i64 q.bd, .slice none 0 0, .int .u32 (0 : Nat), .int .u64 (0 : Nat), .int .u64 (0 : Nat), .slice none 0 0, .bool true]] Y2 (AnsCQ Bb gc Bb A' OA on lo RR Y2)) := Lib.hid (canswer_close _ _ _ _ _ _ _ _ _ _ _ _ q Y2 h K nk ck V nv cv ((rK.below b8).more b8.size) ((rV.below b8).more b8.size) q.bd none 0 0 [] 0 0 0 none 0 0 [] (Rd.nil _ _) (Rz.nil _ _ _) rfl (by decide) (by decide) (by decide) (by decide) hP.oq (by omega) (by have := HNUM.out; omega) (pl_wrong hP) RR hRR (by omega))
                refine oneT (i := 13) rfl (by kernel_rfl) (fun KK hK => ?_)
                go_simp
                refine HAN.out.mono ?_
                rintro e Y3 ⟨OA3, oc3, rfl, h3, k3⟩
                clear hHeld HAN
                replace k6 := k3.blk k6 (fun e => (HF8.out g6 e).1 rfl)
                replace k8 := k3.blk k8 (fun e => (HF8.out g8 e).2 rfl)
                replace b := b.trans (k3.below (fun k hk => Nat.le_trans HBb.out (HFPB.out k hk)) b.size)
                have hHeld := And.intro k6 k8
                clear h k3 b8
                refine hK.out _ _ (fun _ => hHeld) ?_
                clear hK KK
                try simp only [Act.put, List.setIfInBounds_toArray, List.set_cons_zero, List.set_cons_succ]
                refine takeT (i := 14) (v := ?_) rfl (by kernel_rfl) (by kernel_rfl) (by decide) (by kernel_rfl) (by kernel_rfl) (fun _ _ _ h => h) (Or.inl ⟨by rfl, ?_⟩) hHeld ?_
                rotate_left
                · (intro wx hSw; obtain ⟨sa, sb⟩ := hSw; obtain ⟨a0, a1, a2, a3, a4, a5, a6, a7, a8, a9, a10, a11⟩ := box12 sa; obtain ⟨d0, d1, d2, d3, d4, d5, d6, d7, d8, d9, d10, d11⟩ := box12 sb; go_simp; try (with_reducible rfl))
                try simp only [Act.put, List.setIfInBounds_toArray, List.set_cons_zero, List.set_cons_succ]
                refine takeT (i := 15) (v := ?_) rfl (by kernel_rfl) (by kernel_rfl) (by decide) (by kernel_rfl) (by kernel_rfl) (fun _ _ _ h => h) (Or.inl ⟨by rfl, ?_⟩) hHeld ?_
                rotate_left
                · (intro wx hSw; obtain ⟨sa, sb⟩ := hSw; obtain ⟨a0, a1, a2, a3, a4, a5, a6, a7, a8, a9, a10, a11⟩ := box12 sa; obtain ⟨d0, d1, d2, d3, d4, d5, d6, d7, d8, d9, d10, d11⟩ := box12 sb; go_simp; try (with_reducible rfl))
                try simp only [Act.put, List.setIfInBounds_toArray, List.set_cons_zero, List.set_cons_succ]
                refine takeT (i := 16) (v := ?_) rfl (by kernel_rfl) (by kernel_rfl) (by decide) (by kernel_rfl) (by kernel_rfl) (fun _ _ _ h => h) (Or.inl ⟨by rfl, ?_⟩) hHeld ?_
                rotate_left
                · (intro wx hSw; obtain ⟨sa, sb⟩ := hSw; obtain ⟨a0, a1, a2, a3, a4, a5, a6, a7, a8, a9, a10, a11⟩ := box12 sa; obtain ⟨d0, d1, d2, d3, d4, d5, d6, d7, d8, d9, d10, d11⟩ := box12 sb; go_simp; try (with_reducible rfl))
                try simp only [Act.put, List.setIfInBounds_toArray, List.set_cons_zero, List.set_cons_succ]
                refine takeT (i := 17) (v := ?_) rfl (by kernel_rfl) (by kernel_rfl) (by decide) (by kernel_rfl) (by kernel_rfl) (fun _ _ _ h => h) (Or.inl ⟨by rfl, ?_⟩) hHeld ?_
                rotate_left
                · (intro wx hSw; obtain ⟨sa, sb⟩ := hSw; obtain ⟨a0, a1, a2, a3, a4, a5, a6, a7, a8, a9, a10, a11⟩ := box12 sa; obtain ⟨d0, d1, d2, d3, d4, d5, d6, d7, d8, d9, d10, d11⟩ := box12 sb; go_simp; try (with_reducible rfl))
                try simp only [Act.put, List.setIfInBounds_toArray, List.set_cons_zero, List.set_cons_succ]
                have HCL := Lib.hid (cclosed_any gc _ _ _ _ Y3 h3.box)
                refine oneT (i := 18) rfl (by kernel_rfl) (fun KK hK => ?_)
                go_simp
                refine HCL.out.mono ?_
                rintro e Y4 ⟨rfl, rfl⟩
                refine hK.out _ _ (fun _ => hHeld) ?_
                clear hK KK HCL
                try simp only [Act.put, List.setIfInBounds_toArray, List.set_cons_zero, List.set_cons_succ]
                refine takeT (i := 19) (v := ?_) rfl (by kernel_rfl) (by kernel_rfl) (by decide) (by kernel_rfl) (by kernel_rfl) (fun _ _ _ h => h) (Or.inl ⟨by rfl, ?_⟩) hHeld ?_
                rotate_left
                · (intro wx hSw; obtain ⟨sa, sb⟩ := hSw; obtain ⟨a0, a1, a2, a3, a4, a5, a6, a7, a8, a9, a10, a11⟩ := box12 sa; obtain ⟨d0, d1, d2, d3, d4, d5, d6, d7, d8, d9, d10, d11⟩ := box12 sb; go_simp; try (with_reducible rfl))
                try simp only [Act.put, List.setIfInBounds_toArray, List.set_cons_zero, List.set_cons_succ]
                refine takeT (i := 20) (v := ?_) rfl (by kernel_rfl) (by kernel_rfl) (by decide) (by kernel_rfl) (by kernel_rfl) (fun _ _ _ h => h) (Or.inl ⟨by rfl, ?_⟩) hHeld ?_
                rotate_left
                · (intro wx hSw; obtain ⟨sa, sb⟩ := hSw; obtain ⟨a0, a1, a2, a3, a4, a5, a6, a7, a8, a9, a10, a11⟩ := box12 sa; obtain ⟨d0, d1, d2, d3, d4, d5, d6, d7, d8, d9, d10, d11⟩ := box12 sb; go_simp; try (with_reducible rfl))
                try simp only [Act.put, List.setIfInBounds_toArray, List.set_cons_zero, List.set_cons_succ]
                refine takeT (i := 21) (v := undef) rfl (by kernel_rfl) (by kernel_rfl) (by decide) (by kernel_rfl) (by kernel_rfl) (fun _ _ _ h => h) (Or.inr ⟨by rfl, rfl⟩) hHeld ?_
                try simp only [Act.put, List.setIfInBounds_toArray, List.set_cons_zero, List.set_cons_succ]
                refine takeT (i := 22) (v := undef) rfl (by kernel_rfl) (by kernel_rfl) (by decide) (by kernel_rfl) (by kernel_rfl) (fun _ _ _ h => h) (Or.inr ⟨by rfl, rfl⟩) hHeld ?_
                try simp only [Act.put, List.setIfInBounds_toArray, List.set_cons_zero, List.set_cons_succ]
                refine takeT (i := 23) (v := undef) rfl (by kernel_rfl) (by kernel_rfl) (by decide) (by kernel_rfl) (by kernel_rfl) (fun _ _ _ h => h) (Or.inr ⟨by rfl, rfl⟩) hHeld ?_
                try simp only [Act.put, List.setIfInBounds_toArray, List.set_cons_zero, List.set_cons_succ]
                refine takeT (i := 24) (v := undef) rfl (by kernel_rfl) (by kernel_rfl) (by decide) (by kernel_rfl) (by kernel_rfl) (fun _ _ _ h => h) (Or.inr ⟨by rfl, rfl⟩) hHeld ?_
                try simp only [Act.put, List.setIfInBounds_toArray, List.set_cons_zero, List.set_cons_succ]
                refine takeT (i := 25) (v := undef) rfl (by kernel_rfl) (by kernel_rfl) (by decide) (by kernel_rfl) (by kernel_rfl) (fun _ _ _ h => h) (Or.inr ⟨by rfl, rfl⟩) hHeld ?_
                try simp only [Act.put, List.setIfInBounds_toArray, List.set_cons_zero, List.set_cons_succ]
                refine takeT (i := 26) (v := undef) rfl (by kernel_rfl) (by kernel_rfl) (by decide) (by kernel_rfl) (by kernel_rfl) (fun _ _ _ h => h) (Or.inr ⟨by rfl, rfl⟩) hHeld ?_
                try simp only [Act.put, List.setIfInBounds_toArray, List.set_cons_zero, List.set_cons_succ]
                refine takeT (i := 27) (v := ?_) rfl (by kernel_rfl) (by kernel_rfl) (by decide) (by kernel_rfl) (by kernel_rfl) (fun _ _ _ h => h) (Or.inl ⟨by rfl, ?_⟩) hHeld ?_
                rotate_left
                · (intro wx hSw; obtain ⟨sa, sb⟩ := hSw; obtain ⟨a0, a1, a2, a3, a4, a5, a6, a7, a8, a9, a10, a11⟩ := box12 sa; obtain ⟨d0, d1, d2, d3, d4, d5, d6, d7, d8, d9, d10, d11⟩ := box12 sb; go_simp; try (with_reducible rfl))
                try simp only [Act.put, List.setIfInBounds_toArray, List.set_cons_zero, List.set_cons_succ]
                refine takeT (i := 28) (v := ?_) rfl (by kernel_rfl) (by kernel_rfl) (by decide) (by kernel_rfl) (by kernel_rfl) (fun _ _ _ h => h) (Or.inl ⟨by rfl, ?_⟩) hHeld ?_
                rotate_left
                · (intro wx hSw; obtain ⟨sa, sb⟩ := hSw; obtain ⟨a0, a1, a2, a3, a4, a5, a6, a7, a8, a9, a10, a11⟩ := box12 sa; obtain ⟨d0, d1, d2, d3, d4, d5, d6, d7, d8, d9, d10, d11⟩ := box12 sb; go_simp; try (with_reducible rfl))
                try simp only [Act.put, List.setIfInBounds_toArray, List.set_cons_zero, List.set_cons_succ]
                refine doneT (by kernel_rfl) ?_ _
                refine NoPanic.normal ?_
                clear hHeld
                go_wp2_with fail
                go_meet
                refine ⟨rfl, ⟨b, Or.inr ⟨OA3, _, oc3, _, h3, by have := HNUM.out; omega⟩⟩, ?_⟩
                rw [h3.ms]
                have := HNUM.out
                omega
              case rest =>
                obtain ⟨rfl, hcl, hms⟩ := hcut
                go_wp2_with fail
                go_roundw
                case rel => exact hcl
                case measure => rw [HMS.out]; omega
            | false =>
              rw [hpl] at HPL
              have b8 := Below.refl w8.heap.size w8
              go_cut [69] (fun s69 wx => s69 = .bool false ∧ ClN w Bb gc n wx)
              case first =>
                refine wp_region_noPanic ?_
                refine region_T (fun wx => Blk wx g6 #[.int .i64 q.op, .bool q.qt, .bool q.fu, .int .i64 q.bd, .int .u32 (q.oq : Nat), .slice K nk ck, .slice V nv cv, .int .u32 (q.fl : Nat), .int .u32 (q.ex : Nat), .int .u64 (q.cs : Nat), .int .u64 (q.dl : Nat), .int .u64 (q.ni : Nat)] 26 ∧ Blk wx g8 #[.int .i64 q.op, .bool q.qt, .bool q.fu, .int .i64 q.bd, .int .u32 (q.oq : Nat), .slice K2 nk2 ck2, .slice V2 nv2 cv2, .int .u32 (q.fl : Nat), .int .u32 (q.ex : Nat), .int .u64 (q.cs : Nat), .int .u64 (q.dl : Nat), .int .u64 (q.ni : Nat)] 26) 29 (by kernel_rfl) ?_
                have bD : Below w8.heap.size w8 w8.drew := (Below.refl _ _).drew
                replace h := h.step bD
                replace k6 := k6.step bD
                replace k8 := k8.step bD
                replace b := below_step b bD
                replace b8 := below_step b8 bD
                have hHeld := And.intro k6 k8
                clear bD
                generalize w8.drew = Y0 at h k6 k8 b b8 hHeld ⊢
                refine takeT (i := 0) (v := ?_) rfl (by kernel_rfl) (by kernel_rfl) (by decide) (by kernel_rfl) (by kernel_rfl) (fun _ _ _ h => h) (Or.inl ⟨by rfl, ?_⟩) hHeld ?_
                rotate_left
                · (intro wx hSw; obtain ⟨sa, sb⟩ := hSw; obtain ⟨a0, a1, a2, a3, a4, a5, a6, a7, a8, a9, a10, a11⟩ := box12 sa; obtain ⟨d0, d1, d2, d3, d4, d5, d6, d7, d8, d9, d10, d11⟩ := box12 sb; go_simp; try (with_reducible rfl))
                try simp only [Act.put, List.setIfInBounds_toArray, List.set_cons_zero, List.set_cons_succ]
                refine takeT (i := 1) (v := ?_) rfl (by kernel_rfl) (by kernel_rfl) (by decide) (by kernel_rfl) (by kernel_rfl) (fun _ _ _ h => h) (Or.inl ⟨by rfl, ?_⟩) hHeld ?_
                rotate_left
                · (intro wx hSw; obtain ⟨sa, sb⟩ := hSw; obtain ⟨a0, a1, a2, a3, a4, a5, a6, a7, a8, a9, a10, a11⟩ := box12 sa; obtain ⟨d0, d1, d2, d3, d4, d5, d6, d7, d8, d9, d10, d11⟩ := box12 sb; go_simp; try (with_reducible rfl))
                try simp only [Act.put, List.setIfInBounds_toArray, List.set_cons_zero, List.set_cons_succ]
                refine takeT (i := 2) (v := ?_) rfl (by kernel_rfl) (by kernel_rfl) (by decide) (by kernel_rfl) (by kernel_rfl) (fun _ _ _ h => h) (Or.inl ⟨by rfl, ?_⟩) hHeld ?_
                rotate_left
                · (intro wx hSw; obtain ⟨sa, sb⟩ := hSw; obtain ⟨a0, a1, a2, a3, a4, a5, a6, a7, a8, a9, a10, a11⟩ := box12 sa; obtain ⟨d0, d1, d2, d3, d4, d5, d6, d7, d8, d9, d10, d11⟩ := box12 sb; go_simp; try (with_reducible rfl))
                try simp only [Act.put, List.setIfInBounds_toArray, List.set_cons_zero, List.set_cons_succ]
                refine takeT (i := 3) (v := ?_) rfl (by kernel_rfl) (by kernel_rfl) (by decide) (by kernel_rfl) (by kernel_rfl) (fun _ _ _ h => h) (Or.inl ⟨by rfl, ?_⟩) hHeld ?_
                rotate_left
                · (intro wx hSw; obtain ⟨sa, sb⟩ := hSw; obtain ⟨a0, a1, a2, a3, a4, a5, a6, a7, a8, a9, a10, a11⟩ := box12 sa; obtain ⟨d0, d1, d2, d3, d4, d5, d6, d7, d8, d9, d10, d11⟩ := box12 sb; go_simp; try (with_reducible rfl))
                try simp only [Act.put, List.setIfInBounds_toArray, List.set_cons_zero, List.set_cons_succ]
                refine takeT (i := 4) (v := ?_) rfl (by kernel_rfl) (by kernel_rfl) (by decide) (by kernel_rfl) (by kernel_rfl) (fun _ _ _ h => h) (Or.inl ⟨by rfl, ?_⟩) hHeld ?_
                rotate_left
                · (intro wx hSw; obtain ⟨sa, sb⟩ := hSw; obtain ⟨a0, a1, a2, a3, a4, a5, a6, a7, a8, a9, a10, a11⟩ := box12 sa; obtain ⟨d0, d1, d2, d3, d4, d5, d6, d7, d8, d9, d10, d11⟩ := box12 sb; go_simp; try (with_reducible rfl))
                try simp only [Act.put, List.setIfInBounds_toArray, List.set_cons_zero, List.set_cons_succ]
                refine oneT (i := 5) rfl (by kernel_rfl) (fun KK hK => ?_)
                go_simp
                refine (HSA.out Y0 b8).mono ?_
                rintro e Y1 ⟨rfl, b1⟩
                clear hHeld
                replace h := h.step b1
                replace k6 := k6.step b1
                replace k8 := k8.step b1
                replace b := below_step b b1
                replace b8 := below_step b8 b1
                have hHeld := And.intro k6 k8
                clear b1
                refine hK.out _ _ (fun _ => hHeld) ?_
                clear hK KK
                try simp only [Act.put, List.setIfInBounds_toArray, List.set_cons_zero, List.set_cons_succ]
                refine takeT (i := 6) (v := ?_) rfl (by kernel_rfl) (by kernel_rfl) (by decide) (by kernel_rfl) (by kernel_rfl) (fun _ _ _ h => h) (Or.inl ⟨by rfl, ?_⟩) hHeld ?_
                rotate_left
                · (intro wx hSw; obtain ⟨sa, sb⟩ := hSw; obtain ⟨a0, a1, a2, a3, a4, a5, a6, a7, a8, a9, a10, a11⟩ := box12 sa; obtain ⟨d0, d1, d2, d3, d4, d5, d6, d7, d8, d9, d10, d11⟩ := box12 sb; go_simp; try (with_reducible rfl))
                try simp only [Act.put, List.setIfInBounds_toArray, List.set_cons_zero, List.set_cons_succ]
                refine takeT (i := 7) (v := ?_) rfl (by kernel_rfl) (by kernel_rfl) (by decide) (by kernel_rfl) (by kernel_rfl) (fun _ _ _ h => h) (Or.inl ⟨by rfl, ?_⟩) hHeld ?_
                rotate_left
                · (intro wx hSw; obtain ⟨sa, sb⟩ := hSw; obtain ⟨a0, a1, a2, a3, a4, a5, a6, a7, a8, a9, a10, a11⟩ := box12 sa; obtain ⟨d0, d1, d2, d3, d4, d5, d6, d7, d8, d9, d10, d11⟩ := box12 sb; go_simp; try (with_reducible rfl))
                try simp only [Act.put, List.setIfInBounds_toArray, List.set_cons_zero, List.set_cons_succ]
                refine takeT (i := 8) (v := ?_) rfl (by kernel_rfl) (by kernel_rfl) (by decide) (by kernel_rfl) (by kernel_rfl) (fun _ _ _ h => h) (Or.inl ⟨by rfl, ?_⟩) hHeld ?_
                rotate_left
                · (intro wx hSw; obtain ⟨sa, sb⟩ := hSw; obtain ⟨a0, a1, a2, a3, a4, a5, a6, a7, a8, a9, a10, a11⟩ := box12 sa; obtain ⟨d0, d1, d2, d3, d4, d5, d6, d7, d8, d9, d10, d11⟩ := box12 sb; go_simp; try (with_reducible rfl))
                try simp only [Act.put, List.setIfInBounds_toArray, List.set_cons_zero, List.set_cons_succ]
                refine takeT (i := 9) (v := ?_) rfl (by kernel_rfl) (by kernel_rfl) (by decide) (by kernel_rfl) (by kernel_rfl) (fun _ _ _ h => h) (Or.inl ⟨by rfl, ?_⟩) hHeld ?_
                rotate_left
                · (intro wx hSw; obtain ⟨sa, sb⟩ := hSw; obtain ⟨a0, a1, a2, a3, a4, a5, a6, a7, a8, a9, a10, a11⟩ := box12 sa; obtain ⟨d0, d1, d2, d3, d4, d5, d6, d7, d8, d9, d10, d11⟩ := box12 sb; go_simp; try (with_reducible rfl))
                try simp only [Act.put, List.setIfInBounds_toArray, List.set_cons_zero, List.set_cons_succ]
                refine takeT (i := 10) (v := ?_) rfl (by kernel_rfl) (by kernel_rfl) (by decide) (by kernel_rfl) (by kernel_rfl) (fun _ _ _ h => h) (Or.inl ⟨by rfl, ?_⟩) hHeld ?_
                rotate_left
                · (intro wx hSw; obtain ⟨sa, sb⟩ := hSw; obtain ⟨a0, a1, a2, a3, a4, a5, a6, a7, a8, a9, a10, a11⟩ := box12 sa; obtain ⟨d0, d1, d2, d3, d4, d5, d6, d7, d8, d9, d10, d11⟩ := box12 sb; go_simp; try (with_reducible rfl))
                try simp only [Act.put, List.setIfInBounds_toArray, List.set_cons_zero, List.set_cons_succ]
                refine takeT (i := 11) (v := ?_) rfl (by kernel_rfl) (by kernel_rfl) (by decide) (by kernel_rfl) (by kernel_rfl) (fun _ _ _ h => h) (Or.inl ⟨by rfl, ?_⟩) hHeld ?_
                rotate_left
                · (intro wx hSw; obtain ⟨sa, sb⟩ := hSw; obtain ⟨a0, a1, a2, a3, a4, a5, a6, a7, a8, a9, a10, a11⟩ := box12 sa; obtain ⟨d0, d1, d2, d3, d4, d5, d6, d7, d8, d9, d10, d11⟩ := box12 sb; go_simp; try (with_reducible rfl))
                try simp only [Act.put, List.setIfInBounds_toArray, List.set_cons_zero, List.set_cons_succ]
                refine oneT (i := 12) rfl (by kernel_rfl) (fun KK hK => ?_)
                go_simp
                refine (HPL.out Y1).mono ?_
                rintro e Y2 ⟨rfl, b1⟩
                clear hHeld
                replace h := h.step b1
                replace k6 := k6.step b1
                replace k8 := k8.step b1
                replace b := below_step b b1
                replace b8 := below_step b8 b1
                have hHeld := And.intro k6 k8
                clear b1
                refine hK.out _ _ (fun _ => hHeld) ?_
                clear hK KK
                try simp only [Act.put, List.setIfInBounds_toArray, List.set_cons_zero, List.set_cons_succ]
                have HAN : Hid (Calls Try.prog 66 #[.pointer (some ⟨gc, 0, none⟩), .agg #[.int .i64 q.op, .bool q.qt, .bool q.fu, .int .i64 q.bd, .int .u32 (q.oq : Nat), .slice K nk ck, .slice V nv cv, .int .u32 (q.fl : Nat), .int .u32 (q.ex : Nat), .int .u64 (q.cs : Nat), .int .u64 (q.dl : Nat), .int .u64 (q.ni : Nat)], .agg #[.int .i64 q.bd, .slice none 0 0, .int .u32 (0 : Nat), .int .u64 (0 : Nat), .int .u64 (0 : Nat), .slice none 0 0, .bool false]] Y2 (AnsQ Bb gc Bb A' (n - N) c' (l.drop N) OA on lo RR Y2)) := Lib.hid (canswer_ok _ _ _ _ _ _ _ _ _ _ _ _ q Y2 h K nk ck V nv cv ((rK.below b8).more b8.size) ((rV.below b8).more b8.size) q.bd none 0 0 [] 0 0 0 none 0 0 [] (Rd.nil _ _) (Rz.nil _ _ _) rfl (by decide) (by decide) (by decide) (by decide) hP.oq (by omega) (by have := HNUM.out; omega) (pl_wrong hP) RR hRR (by omega))
                refine oneT (i := 13) rfl (by kernel_rfl) (fun KK hK => ?_)
                go_simp
                refine HAN.out.mono ?_
                rintro e Y3 ⟨OA3, oc3, rfl, h3, k3, -⟩
                clear hHeld HAN
                replace k6 := k3.blk k6 (fun e => (HF8.out g6 e).1 rfl)
                replace k8 := k3.blk k8 (fun e => (HF8.out g8 e).2 rfl)
                replace b := b.trans (k3.below (fun k hk => Nat.le_trans HBb.out (HFPB.out k hk)) b.size)
                have hHeld := And.intro k6 k8
                clear h k3 b8
                refine hK.out _ _ (fun _ => hHeld) ?_
                clear hK KK
                try simp only [Act.put, List.setIfInBounds_toArray, List.set_cons_zero, List.set_cons_succ]
                refine takeT (i := 14) (v := ?_) rfl (by kernel_rfl) (by kernel_rfl) (by decide) (by kernel_rfl) (by kernel_rfl) (fun _ _ _ h => h) (Or.inl ⟨by rfl, ?_⟩) hHeld ?_
                rotate_left
                · (intro wx hSw; obtain ⟨sa, sb⟩ := hSw; obtain ⟨a0, a1, a2, a3, a4, a5, a6, a7, a8, a9, a10, a11⟩ := box12 sa; obtain ⟨d0, d1, d2, d3, d4, d5, d6, d7, d8, d9, d10, d11⟩ := box12 sb; go_simp; try (with_reducible rfl))
                try simp only [Act.put, List.setIfInBounds_toArray, List.set_cons_zero, List.set_cons_succ]
                refine takeT (i := 15) (v := ?_) rfl (by kernel_rfl) (by kernel_rfl) (by decide) (by kernel_rfl) (by kernel_rfl) (fun _ _ _ h => h) (Or.inl ⟨by rfl, ?_⟩) hHeld ?_
                rotate_left
                · (intro wx hSw; obtain ⟨sa, sb⟩ := hSw; obtain ⟨a0, a1, a2, a3, a4, a5, a6, a7, a8, a9, a10, a11⟩ := box12 sa; obtain ⟨d0, d1, d2, d3, d4, d5, d6, d7, d8, d9, d10, d11⟩ := box12 sb; go_simp; try (with_reducible rfl))
                try simp only [Act.put, List.setIfInBounds_toArray, List.set_cons_zero, List.set_cons_succ]
                refine takeT (i := 16) (v := ?_) rfl (by kernel_rfl) (by kernel_rfl) (by decide) (by kernel_rfl) (by kernel_rfl) (fun _ _ _ h => h) (Or.inl ⟨by rfl, ?_⟩) hHeld ?_
                rotate_left
                · (intro wx hSw; obtain ⟨sa, sb⟩ := hSw; obtain ⟨a0, a1, a2, a3, a4, a5, a6, a7, a8, a9, a10, a11⟩ := box12 sa; obtain ⟨d0, d1, d2, d3, d4, d5, d6, d7, d8, d9, d10, d11⟩ := box12 sb; go_simp; try (with_reducible rfl))
                try simp only [Act.put, List.setIfInBounds_toArray, List.set_cons_zero, List.set_cons_succ]
                refine takeT (i := 17) (v := ?_) rfl (by kernel_rfl) (by kernel_rfl) (by decide) (by kernel_rfl) (by kernel_rfl) (fun _ _ _ h => h) (Or.inl ⟨by rfl, ?_⟩) hHeld ?_
                rotate_left
                · (intro wx hSw; obtain ⟨sa, sb⟩ := hSw; obtain ⟨a0, a1, a2, a3, a4, a5, a6, a7, a8, a9, a10, a11⟩ := box12 sa; obtain ⟨d0, d1, d2, d3, d4, d5, d6, d7, d8, d9, d10, d11⟩ := box12 sb; go_simp; try (with_reducible rfl))
                try simp only [Act.put, List.setIfInBounds_toArray, List.set_cons_zero, List.set_cons_succ]
                have HCL := Lib.hid (cclosed_any gc _ _ _ _ Y3 h3.box)
                refine oneT (i := 18) rfl (by kernel_rfl) (fun KK hK => ?_)
                go_simp
                refine HCL.out.mono ?_
                rintro e Y4 ⟨rfl, rfl⟩
                refine hK.out _ _ (fun _ => hHeld) ?_
                clear hK KK HCL
                try simp only [Act.put, List.setIfInBounds_toArray, List.set_cons_zero, List.set_cons_succ]
                refine takeT (i := 19) (v := ?_) rfl (by kernel_rfl) (by kernel_rfl) (by decide) (by kernel_rfl) (by kernel_rfl) (fun _ _ _ h => h) (Or.inl ⟨by rfl, ?_⟩) hHeld ?_
                rotate_left
                · (intro wx hSw; obtain ⟨sa, sb⟩ := hSw; obtain ⟨a0, a1, a2, a3, a4, a5, a6, a7, a8, a9, a10, a11⟩ := box12 sa; obtain ⟨d0, d1, d2, d3, d4, d5, d6, d7, d8, d9, d10, d11⟩ := box12 sb; go_simp; try (with_reducible rfl))
                try simp only [Act.put, List.setIfInBounds_toArray, List.set_cons_zero, List.set_cons_succ]
                refine takeT (i := 20) (v := ?_) rfl (by kernel_rfl) (by kernel_rfl) (by decide) (by kernel_rfl) (by kernel_rfl) (fun _ _ _ h => h) (Or.inl ⟨by rfl, ?_⟩) hHeld ?_
                rotate_left
                · (intro wx hSw; obtain ⟨sa, sb⟩ := hSw; obtain ⟨a0, a1, a2, a3, a4, a5, a6, a7, a8, a9, a10, a11⟩ := box12 sa; obtain ⟨d0, d1, d2, d3, d4, d5, d6, d7, d8, d9, d10, d11⟩ := box12 sb; go_simp; try (with_reducible rfl))
                try simp only [Act.put, List.setIfInBounds_toArray, List.set_cons_zero, List.set_cons_succ]
                refine takeT (i := 21) (v := ?_) rfl (by kernel_rfl) (by kernel_rfl) (by decide) (by kernel_rfl) (by kernel_rfl) (fun _ _ _ h => h) (Or.inl ⟨by rfl, ?_⟩) hHeld ?_
                rotate_left
                · (intro wx hSw; obtain ⟨sa, sb⟩ := hSw; obtain ⟨a0, a1, a2, a3, a4, a5, a6, a7, a8, a9, a10, a11⟩ := box12 sa; obtain ⟨d0, d1, d2, d3, d4, d5, d6, d7, d8, d9, d10, d11⟩ := box12 sb; go_simp; try (with_reducible rfl))
                try simp only [Act.put, List.setIfInBounds_toArray, List.set_cons_zero, List.set_cons_succ]
                refine takeT (i := 22) (v := ?_) rfl (by kernel_rfl) (by kernel_rfl) (by decide) (by kernel_rfl) (by kernel_rfl) (fun _ _ _ h => h) (Or.inl ⟨by rfl, ?_⟩) hHeld ?_
                rotate_left
                · (intro wx hSw; obtain ⟨sa, sb⟩ := hSw; obtain ⟨a0, a1, a2, a3, a4, a5, a6, a7, a8, a9, a10, a11⟩ := box12 sa; obtain ⟨d0, d1, d2, d3, d4, d5, d6, d7, d8, d9, d10, d11⟩ := box12 sb; go_simp; try (with_reducible rfl))
                try simp only [Act.put, List.setIfInBounds_toArray, List.set_cons_zero, List.set_cons_succ]
                refine takeT (i := 23) (v := ?_) rfl (by kernel_rfl) (by kernel_rfl) (by decide) (by kernel_rfl) (by kernel_rfl) (fun _ _ _ h => h) (Or.inl ⟨by rfl, ?_⟩) hHeld ?_
                rotate_left
                · (intro wx hSw; obtain ⟨sa, sb⟩ := hSw; obtain ⟨a0, a1, a2, a3, a4, a5, a6, a7, a8, a9, a10, a11⟩ := box12 sa; obtain ⟨d0, d1, d2, d3, d4, d5, d6, d7, d8, d9, d10, d11⟩ := box12 sb; go_simp; try (with_reducible rfl))
                try simp only [Act.put, List.setIfInBounds_toArray, List.set_cons_zero, List.set_cons_succ]
                refine oneT (i := 24) rfl (by kernel_rfl) (fun KK hK => ?_)
                go_simp
                refine (HPL.out Y3).mono ?_
                rintro e Y5 ⟨rfl, b1⟩
                clear hHeld
                replace h3 := h3.step b1
                replace k6 := k6.step b1
                replace k8 := k8.step b1
                replace b := below_step b b1
                have hHeld := And.intro k6 k8
                clear b1
                refine hK.out _ _ (fun _ => hHeld) ?_
                clear hK KK
                try simp only [Act.put, List.setIfInBounds_toArray, List.set_cons_zero, List.set_cons_succ]
                have HA4 : Hid (Calls Try.prog 66 #[.pointer (some ⟨gc, 0, none⟩), .agg #[.int .i64 q.op, .bool q.qt, .bool q.fu, .int .i64 q.bd, .int .u32 (q.oq : Nat), .slice K nk ck, .slice V nv cv, .int .u32 (q.fl : Nat), .int .u32 (q.ex : Nat), .int .u64 (q.cs : Nat), .int .u64 (q.dl : Nat), .int .u64 (q.ni : Nat)], .agg #[.int .i64 q.bd, .slice none 0 0, .int .u32 (0 : Nat), .int .u64 (0 : Nat), .int .u64 (0 : Nat), .slice none 0 0, .bool false]] Y5 (BoxQ' (.int .i64 4) Y5)) := Lib.hid (canswer_none gc _ _ q.op q.qt q.fu q.bd q.oq q.fl q.ex q.cs q.dl q.ni (.slice K nk ck) (.slice V nv cv) q.bd (.slice none 0 0) (.slice none 0 0) 0 0 0 false Y5 h3.box)
                refine oneT (i := 25) rfl (by kernel_rfl) (fun KK hK => ?_)
                go_simp
                refine HA4.out.mono ?_
                rintro e Y6 ⟨rfl, b1⟩
                clear hHeld HA4
                replace h3 := h3.step b1
                replace k6 := k6.step b1
                replace k8 := k8.step b1
                replace b := below_step b b1
                have hHeld := And.intro k6 k8
                clear b1
                refine hK.out _ _ (fun _ => hHeld) ?_
                clear hK KK
                try simp only [Act.put, List.setIfInBounds_toArray, List.set_cons_zero, List.set_cons_succ]
                refine takeT (i := 26) (v := ?_) rfl (by kernel_rfl) (by kernel_rfl) (by decide) (by kernel_rfl) (by kernel_rfl) (fun _ _ _ h => h) (Or.inl ⟨by rfl, ?_⟩) hHeld ?_
                rotate_left
                · (intro wx hSw; obtain ⟨sa, sb⟩ := hSw; obtain ⟨a0, a1, a2, a3, a4, a5, a6, a7, a8, a9, a10, a11⟩ := box12 sa; obtain ⟨d0, d1, d2, d3, d4, d5, d6, d7, d8, d9, d10, d11⟩ := box12 sb; go_simp; try (with_reducible rfl))
                try simp only [Act.put, List.setIfInBounds_toArray, List.set_cons_zero, List.set_cons_succ]
                refine takeT (i := 27) (v := ?_) rfl (by kernel_rfl) (by kernel_rfl) (by decide) (by kernel_rfl) (by kernel_rfl) (fun _ _ _ h => h) (Or.inl ⟨by rfl, ?_⟩) hHeld ?_
                rotate_left
                · (intro wx hSw; obtain ⟨sa, sb⟩ := hSw; obtain ⟨a0, a1, a2, a3, a4, a5, a6, a7, a8, a9, a10, a11⟩ := box12 sa; obtain ⟨d0, d1, d2, d3, d4, d5, d6, d7, d8, d9, d10, d11⟩ := box12 sb; go_simp; try (with_reducible rfl))
                try simp only [Act.put, List.setIfInBounds_toArray, List.set_cons_zero, List.set_cons_succ]
                refine takeT (i := 28) (v := ?_) rfl (by kernel_rfl) (by kernel_rfl) (by decide) (by kernel_rfl) (by kernel_rfl) (fun _ _ _ h => h) (Or.inl ⟨by rfl, ?_⟩) hHeld ?_
                rotate_left
                · (intro wx hSw; obtain ⟨sa, sb⟩ := hSw; obtain ⟨a0, a1, a2, a3, a4, a5, a6, a7, a8, a9, a10, a11⟩ := box12 sa; obtain ⟨d0, d1, d2, d3, d4, d5, d6, d7, d8, d9, d10, d11⟩ := box12 sb; go_simp; try (with_reducible rfl))
                try simp only [Act.put, List.setIfInBounds_toArray, List.set_cons_zero, List.set_cons_succ]
                refine doneT (by kernel_rfl) ?_ _
                refine NoPanic.normal ?_
                clear hHeld
                go_wp2_with fail
                go_meet
                refine ⟨rfl, ⟨b, Or.inl ⟨A', n - N, c', _, OA3, _, oc3, _, h3, by have := HNUM.out; omega, by have := HNUM.out; omega⟩⟩, ?_⟩
                rw [h3.ms]
                have := HNUM.out
                omega
              case rest =>
                obtain ⟨rfl, hcl, hms⟩ := hcut
                go_wp2_with fail
                go_roundw
                case rel => exact hcl
                case measure => rw [HMS.out]; omega
      · have hBb := HBb.out
        have HN := Lib.hid (cnext_closed gc _ _ _ wr h.box)
        go_wp2_with fail
        refine HN.out.mono ?_
        rintro e w5 ⟨rfl, b5⟩
        replace h := h.step b5
        replace b := below_step b b5
        clear b5 HN
        have ba := below_a1' (Below.refl w5.heap.size w5) (.cells #[.int .i64 0, .bool false, .bool false, .int .i64 0, .int .u32 0, .slice none 0 0, .slice none 0 0, .int .u32 0, .int .u32 0, .int .u64 0, .int .u64 0, .int .u64 0] 26)
        replace h := h.step ba
        replace b := below_step b ba
        clear ba
        go_upto_region 7 with fail
        generalize w5.alloc (.cells #[.int .i64 0, .bool false, .bool false, .int .i64 0, .int .u32 0, .slice none 0 0, .slice none 0 0, .int .u32 0, .int .u32 0, .int .u64 0, .int .u64 0, .int .u64 0] 26) = w6 at h b ⊢
        have hsz : ((on : Int) < 1048576) = True := eq_true (by omega)
        have hwb := h.bc
        have HCL := Lib.hid (cclosed_any gc _ _ _ _ w6 h.box)
        have HO := Lib.hid (cout_closed _ _ _ _ _ _ w6 h)
        clear h hon
        go_wp2_with fail
        refine HCL.out.mono ?_
        rintro e w8 ⟨rfl, rfl⟩
        go_wp2_with fail
        refine HO.out.mono ?_
        rintro e w9 ⟨rfl, -, h, g9⟩
        replace b := b.trans ((Kp.of_grown g9).below (fun k hk => by subst hk; omega) b.size)
        clear g9 HO HCL
        have HN := Lib.hid (cnext_closed gc _ _ _ w9 h.box)
        go_wp2_with fail
        refine HN.out.mono ?_
        rintro e w10 ⟨rfl, b10⟩
        replace h := h.step b10
        replace b := below_step b b10
        clear b10 HN
        have ba := below_a1' (Below.refl w10.heap.size w10) (.cells #[.int .i64 0, .bool false, .bool false, .int .i64 0, .int .u32 0, .slice none 0 0, .slice none 0 0, .int .u32 0, .int .u32 0, .int .u64 0, .int .u64 0, .int .u64 0] 26)
        replace h := h.step ba
        replace b := below_step b ba
        clear ba
        go_upto_region 15 with fail
        generalize w10.alloc (.cells #[.int .i64 0, .bool false, .bool false, .int .i64 0, .int .u32 0, .slice none 0 0, .slice none 0 0, .int .u32 0, .int .u32 0, .int .u64 0, .int .u64 0, .int .u64 0] 26) = w11 at h b ⊢
        have HF := Lib.hid (cfeed_closed gc _ _ _ X1 m1 cx1 w11 h.box)
        have HA : Hid (Calls Try.prog 66 #[.pointer (some ⟨gc, 0, none⟩), .agg #[.int .i64 0, .bool false, .bool false, .int .i64 0, .int .u32 0, .slice none 0 0, .slice none 0 0, .int .u32 0, .int .u32 0, .int .u64 0, .int .u64 0, .int .u64 0], .agg #[.int .i64 0, .slice none 0 0, .int .u32 0, .int .u64 0, .int .u64 0, .slice none 0 0, .bool false]] w11 (BoxQ' (.int .i64 320) w11)) := Lib.hid (by have h := canswer_closed gc _ _ _ 0 false false 0 0 0 0 0 0 0 (.slice none 0 0) (.slice none 0 0) 0 (.slice none 0 0) (.slice none 0 0) 0 0 0 false w11 h.box; exact h)
        go_wp2_with fail
        refine HF.out.mono ?_
        rintro e w12 ⟨rfl, rfl⟩
        go_wp2_with fail
        refine HA.out.mono ?_
        rintro e w13 ⟨rfl, b13⟩
        replace h := h.step b13
        replace b := below_step b b13
        clear b13 HA HF
        have HO := Lib.hid (cout_closed _ _ _ _ _ _ w13 h)
        clear h
        go_wp2_with fail
        refine HO.out.mono ?_
        rintro e w14 ⟨rfl, -, h, g9⟩
        replace b := b.trans ((Kp.of_grown g9).below (fun k hk => by subst hk; omega) b.size)
        clear g9 HO h hwb
        go_wp2_with fail
        go_ret
        exact ⟨rfl, b⟩


set_option maxRecDepth 100000 in
theorem lifted_connCloses (os : Os) (started : os.Started) (H : Type) (enc : TypeId × Value → H) :
    ReturnsInHanded {} Try.checked os 18 .any (Rows.connClosesSpec.pre6 enc Try.prog Try.f18 Rows.connClosesRow.domain false) (Rows.connClosesSpec.post enc Try.prog Try.f18 false true false false) := by
  refine returnsInHanded_of_change_sized (C := Try.checked) own started (by kernel_rfl) Try.func18
    (ChangeSpec.witness6 (enc := enc) (C := Try.checked) false ⟨#[], #[.slice none 0 0, .slice none 0 0], []⟩ 8 (by kernel_rfl) (by kernel_rfl) (by kernel_rfl) (by kernel_rfl)) ?_
  intro W base args ds gs before hval0 hW hcnd hsz0 _
  have hval : ∀ (j : Nat) t v, Try.f18.params[j]? = some t → args[j]? = some v → Value.okWide Try.prog W .any base t v := hval0
  have hsz : (DataW.weightsEach Try.prog (Try.f18.params.toList ++ Rows.connClosesSpec.plain.varTypes Try.prog) (ds ++ gs)).all (· ≤ reachBytes) = true := hsz0
  have hW' := hW
  obtain ⟨p, q, hA0, hV, rfl, hfz, hnd⟩ := hW
  have hA : DataW.TrodAll enc Try.prog W 0 (fun _ => true) true Try.f18.params.toList args.toList ds p := hA0
  rw [Try.params18] at hA hval hsz
  obtain ⟨v0, vs0, d0, ds0, p0, q0, hargs, rfl, rfl, h0, t0⟩ := trodAll_cons hA
  obtain ⟨v1, vs1, d1, ds1, p1, q1, rfl, rfl, rfl, h1, t1⟩ := trodAll_cons t0
  obtain ⟨rfl, rfl, rfl⟩ := trodAll_nil t1
  obtain rfl : args = #[v0, v1] := by cases args; simp_all
  obtain ⟨rfl, rfl⟩ := trodVars_none hV
  have k0 := h0
  obtain ⟨A0, n0, c0, l0, rfl, r0, y0⟩ := open_bytes (hval 0 23 v0 rfl rfl) h0
  have s0 := y0 (weights_of hsz (j := 0) rfl rfl)
  have k1 := h1
  obtain ⟨A1, n1, c1, l1, rfl, r1, y1⟩ := open_bytes (hval 1 23 v1 rfl rfl) h1
  have s1 := y1 (weights_of hsz (j := 1) rfl rfl)
  clear hA0 hval0
  refine (walk_connCloses A0 n0 c0 l0 A1 n1 c1 l1 W r0 s0 r1 s1).mono fun e W' ⟨he, bel⟩ => ?_
  subst he
  exact ⟨_, rfl, _, _, _, [], _, [], hW', trodAll_mk1 (shut_bool Try.underlying4 _), (trodAll_cons_mk (Below.trod laidOut (by kernel_rfl) (of_decide_eq_true (by kernel_rfl)) k0 bel (trod_places k0)) (trodAll_cons_mk (Below.trod laidOut (by kernel_rfl) (of_decide_eq_true (by kernel_rfl)) k1 bel (trod_places k1)) trodAll_mk0)), rfl, bel.frame _, fun h => by cases h⟩

theorem closed_connCloses : joinedFacts Try.pinned.checked.prog 18 Try.f18 Rows.connClosesSpec Rows.connClosesRow = true := by
  unfold joinedFacts
  rw [clo_heard, clo_may, clo_lifts, clo_make]
  kernel_rfl
theorem over_connCloses : Rows.connClosesRow.holds Try.pinned (OpenSpec.ofChange Rows.connClosesSpec) :=
  OpenClaim.holds_of_wide 18 Try.f18 rfl rfl rfl rfl rfl rfl rfl ⟨rfl, rfl, rfl, rfl, rfl⟩ rfl rfl rfl rfl rfl (by kernel_rfl) Try.func18 closed_connCloses
    (of_decide_eq_true (by kernel_rfl)) (by unfold Func.isWrapper; first | (rw [if_pos (by decide +kernel)]; kernel_rfl) | (rw [if_neg (by decide +kernel)]; exact ⟨rfl, rfl⟩))
    (fun os started H enc _ => lifted_connCloses os started H enc)

/-- The statement. -/
theorem connCloses_holds : Rows.ConnClosesSaid := over_connCloses
#print axioms connCloses_holds

end Go.Proofs.Ytnghmgbmflcngaa

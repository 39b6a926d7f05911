/- icehouselaw22.talk, all answered plainly: its walk. Conditions: typed in each theorem. -/
import Derived.Test.YtnghmgbmflcngaaTlw
import Derived.Deep.DeepCutAuto
import Derived.Deep.CutBlock
namespace Go.Proofs.Ytnghmgbmflcngaa
set_option linter.unusedVariables false
open Go.RowKit

set_option maxRecDepth 100000 in
set_option maxHeartbeats 8000000 in
theorem talk_any (A0 : Option Addr) (n0 c0 : Nat) (l0 : List UInt8) (A1 : Option Addr) (n1 c1 : Nat) (l1 : List UInt8) (w : World) (r0 : Rd w w.heap.size A0 n0 c0 l0) (r1 : Rd w w.heap.size A1 n1 c1 l1) (h0 : n0 ≤ 20000) (h1 : n1 ≤ 200) :
    Calls Try.prog 73 #[.slice A0 n0 c0, .slice A1 n1 c1, .func (.func 70) #[] #[]] w (TalkQ l0 w) := by
  have hc0 := r0.cap
  have hm0 := r0.max
  have hl0 := r0.len
  have HR0 := Lib.hid r0
  have HR1 := Lib.hid r1
  have HN := Lib.hid (And.intro h0 h1)
  have HL0 := Lib.hid hl0
  clear r0 r1 h0 h1 hc0 hm0 hl0
  have HNW := Lib.hid (cnew_any w)
  go_enter Try.func73, Try.ntmps73
  go_wp2_with fail
  refine HNW.out.mono ?_
  rintro e w3 ⟨gc, rfl, h, b⟩
  clear HNW
  obtain ⟨Bb, hB⟩ : ∃ x, x = w.heap.size := ⟨_, rfl⟩
  have hBb : w.heap.size ≤ Bb := by omega
  have hT0 : TkTop w Bb gc (l0.take 0) none 0 0 [] none 0 0 [] [] w3 := Or.inl ⟨none, 0, [], ⟨by rw [hB]; exact h, by rw [List.take_zero]; exact TkO.start, ⟨Own.nil _ _, Oz.nil _ _ _ _, TRow.nil _ _, (fun k f => ⟨(fun e => by cases e), (fun e => by cases e)⟩), (fun k e => by cases e), rfl⟩, ⟨by simp, by simp⟩, by simp, b⟩, nxt_nil⟩
  have HBb := Lib.hid hBb
  clear h b hBb hB
  go_wp2_with fail
  go_loopw [10, 11, 12, 13, 14, 15, 16] (fun s10 s11 s12 s13 _ _ _ wr => ∃ (a j : Nat) (XA : Option Addr) (xn xc : Nat) (xo : List UInt8) (LA : Option Addr) (ln lc : Nat) (qs : List RQ) (L : List (List Value)), s10 = .slice XA xn xc ∧ s11 = .slice LA ln lc ∧ s12 = .int .i64 (a : Nat) ∧ s13 = .int .i64 (j : Nat) ∧ a ≤ n0 ∧ j ≤ n1 ∧ TkTop w Bb gc (l0.take a) XA xn xc xo LA ln lc qs L wr) (fun _ _ _ s13 _ _ _ _ => n1 + 1 - (intOf s13).toNat)
  case atStart => exact ⟨0, 0, none, 0, 0, [], none, 0, 0, [], [], rfl, rfl, rfl, rfl, Nat.zero_le _, Nat.zero_le _, hT0⟩
  case round =>
    clear hT0
    obtain ⟨a, j, XA, xn, xc, xo, LA, ln, lc, qs, L, rfl, rfl, rfl, rfl, ha, hj, ht⟩ := hrel
    have HT := Lib.hid ht
    have HA := Lib.hid (And.intro ha hj)
    clear ht
    have hw1 : IntKind.i64.wrap ((n0 : Int) - (a : Int)) = (n0 : Int) - (a : Int) := IntWalk.i64_in _ (by have := HN.out; omega)
    have hw1' : wrap64 ((n0 : Int) - (a : Int)) = (n0 : Int) - (a : Int) := IntWalk.wrap64_in _ (by have := HN.out; omega)
    go_upto_if 27 with fail
    go_cut [14] (fun s14 wx => ∃ m : Nat, s14 = .int .i64 (m : Nat) ∧ a + m ≤ n0 ∧ (n1 ≤ j → a + m = n0) ∧ wx = wr)
    case first =>
      by_cases hlt : j < n1
      · have hlt' : ((j : Int) < (n1 : Int)) = True := eq_true (by omega)
        have hbw : Below w.heap.size w wr := by rcases HT.out with ⟨A, c, l, h, -⟩ | h; exact h.2.2.2.2.2; exact h.2.2.2.2.2
        obtain ⟨ad, x, hA1, -, hxx, hcx⟩ := (HR1.out.below hbw).at_ hlt
        subst hA1
        obtain ⟨m, hm⟩ : ∃ m, m = min (n0 - a) x.toNat := ⟨_, rfl⟩
        have hI1 : (if ((x.toNat : Nat) : Int) < (n0 : Int) - (a : Int) then ((x.toNat : Nat) : Int) else (n0 : Int) - (a : Int)) = (m : Int) := by have := HA.out; split <;> omega
        have hwx : IntKind.i64.wrap ((x.toNat : Nat) : Int) = ((x.toNat : Nat) : Int) := IntWalk.i64_in _ (by have := x.toNat_lt; omega)
        have HLT := Lib.hid hlt
        clear hlt
        go_wp2_with fail
        go_meet
        refine ⟨m, ?_, by have := HA.out; have := HN.out; omega, (fun e => absurd HLT.out (by omega)), rfl⟩
        have hA := HA.out
        congr 1
        omega
      · have hlt' : ((j : Int) < (n1 : Int)) = False := eq_false (by omega)
        go_wp2_with fail
        go_meet
        refine ⟨n0 - a, ?_, by have := HA.out; omega, fun _ => by have := HA.out; omega, rfl⟩
        have hA := HA.out
        congr 1
        omega
    case rest =>
      obtain ⟨m, rfl, ham, hmn, rfl⟩ := hcut
      have HM := Lib.hid (And.intro ham hmn)
      have hw2 : IntKind.i64.wrap ((a : Int) + (m : Int)) = (a : Int) + (m : Int) := IntWalk.i64_in _ (by have := HN.out; omega)
      have hw2' : wrap64 ((a : Int) + (m : Int)) = (a : Int) + (m : Int) := IntWalk.wrap64_in _ (by have := HN.out; omega)
      have hbw : Below w.heap.size w wc := by rcases HT.out with ⟨A, c, l, h, -⟩ | h; exact h.2.2.2.2.2; exact h.2.2.2.2.2
      have hrd := HR0.out.below hbw
      obtain ⟨X, cx, HX, hX⟩ := slc_lh hrd a (a + m) (a : Int) ((a : Int) + (m : Int)) rfl (by omega) (by omega) ham
      simp only [Nat.add_sub_cancel_left] at HX hX
      have hX2 := (hX _ _ hrd).more hbw.size
      have hxl : ((l0.take (a + m)).drop a).length = m := by have := HL0.out; rw [List.length_drop, List.length_take]; omega
      have hxf : l0.take a ++ (l0.take (a + m)).drop a = l0.take (a + m) := by rw [List.take_add, List.drop_append_of_le_length (by have := HL0.out; rw [List.length_take]; omega), List.drop_of_length_le (by have := HL0.out; rw [List.length_take]; omega), List.nil_append]
      have hfl : (l0.take a).length + m ≤ 20000 := by have := HL0.out; have := HN.out; rw [List.length_take]; omega
      generalize (l0.take (a + m)).drop a = x at hX2 hxl hxf
      have HRX := Lib.hid hX2
      have HXL := Lib.hid (And.intro hxl (And.intro hxf hfl))
      clear hX hX2 hrd hbw hxl hxf hfl ham hmn
      go_upto_region 10 with fail
      go_cut [] (fun wx => TkMid w Bb gc (l0.take (a + m)) XA xn xc xo LA ln lc qs L wx)
      case first =>
        rcases HT.out with ⟨A, c, l, h, hx⟩ | h
        · have HF := Lib.hid (cfeed_ok _ _ _ _ _ _ _ _ _ _ _ _ _ X m cx x wc h.1 HRX.out (by have := h.2.2.2.1; have := HXL.out.2.2; omega))
          have HH := Lib.hid (And.intro h hx)
          clear h hx
          go_wp2_with fail
          refine HF.out.mono ?_
          rintro e w4 ⟨A4, c4, rfl, hc, hk, hA⟩
          have h4 := HH.out.1.feed_ HBb.out HH.out.2 HXL.out.1 HXL.out.2.2 hc hk hA
          rw [HXL.out.2.1] at h4
          clear hc hk hA HF HH
          go_wp2_with fail
          go_meet
          exact Or.inl ⟨A4, c4, _, _, _, _, _, h4⟩
        · have HF := Lib.hid (cfeed_closed gc _ _ _ X m cx wc h.1.box)
          have h4 := h.feed_ x
          rw [HXL.out.2.1] at h4
          have H4 := Lib.hid h4
          clear h h4
          go_wp2_with fail
          refine HF.out.mono ?_
          rintro e w4 ⟨rfl, rfl⟩
          go_wp2_with fail
          go_meet
          exact Or.inr ⟨_, _, _, _, H4.out⟩
      case rest =>
        rename_i w4
        have HT4 := Lib.hid hcut
        clear hcut HX hw1 hw1'
        go_upto_block 2 with fail
        go_cut [11] (fun s11 wx => ∃ (LA : Option Addr) (ln lc : Nat) (qs : List RQ) (L : List (List Value)), s11 = .slice LA ln lc ∧ TkEnd w Bb gc (l0.take (a + m)) XA xn xc xo LA ln lc qs L wx)
        case first =>
          go_wp2_with fail
          go_loopw [11, 15, 16] (fun s11 _ _ wr => ∃ (LA : Option Addr) (ln lc : Nat) (qs : List RQ) (L : List (List Value)), s11 = .slice LA ln lc ∧ TkMid w Bb gc (l0.take (a + m)) XA xn xc xo LA ln lc qs L wr) (fun _ _ _ wr => msT wr gc Bb)
          case atStart => exact ⟨_, _, _, _, _, rfl, HT4.out⟩
          case round =>
            clear HT4
            obtain ⟨LA, ln, lc, qs, L, rfl, hst⟩ := hrel
            rcases hst with ⟨A, c, l, OA, on, oc, lo, h⟩ | ⟨OA, on, oc, lo, h⟩
            · cases hx : nxt l with
              | none =>
                have HN := Lib.hid (cnext_bad _ _ _ _ _ _ _ _ _ _ _ wr h.1 hx (by have h1 := h.2.2.2.1; have h2 := h.2.2.2.2.1; omega))
                have HH := Lib.hid (And.intro h hx)
                clear h hx
                go_wp2_with fail
                refine HN.out.mono ?_
                rintro e w5 ⟨OA2, oc2, rfl, hc, k5, hO⟩
                have h5 := (HH.out.1.bad_ HBb.out HH.out.2 hc k5 hO).below (below_a1' (Below.refl w5.heap.size w5) (.cells #[.int .i64 0, .bool false, .bool false, .int .i64 0, .int .u32 0, .slice none 0 0, .slice none 0 0, .int .u32 0, .int .u32 0, .int .u64 0, .int .u64 0, .int .u64 0] 26))
                clear hc k5 hO HN HH
                go_wp2_with fail
                go_meet
                exact ⟨_, _, _, _, _, rfl, Or.inr ⟨_, _, _, _, h5⟩⟩
              | some y =>
                cases y with
                | none =>
                  have HN := Lib.hid (cnext_wait _ _ _ _ _ _ _ _ _ _ _ wr h.1 hx)
                  have HH := Lib.hid (And.intro h hx)
                  clear h hx
                  go_wp2_with fail
                  refine HN.out.mono ?_
                  rintro e w5 ⟨rfl, -, b5⟩
                  have h5 := (HH.out.1.below b5).below (below_a1' (Below.refl w5.heap.size w5) (.cells #[.int .i64 0, .bool false, .bool false, .int .i64 0, .int .u32 0, .slice none 0 0, .slice none 0 0, .int .u32 0, .int .u32 0, .int .u64 0, .int .u64 0, .int .u64 0] 26))
                  clear b5 HN
                  go_wp2_with fail
                  go_meet
                  exact ⟨_, _, _, _, _, rfl, Or.inl ⟨_, _, _, _, _, _, _, h5, HH.out.2⟩⟩
                | some qN =>
                  obtain ⟨q, N⟩ := qN
                  have HMS := Lib.hid h.1.mt
                  have hlq : q.lk.length ≤ 100000000 ∧ q.lv.length ≤ 100000000 := ⟨by have := (nxt_pr hx).lk; omega, by have := (nxt_pr hx).lv; omega⟩
                  have HN := Lib.hid (cnext_yes _ _ _ _ _ _ _ _ _ _ _ wr h.1 q N hx hlq)
                  have HH := Lib.hid (And.intro h hx)
                  clear h hx hlq
                  go_wp2_with fail
                  refine HN.out.mono ?_
                  rintro e w5 ⟨K, nk, ck, V, nv, cv, A', c', wv, rfl, oK, oV, hc, -, k5, hA⟩
                  unfold reqV
                  have h := HH.out.1.yes_ HBb.out HH.out.2 oK oV hc k5 hA
                  have rK := oK.rd
                  have rV := oV.rd
                  have hPQ := Lib.hid (nxt_pr HH.out.2)
                  clear oK oV hc k5 hA HN HH
                  have hf6 : ∀ k, FP gc Bb A' OA k → k < w5.heap.size := fun k hk => (h.1.fp k hk).2
                  have k6 := Blk.new w5 #[.int .i64 q.op, .bool q.qt, .bool q.fu, .int .i64 q.bd, .int .u32 (q.oq : Nat), .slice K nk ck, .slice V nv cv, .int .u32 (q.fl : Nat), .int .u32 (q.ex : Nat), .int .u64 (q.cs : Nat), .int .u64 (q.dl : Nat), .int .u64 (q.ni : Nat)] 26
                  have ba := below_a1' (Below.refl w5.heap.size w5) (.cells #[.int .i64 q.op, .bool q.qt, .bool q.fu, .int .i64 q.bd, .int .u32 (q.oq : Nat), .slice K nk ck, .slice V nv cv, .int .u32 (q.fl : Nat), .int .u32 (q.ex : Nat), .int .u64 (q.cs : Nat), .int .u64 (q.dl : Nat), .int .u64 (q.ni : Nat)] 26)
                  replace h := h.below ba
                  replace rK := rK.step ba
                  replace rV := rV.step ba
                  clear ba
                  go_upto_region 14 with fail
                  generalize w5.alloc (.cells #[.int .i64 q.op, .bool q.qt, .bool q.fu, .int .i64 q.bd, .int .u32 (q.oq : Nat), .slice K nk ck, .slice V nv cv, .int .u32 (q.fl : Nat), .int .u32 (q.ex : Nat), .int .u64 (q.cs : Nat), .int .u64 (q.dl : Nat), .int .u64 (q.ni : Nat)] 26) = w6 at h rK rV k6 ⊢
                  generalize w5.heap.size = g6 at k6 hf6 ⊢
                  have HF6 := Lib.hid hf6
                  clear hf6
                  go_cut [61] (fun s61 wx => s61 = .bool false ∧ Blk wx g6 #[.int .i64 q.op, .bool q.qt, .bool q.fu, .int .i64 q.bd, .int .u32 (q.oq : Nat), .slice K nk ck, .slice V nv cv, .int .u32 (q.fl : Nat), .int .u32 (q.ex : Nat), .int .u64 (q.cs : Nat), .int .u64 (q.dl : Nat), .int .u64 (q.ni : Nat)] 26 ∧ TkA w Bb gc (l0.take (a + m)) XA xn xc xo LA ln lc qs L q (reqL q K nk ck V nv cv) l.length wx)
                  case first =>
                    have HLN : Hid (ln = qs.length) := Lib.hid h.2.2.2.1.len
                    cases hpl : plC q with
                    | true =>
                      refine wp_region_noPanic ?_
                      refine region_T (fun wx => Blk wx g6 #[.int .i64 q.op, .bool q.qt, .bool q.fu, .int .i64 q.bd, .int .u32 (q.oq : Nat), .slice K nk ck, .slice V nv cv, .int .u32 (q.fl : Nat), .int .u32 (q.ex : Nat), .int .u64 (q.cs : Nat), .int .u64 (q.dl : Nat), .int .u64 (q.ni : Nat)] 26) 9 (by kernel_rfl) ?_
                      have bD : Below w6.heap.size w6 w6.drew := (Below.refl _ _).drew
                      replace h := h.below bD
                      replace rK := rK.step bD
                      replace rV := rV.step bD
                      replace k6 := k6.step bD
                      have hHeld := k6
                      clear bD
                      generalize w6.drew = Y0 at h rK rV k6 hHeld ⊢
                      refine takeT (i := 0) (v := ?_) rfl (by kernel_rfl) (by kernel_rfl) (by decide) (by kernel_rfl) (by kernel_rfl) (fun _ _ _ h => h) (Or.inl ⟨by rfl, ?_⟩) hHeld ?_
                      rotate_left
                      · (intro wx hSw; obtain ⟨a0, a1, a2, a3, a4, a5, a6, a7, a8, a9, a10, a11⟩ := box12 hSw; go_simp; try (with_reducible rfl))
                      try simp only [Act.put, List.setIfInBounds_toArray, List.set_cons_zero, List.set_cons_succ]
                      refine takeT (i := 1) (v := ?_) rfl (by kernel_rfl) (by kernel_rfl) (by decide) (by kernel_rfl) (by kernel_rfl) (fun _ _ _ h => h) (Or.inl ⟨by rfl, ?_⟩) hHeld ?_
                      rotate_left
                      · (intro wx hSw; obtain ⟨a0, a1, a2, a3, a4, a5, a6, a7, a8, a9, a10, a11⟩ := box12 hSw; go_simp; try (with_reducible rfl))
                      try simp only [Act.put, List.setIfInBounds_toArray, List.set_cons_zero, List.set_cons_succ]
                      refine takeT (i := 2) (v := ?_) rfl (by kernel_rfl) (by kernel_rfl) (by decide) (by kernel_rfl) (by kernel_rfl) (fun _ _ _ h => h) (Or.inl ⟨by rfl, ?_⟩) hHeld ?_
                      rotate_left
                      · (intro wx hSw; obtain ⟨a0, a1, a2, a3, a4, a5, a6, a7, a8, a9, a10, a11⟩ := box12 hSw; go_simp; try (with_reducible rfl))
                      try simp only [Act.put, List.setIfInBounds_toArray, List.set_cons_zero, List.set_cons_succ]
                      refine takeT (i := 3) (v := ?_) rfl (by kernel_rfl) (by kernel_rfl) (by decide) (by kernel_rfl) (by kernel_rfl) (fun _ _ _ h => h) (Or.inl ⟨by rfl, ?_⟩) hHeld ?_
                      rotate_left
                      · (intro wx hSw; obtain ⟨a0, a1, a2, a3, a4, a5, a6, a7, a8, a9, a10, a11⟩ := box12 hSw; go_simp; try (with_reducible rfl))
                      try simp only [Act.put, List.setIfInBounds_toArray, List.set_cons_zero, List.set_cons_succ]
                      refine takeT (i := 4) (v := ?_) rfl (by kernel_rfl) (by kernel_rfl) (by decide) (by kernel_rfl) (by kernel_rfl) (fun _ _ _ h => h) (Or.inl ⟨by rfl, ?_⟩) hHeld ?_
                      rotate_left
                      · (intro wx hSw; obtain ⟨a0, a1, a2, a3, a4, a5, a6, a7, a8, a9, a10, a11⟩ := box12 hSw; go_simp; try (with_reducible rfl))
                      try simp only [Act.put, List.setIfInBounds_toArray, List.set_cons_zero, List.set_cons_succ]
                      refine takeT (i := 5) (v := ?_) rfl (by kernel_rfl) (by kernel_rfl) (by decide) (by kernel_rfl) (by kernel_rfl) (fun _ _ _ h => h) (Or.inl ⟨by rfl, ?_⟩) hHeld ?_
                      rotate_left
                      · (intro wx hSw; obtain ⟨a0, a1, a2, a3, a4, a5, a6, a7, a8, a9, a10, a11⟩ := box12 hSw; go_simp; try (with_reducible rfl))
                      try simp only [Act.put, List.setIfInBounds_toArray, List.set_cons_zero, List.set_cons_succ]
                      have HPL : Hid (Calls Try.prog 70 #[reqV q.op q.qt q.fu q.bd q.oq (.slice K nk ck) (.slice V nv cv) q.fl q.ex q.cs q.dl q.ni, .int .i64 (ln : Nat)] Y0 (fun e w' => e = .returned (ansV (plS q qs.length) (.slice none 0 0) 0 0 0 (.slice none 0 0) true) ∧ Below Y0.heap.size Y0 w')) := Lib.hid (by rw [HLN.out]; have hh := plain_any q (.slice K nk ck) (.slice V nv cv) qs.length Y0; rw [hpl] at hh; exact hh)
                      refine oneT (i := 6) rfl (by kernel_rfl) (fun KK hK => ?_)
                      go_simp
                      refine HPL.out.mono ?_
                      rintro e Y2 ⟨rfl, b1⟩
                      clear hHeld HPL
                      replace h := h.below b1
                      replace rK := rK.step b1
                      replace rV := rV.step b1
                      replace k6 := k6.step b1
                      have hHeld := k6
                      clear b1
                      refine hK.out _ _ (fun _ => hHeld) ?_
                      clear hK KK
                      try simp only [Act.put, List.setIfInBounds_toArray, List.set_cons_zero, List.set_cons_succ]
                      have HAN : Hid (Calls Try.prog 66 #[.pointer (some ⟨gc, 0, none⟩), .agg #[.int .i64 q.op, .bool q.qt, .bool q.fu, .int .i64 q.bd, .int .u32 (q.oq : Nat), .slice K nk ck, .slice V nv cv, .int .u32 (q.fl : Nat), .int .u32 (q.ex : Nat), .int .u64 (q.cs : Nat), .int .u64 (q.dl : Nat), .int .u64 (q.ni : Nat)], .agg #[.int .i64 (plS q qs.length), .slice none 0 0, .int .u32 (0 : Nat), .int .u64 (0 : Nat), .int .u64 (0 : Nat), .slice none 0 0, .bool true]] Y2 (AnsCQ Bb gc Bb A' OA on lo (plR q qs.length) Y2)) := Lib.hid (canswer_close _ _ _ _ _ _ _ _ _ _ _ _ q Y2 h.1 K nk ck V nv cv rK rV (plS q qs.length) none 0 0 [] 0 0 0 none 0 0 [] (Rd.nil _ _) (Rz.nil _ _ _) rfl (by decide) (by decide) (by decide) (by decide) hPQ.out.oq (by have h1 := rK.len; have h2 := hPQ.out.lk; omega) (by have h1 := h.2.2.2.2.2.1; have h2 := h.2.2.2.2.2.2.1; omega) (plg_wrong _ _ (plS_in hPQ.out _)) (plR q qs.length) (plg_of hPQ.out _).1 (by have := (plg_of hPQ.out qs.length).2; omega))
                      refine oneT (i := 7) rfl (by kernel_rfl) (fun KK hK => ?_)
                      go_simp
                      refine HAN.out.mono ?_
                      rintro e Y3 ⟨OA3, oc3, rfl, h3, k3, hO⟩
                      clear hHeld HAN
                      have h4 := h.quit_ HBb.out hpl l.length h3 k3 hO
                      replace k6 := k3.blk k6 (fun e => absurd (HF6.out g6 e) (Nat.lt_irrefl _))
                      have hHeld := k6
                      clear h h3 k3 hO
                      refine hK.out _ _ (fun _ => hHeld) ?_
                      clear hK KK
                      try simp only [Act.put, List.setIfInBounds_toArray, List.set_cons_zero, List.set_cons_succ]
                      refine takeT (i := 8) (v := ?_) rfl (by kernel_rfl) (by kernel_rfl) (by decide) (by kernel_rfl) (by kernel_rfl) (fun _ _ _ h => h) (Or.inl ⟨by rfl, ?_⟩) hHeld ?_
                      rotate_left
                      · (intro wx hSw; obtain ⟨a0, a1, a2, a3, a4, a5, a6, a7, a8, a9, a10, a11⟩ := box12 hSw; go_simp; try (with_reducible rfl))
                      try simp only [Act.put, List.setIfInBounds_toArray, List.set_cons_zero, List.set_cons_succ]
                      refine doneT (by kernel_rfl) ?_ _
                      refine NoPanic.normal ?_
                      clear hHeld
                      go_wp2_with fail
                      go_meet
                      exact ⟨rfl, k6, h4⟩
                    | false =>
                      refine wp_region_noPanic ?_
                      refine region_T (fun wx => Blk wx g6 #[.int .i64 q.op, .bool q.qt, .bool q.fu, .int .i64 q.bd, .int .u32 (q.oq : Nat), .slice K nk ck, .slice V nv cv, .int .u32 (q.fl : Nat), .int .u32 (q.ex : Nat), .int .u64 (q.cs : Nat), .int .u64 (q.dl : Nat), .int .u64 (q.ni : Nat)] 26) 9 (by kernel_rfl) ?_
                      have bD : Below w6.heap.size w6 w6.drew := (Below.refl _ _).drew
                      replace h := h.below bD
                      replace rK := rK.step bD
                      replace rV := rV.step bD
                      replace k6 := k6.step bD
                      have hHeld := k6
                      clear bD
                      generalize w6.drew = Y0 at h rK rV k6 hHeld ⊢
                      refine takeT (i := 0) (v := ?_) rfl (by kernel_rfl) (by kernel_rfl) (by decide) (by kernel_rfl) (by kernel_rfl) (fun _ _ _ h => h) (Or.inl ⟨by rfl, ?_⟩) hHeld ?_
                      rotate_left
                      · (intro wx hSw; obtain ⟨a0, a1, a2, a3, a4, a5, a6, a7, a8, a9, a10, a11⟩ := box12 hSw; go_simp; try (with_reducible rfl))
                      try simp only [Act.put, List.setIfInBounds_toArray, List.set_cons_zero, List.set_cons_succ]
                      refine takeT (i := 1) (v := ?_) rfl (by kernel_rfl) (by kernel_rfl) (by decide) (by kernel_rfl) (by kernel_rfl) (fun _ _ _ h => h) (Or.inl ⟨by rfl, ?_⟩) hHeld ?_
                      rotate_left
                      · (intro wx hSw; obtain ⟨a0, a1, a2, a3, a4, a5, a6, a7, a8, a9, a10, a11⟩ := box12 hSw; go_simp; try (with_reducible rfl))
                      try simp only [Act.put, List.setIfInBounds_toArray, List.set_cons_zero, List.set_cons_succ]
                      refine takeT (i := 2) (v := ?_) rfl (by kernel_rfl) (by kernel_rfl) (by decide) (by kernel_rfl) (by kernel_rfl) (fun _ _ _ h => h) (Or.inl ⟨by rfl, ?_⟩) hHeld ?_
                      rotate_left
                      · (intro wx hSw; obtain ⟨a0, a1, a2, a3, a4, a5, a6, a7, a8, a9, a10, a11⟩ := box12 hSw; go_simp; try (with_reducible rfl))
                      try simp only [Act.put, List.setIfInBounds_toArray, List.set_cons_zero, List.set_cons_succ]
                      refine takeT (i := 3) (v := ?_) rfl (by kernel_rfl) (by kernel_rfl) (by decide) (by kernel_rfl) (by kernel_rfl) (fun _ _ _ h => h) (Or.inl ⟨by rfl, ?_⟩) hHeld ?_
                      rotate_left
                      · (intro wx hSw; obtain ⟨a0, a1, a2, a3, a4, a5, a6, a7, a8, a9, a10, a11⟩ := box12 hSw; go_simp; try (with_reducible rfl))
                      try simp only [Act.put, List.setIfInBounds_toArray, List.set_cons_zero, List.set_cons_succ]
                      refine takeT (i := 4) (v := ?_) rfl (by kernel_rfl) (by kernel_rfl) (by decide) (by kernel_rfl) (by kernel_rfl) (fun _ _ _ h => h) (Or.inl ⟨by rfl, ?_⟩) hHeld ?_
                      rotate_left
                      · (intro wx hSw; obtain ⟨a0, a1, a2, a3, a4, a5, a6, a7, a8, a9, a10, a11⟩ := box12 hSw; go_simp; try (with_reducible rfl))
                      try simp only [Act.put, List.setIfInBounds_toArray, List.set_cons_zero, List.set_cons_succ]
                      refine takeT (i := 5) (v := ?_) rfl (by kernel_rfl) (by kernel_rfl) (by decide) (by kernel_rfl) (by kernel_rfl) (fun _ _ _ h => h) (Or.inl ⟨by rfl, ?_⟩) hHeld ?_
                      rotate_left
                      · (intro wx hSw; obtain ⟨a0, a1, a2, a3, a4, a5, a6, a7, a8, a9, a10, a11⟩ := box12 hSw; go_simp; try (with_reducible rfl))
                      try simp only [Act.put, List.setIfInBounds_toArray, List.set_cons_zero, List.set_cons_succ]
                      have HPL : Hid (Calls Try.prog 70 #[reqV q.op q.qt q.fu q.bd q.oq (.slice K nk ck) (.slice V nv cv) q.fl q.ex q.cs q.dl q.ni, .int .i64 (ln : Nat)] Y0 (fun e w' => e = .returned (ansV (plS q qs.length) (.slice none 0 0) 0 0 0 (.slice none 0 0) false) ∧ Below Y0.heap.size Y0 w')) := Lib.hid (by rw [HLN.out]; have hh := plain_any q (.slice K nk ck) (.slice V nv cv) qs.length Y0; rw [hpl] at hh; exact hh)
                      refine oneT (i := 6) rfl (by kernel_rfl) (fun KK hK => ?_)
                      go_simp
                      refine HPL.out.mono ?_
                      rintro e Y2 ⟨rfl, b1⟩
                      clear hHeld HPL
                      replace h := h.below b1
                      replace rK := rK.step b1
                      replace rV := rV.step b1
                      replace k6 := k6.step b1
                      have hHeld := k6
                      clear b1
                      refine hK.out _ _ (fun _ => hHeld) ?_
                      clear hK KK
                      try simp only [Act.put, List.setIfInBounds_toArray, List.set_cons_zero, List.set_cons_succ]
                      have HAN : Hid (Calls Try.prog 66 #[.pointer (some ⟨gc, 0, none⟩), .agg #[.int .i64 q.op, .bool q.qt, .bool q.fu, .int .i64 q.bd, .int .u32 (q.oq : Nat), .slice K nk ck, .slice V nv cv, .int .u32 (q.fl : Nat), .int .u32 (q.ex : Nat), .int .u64 (q.cs : Nat), .int .u64 (q.dl : Nat), .int .u64 (q.ni : Nat)], .agg #[.int .i64 (plS q qs.length), .slice none 0 0, .int .u32 (0 : Nat), .int .u64 (0 : Nat), .int .u64 (0 : Nat), .slice none 0 0, .bool false]] Y2 (AnsQ Bb gc Bb A' (l.length - N) c' (l.drop N) OA on lo (plR q qs.length) Y2)) := Lib.hid (canswer_ok _ _ _ _ _ _ _ _ _ _ _ _ q Y2 h.1 K nk ck V nv cv rK rV (plS q qs.length) none 0 0 [] 0 0 0 none 0 0 [] (Rd.nil _ _) (Rz.nil _ _ _) rfl (by decide) (by decide) (by decide) (by decide) hPQ.out.oq (by have h1 := rK.len; have h2 := hPQ.out.lk; omega) (by have h1 := h.2.2.2.2.2.1; have h2 := h.2.2.2.2.2.2.1; omega) (plg_wrong _ _ (plS_in hPQ.out _)) (plR q qs.length) (plg_of hPQ.out _).1 (by have := (plg_of hPQ.out qs.length).2; omega))
                      refine oneT (i := 7) rfl (by kernel_rfl) (fun KK hK => ?_)
                      go_simp
                      refine HAN.out.mono ?_
                      rintro e Y3 ⟨OA3, oc3, rfl, h3, k3, hO⟩
                      clear hHeld HAN
                      have h4 := h.ok_ HBb.out hpl h3 k3 hO
                      replace k6 := k3.blk k6 (fun e => absurd (HF6.out g6 e) (Nat.lt_irrefl _))
                      have hHeld := k6
                      clear h h3 k3 hO
                      refine hK.out _ _ (fun _ => hHeld) ?_
                      clear hK KK
                      try simp only [Act.put, List.setIfInBounds_toArray, List.set_cons_zero, List.set_cons_succ]
                      refine takeT (i := 8) (v := ?_) rfl (by kernel_rfl) (by kernel_rfl) (by decide) (by kernel_rfl) (by kernel_rfl) (fun _ _ _ h => h) (Or.inl ⟨by rfl, ?_⟩) hHeld ?_
                      rotate_left
                      · (intro wx hSw; obtain ⟨a0, a1, a2, a3, a4, a5, a6, a7, a8, a9, a10, a11⟩ := box12 hSw; go_simp; try (with_reducible rfl))
                      try simp only [Act.put, List.setIfInBounds_toArray, List.set_cons_zero, List.set_cons_succ]
                      refine doneT (by kernel_rfl) ?_ _
                      refine NoPanic.normal ?_
                      clear hHeld
                      go_wp2_with fail
                      go_meet
                      exact ⟨rfl, k6, h4⟩
                  case rest =>
                    obtain ⟨rfl, k7, h7⟩ := hcut
                    obtain ⟨a0, a1, a2, a3, a4, a5, a6, a7, a8, a9, a10, a11⟩ := box12 k7
                    have rn := Rz.new1 wc #[.int .i64 q.op, .bool q.qt, .bool q.fu, .int .i64 q.bd, .int .u32 (q.oq : Nat), .slice K nk ck, .slice V nv cv, .int .u32 (q.fl : Nat), .int .u32 (q.ex : Nat), .int .u64 (q.cs : Nat), .int .u64 (q.dl : Nat), .int .u64 (q.ni : Nat)] 26 12 rfl
                    have h8 := h7.below (below_a1' (Below.refl wc.heap.size wc) (.cells #[.int .i64 q.op, .bool q.qt, .bool q.fu, .int .i64 q.bd, .int .u32 (q.oq : Nat), .slice K nk ck, .slice V nv cv, .int .u32 (q.fl : Nat), .int .u32 (q.ex : Nat), .int .u64 (q.cs : Nat), .int .u64 (q.dl : Nat), .int .u64 (q.ni : Nat)] 26))
                    have HP8 := Lib.hid h8.parts
                    have H8 := Lib.hid h8
                    clear h7 h8 k7 HF6 rK rV
                    go_wp2_with (first | refine wpl_bsR _ rfl _ rfl #[.int .i64 q.op, .bool q.qt, .bool q.fu, .int .i64 q.bd, .int .u32 (q.oq : Nat), .slice K nk ck, .slice V nv cv, .int .u32 (q.fl : Nat), .int .u32 (q.ex : Nat), .int .u64 (q.cs : Nat), .int .u64 (q.dl : Nat), .int .u64 (q.ni : Nat)] rfl rfl ?_ | (at_builtin; refine wpl_appR _ rfl _ _ rfl w.heap.size LA ln lc L.flatten rfl HP8.out.1 _ _ 1 1 _ rfl rn HP8.out.2.1 HP8.out.2.2.1 HP8.out.2.2.2 ?_))
                    intro LA2 lc2 w9 ho9 gg9 hA9
                    rw [obk_eq] at gg9
                    rw [obk_eq, obk_eq] at hA9
                    have h9 := H8.out.app ho9 gg9 (by rw [World.size_alloc]; exact hA9)
                    have H9 := Lib.hid h9
                    clear h9 ho9 gg9 hA9 H8 HP8 rn a0 a1 a2 a3 a4 a5 a6 a7 a8 a9 a10 a11
                    go_wp2_with fail
                    go_roundw
                    case rel => exact ⟨_, _, _, _, _, rfl, H9.out.1⟩
                    case measure => rw [HMS.out]; have := H9.out.2; omega
            · have HN := Lib.hid (cnext_closed gc _ _ _ wr h.1.box)
              have HH := Lib.hid h
              clear h
              go_wp2_with fail
              refine HN.out.mono ?_
              rintro e w5 ⟨rfl, b5⟩
              have h5 := (HH.out.below b5).below (below_a1' (Below.refl w5.heap.size w5) (.cells #[.int .i64 0, .bool false, .bool false, .int .i64 0, .int .u32 0, .slice none 0 0, .slice none 0 0, .int .u32 0, .int .u32 0, .int .u64 0, .int .u64 0, .int .u64 0] 26))
              clear b5 HN HH
              go_wp2_with fail
              go_meet
              exact ⟨_, _, _, _, _, rfl, Or.inr ⟨_, _, _, _, h5⟩⟩
        case rest =>
          obtain ⟨LA2, ln2, lc2, qs2, L2, rfl, he⟩ := hcut
          have HE := Lib.hid he
          clear he HT4
          go_upto_region 17 with fail
          go_cut [10] (fun s10 wx => ∃ (XA : Option Addr) (xn xc : Nat) (xo : List UInt8), s10 = .slice XA xn xc ∧ TkTop w Bb gc (l0.take (a + m)) XA xn xc xo LA2 ln2 lc2 qs2 L2 wx)
          case first =>
            rcases HE.out with ⟨A, c, l, OA, on, oc, lo, h, hx⟩ | ⟨OA, on, oc, lo, h⟩
            · have HO := Lib.hid (cout_any Bb gc Bb _ c on oc A OA l lo _ _ wc h.1)
              have HH := Lib.hid (And.intro h hx)
              clear h hx
              go_wp2_with fail
              refine HO.out.mono ?_
              rintro e w5 ⟨rfl, o5, hc5, g5⟩
              have r5 := HH.out.1.out_ HBb.out hc5 g5
              clear g5 HO HE
              have HX5 := Lib.hid (And.intro r5.1.out (And.intro o5.rd r5.2.size))
              have hon : xn + on ≤ 140737488355328 := by have h1 := HH.out.1.2.2.2.1; have h2 := HH.out.1.2.2.2.2.1; omega
              go_wp2_with (at_builtin; refine wpl_appO _ rfl _ _ rfl w.heap.size XA xn xc xo rfl HX5.out.1 _ OA on oc lo rfl HX5.out.2.1 hon HX5.out.2.2 ?_)
              intro XA6 xc6 w6 o6 g6 hA6
              have h6 := HH.out.1.said HH.out.2 hc5 r5.1 r5.2 o6 g6 hA6
              have H6 := Lib.hid h6
              clear h6 o6 g6 hA6 HX5 r5 hc5 o5 hon
              go_wp2_with fail
              go_meet
              exact ⟨_, _, _, _, rfl, H6.out⟩
            · have HO := Lib.hid (cout_closed Bb gc on oc OA lo wc h.1)
              have HH := Lib.hid h
              clear h
              go_wp2_with fail
              refine HO.out.mono ?_
              rintro e w5 ⟨rfl, o5, hc5, g5⟩
              have r5 := HH.out.out_ HBb.out g5
              clear g5 HO HE
              have HX5 := Lib.hid (And.intro r5.1.out (And.intro o5.rd r5.2.size))
              have hon : xn + on ≤ 140737488355328 := by have h2 := HH.out.2.2.2.2.1; omega
              go_wp2_with (at_builtin; refine wpl_appO _ rfl _ _ rfl w.heap.size XA xn xc xo rfl HX5.out.1 _ OA on oc lo rfl HX5.out.2.1 hon HX5.out.2.2 ?_)
              intro XA6 xc6 w6 o6 g6 hA6
              have h6 := HH.out.said hc5 r5.1 r5.2 o6 g6 hA6
              have H6 := Lib.hid h6
              clear h6 o6 g6 hA6 HX5 r5 hc5 o5 hon
              go_wp2_with fail
              go_meet
              exact ⟨_, _, _, _, rfl, H6.out⟩
          case rest =>
            obtain ⟨XA2, xn2, xc2, xo2, rfl, ht⟩ := hcut
            have HTT := Lib.hid ht
            clear ht HE
            by_cases hen : a + m = n0 ∧ n1 ≤ j
            · have h1 : (((a : Int) + (m : Int)) == (n0 : Int)) = true := beq_iff_eq.2 (by omega)
              have h2 : ((a : Int) + (m : Int) = (n0 : Int)) = True := eq_true (by omega)
              have h3 : ((n1 : Int) ≤ (j : Int)) = True := eq_true (by omega)
              have HEN := Lib.hid hen
              clear hen
              have hbx : ∃ v0 v1 v2 cl, Blk wc gc #[v0, v1, v2, .bool cl] 160 ∧ Below w.heap.size w wc := by
                rcases HTT.out with ⟨A, c, l, h, -⟩ | h
                · exact ⟨_, _, _, _, h.1.box, h.2.2.2.2.2⟩
                · exact ⟨_, _, _, _, h.1.box, h.2.2.2.2.2⟩
              obtain ⟨v0, v1, v2, cl, hbx, -⟩ := hbx
              have HCL := Lib.hid (cclosed_any gc v0 v1 v2 cl wc hbx)
              have HQ := Lib.hid (HTT.out.done_ ⟨v0, v1, v2, hbx⟩)
              have HL : Hid (l0.take (a + m) = l0) := Lib.hid (by rw [HEN.out.1, ← HL0.out]; exact List.take_length)
              rw [HL.out] at HQ
              clear hbx HTT HT
              go_wp2_with fail
              refine HCL.out.mono ?_
              rintro e w7 ⟨rfl, rfl⟩
              go_wp2_with fail
              refine bodyPost_ret (v := .tuple #[.slice XA2 xn2 xc2, .slice LA2 ln2 lc2, .bool cl]) (by simp [results, Try.results73, go_sem]) rfl ?_
              exact HQ.out
            · have HJL : Hid (j + 1 ≤ n1) := Lib.hid (by by_cases e : a + m = n0; omega; by_cases e2 : j < n1; omega; exact absurd (HM.out.2 (by omega)) e)
              by_cases e : a + m = n0
              · have h1 : (((a : Int) + (m : Int)) == (n0 : Int)) = true := beq_iff_eq.2 (by omega)
                have h2 : ((a : Int) + (m : Int) = (n0 : Int)) = True := eq_true (by omega)
                have h3 : ((n1 : Int) ≤ (j : Int)) = False := eq_false (by have := HJL.out; omega)
                clear e hen
                have HJP : IntKind.i64.wrap ((j : Int) + 1) = (j : Int) + 1 := IntWalk.i64_in _ (by have := HN.out; have := HA.out; omega)
                clear HT
                go_wp2_with fail
                go_roundw
                case rel => exact ⟨a + m, j + 1, _, _, _, _, _, _, _, _, _, rfl, rfl, by first | rfl | go_num, by first | rfl | go_num, HM.out.1, HJL.out, HTT.out⟩
                case measure => have := HJL.out; simp [intOf]; omega
              · have h1 : (((a : Int) + (m : Int)) == (n0 : Int)) = false := by rw [beq_eq_false_iff_ne]; omega
                have h2 : ((a : Int) + (m : Int) = (n0 : Int)) = False := eq_false (by omega)
                clear e hen
                have HJP : IntKind.i64.wrap ((j : Int) + 1) = (j : Int) + 1 := IntWalk.i64_in _ (by have := HN.out; have := HA.out; omega)
                clear HT
                go_wp2_with fail
                go_roundw
                case rel => exact ⟨a + m, j + 1, _, _, _, _, _, _, _, _, _, rfl, rfl, by first | rfl | go_num, by first | rfl | go_num, HM.out.1, HJL.out, HTT.out⟩
                case measure => have := HJL.out; simp [intOf]; omega
end Go.Proofs.Ytnghmgbmflcngaa

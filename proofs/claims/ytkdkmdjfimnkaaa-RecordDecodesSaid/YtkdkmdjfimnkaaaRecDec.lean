/- RecordDecodes: which record any bytes begin with, and how many bytes it has, for every bytes. Conditions: those of the given row alone. -/
import Derived.Test.YtkdkmdjfimnkaaaRek
namespace Go.Proofs.Ytkdkmdjfimnkaaa
set_option linter.unusedVariables false
open Go.RowKit Go.ChangeShapes Go.WideShapes Go.ChangeAt

theorem own_pos {w : World} {B n c : Nat} {A : Option Addr} {l : List UInt8} (h : Own w B A n c l) (hn : 0 < n) : ∃ k, A = some ⟨k, 0, none⟩ ∧ B ≤ k ∧ k < w.heap.size := by
  obtain ⟨m, rfl⟩ : ∃ m, n = m + 1 := ⟨n - 1, by omega⟩
  exact own_row h
theorem own_lt {w : World} {B n c : Nat} {A : Option Addr} {l : List UInt8} (h : Own w B A n c l) : ∀ ad, A = some ad → ad.block < w.heap.size := fun ad e => (World.ownsRow.lt h ad.block (by rw [e]; rfl)).2
set_option maxRecDepth 20000 in
set_option maxHeartbeats 16000000 in
theorem decodes_any (A : Option Addr) (n c : Nat) (l : List UInt8) (w : World) (r : Rd w w.heap.size A n c l) (kind : Int) (fl ex sq nk nv : Nat) (lk lv : List UInt8) (N : Nat) (err : Int) (Nn : Int) (ee : Int)
    (hDe : ∀ A n' c w, Rd w w.heap.size A n' c (l.take (min n 1200)) → Calls Try.prog 15 #[.slice A n' c] w (DecP kind fl ex sq nk nv lk lv N err w))
    (hDr : ∀ A n' c w, Rd w w.heap.size A n' c (l.take (min n 1200)) → Calls Try.prog 27 #[.slice A n' c] w (DecR kind fl ex sq nk nv lk lv N err w))
    (hNe : ∀ A n' c w, Rd w w.heap.size A n' c (l.take (min n 1200)) → Calls Try.prog 23 #[.slice A n' c] w (NeedQ Nn ee w))
    (hNr : ∀ A n' c w, Rd w w.heap.size A n' c (l.take (min n 1200)) → Calls Try.prog 28 #[.slice A n' c] w (NeedQ Nn ee w)) :
    Calls Try.prog 9 #[.slice A n c] w fun e w' => e = .returned (.bool true) ∧ Below w.heap.size w w' := by
  have HD := Lib.hid hDe
  have HR := Lib.hid hDr
  have HN := Lib.hid hNe
  have HM := Lib.hid hNr
  have rb := rd_pre r (Nat.min_le_left n 1200)
  have hm4 : min n 1200 ≤ 1200 := Nat.min_le_right _ _
  have hcap := r.cap
  have hSm := fun W A1 A2 a1 a2 A3 A4 a3 a4 q1 q2 q3 q4 => rsame_5 kind kind fl fl ex ex sq sq A1 A2 A3 A4 nk a1 nv a2 nk a3 nv a4 lk lv lk lv W q1 q2 q3 q4 (beq_self_eq_true _) (beq_self_eq_true _) (beq_self_eq_true _) (beq_self_eq_true _) (beq_self_eq_true _)
  rw [beq_self_eq_true] at hSm
  unfold recV at hSm
  have HS := Lib.hid hSm
  clear hDe hDr hNe hNr hSm
  go_enter Try.func9, Try.ntmps9
  go_wp2_with fail
  refine (wakes06 _).mono ?_
  rintro e w1 ⟨rfl, b⟩
  go_upto_region 3 with fail
  go_cut [0] (fun s wx => s = .slice A (min n 1200) c ∧ w1 = wx)
  case first =>
    by_cases h9 : n ≤ 1200
    · have hmn := Lib.hid (Nat.min_eq_left h9)
      go_wp2_with fail
      all_goals
        go_meet
        exact ⟨by rw [hmn.out], rfl⟩
    · have hmn := Lib.hid (Nat.min_eq_right (show 1200 ≤ n by omega))
      go_wp2_with fail
      all_goals
        go_meet
        exact ⟨by rw [hmn.out], rfl⟩
  case rest =>
    obtain ⟨rfl, rfl⟩ := hcut
    clear hcap r
    generalize min n 1200 = m at rb HD HR HN HM hm4 ⊢
    generalize l.take m = l' at rb HD HR HN HM
    have hl' := rb.len
    have HL := Lib.hid hl'
    clear hl'
    have hb1 := b.size
    go_wp2_with (at_make; refine wpList_mkc8 _ rfl _ _ rfl w1.heap.size (m + 2) _ rfl rfl (by omega) (by omega) (Nat.le_refl _) ?_)
    intro w2 o2 b2
    go_wp2_with (at_builtin; refine wpList_app8 _ rfl _ _ rfl w1.heap.size _ 0 _ _ rfl o2 w.heap.size A m c l' rfl (rb.below (below_step b b2)) (by omega) b2.size ?_)
    intro A3 c3 w3 o3 b3
    have b23 := b2.trans b3
    clear b2
    go_wp2_with (at_builtin; refine wpList_app8 _ rfl _ _ rfl w1.heap.size A3 m c3 l' rfl (o3.alloc _) _ (some ⟨w3.heap.size, 0, none⟩) 1 1 [7] rfl (Rd.one w3 _ _ rfl) (by omega) (by have := b23.size; simp; omega) ?_)
    intro A4 c4 w4 o4 b4
    have b34 : Below w1.heap.size w3 w4 := ((Below.refl _ _).alloc b23.size _).trans b4
    replace b := b.trans ((b23.trans b34).mono hb1)
    obtain ⟨gO, rfl, hO1, hO2⟩ := own_row o4
    have HSl := slc_own o4 m (m : Int) rfl (Nat.le_succ m)
    clear b3 b4 b23 b34 o3 o2
    go_wp2_with fail
    refine (HR.out A m c _ ((rb.below b).more b.size)).mono ?_
    rintro e w5 ⟨K', ck', V', cv', rfl, oK', oV', b5⟩
    have ba := below_a1' (Below.refl w5.heap.size w5) (.cells #[.int .i64 kind, .int .u32 (fl : Nat), .int .u32 (ex : Nat), .int .u64 (sq : Nat), .slice K' nk ck', .slice V' nv cv'] 26)
    have kW6 := Blk.new w5 #[.int .i64 kind, .int .u32 (fl : Nat), .int .u32 (ex : Nat), .int .u64 (sq : Nat), .slice K' nk ck', .slice V' nv cv'] 26
    have rK6 := (oK'.rd.below ba).more ba.size
    have rV6 := (oV'.rd.below ba).more ba.size
    replace b := below_step (below_step b b5) ba
    replace o4 := (o4.below b5).below ba
    clear oK' oV' b5 HR
    go_wp2_with fail
    refine (HM.out A m c _ ((rb.below b).more b.size)).mono ?_
    rintro e w6 ⟨rfl, b6⟩
    replace kW6 := kW6.step b6
    replace rK6 := (rK6.below b6).more b6.size
    replace rV6 := (rV6.below b6).more b6.size
    replace b := below_step b b6
    replace o4 := o4.below b6
    clear b6 ba HM
    go_wp2_with fail
    go_loopw [9] (fun i wr => ∃ j : Nat, j ≤ 2 ∧ i = .int .i64 j ∧ Below w6.heap.size w6 wr) (fun i _ => 2 - (intOf i).toNat)
    case atStart => exact ⟨0, Nat.zero_le _, rfl, Below.refl _ _⟩
    case round =>
      obtain ⟨j, hj, rfl, hb⟩ := hrel
      generalize wr = wo at hb ⊢
      by_cases hlt : j < 2
      · have oO := o4.below hb
        have kW := kW6.step hb
        have rK := (rK6.below hb).more hb.size
        have rV := (rV6.below hb).more hb.size
        clear o4 kW6 rK6 rV6
        have HDW := Lib.hid (HD.out (some ⟨gO, 0, none⟩) m c4 _ (rd_fore7 oO.rd))
        go_wp2_with fail
        refine HDW.out.mono ?_
        rintro e w7 ⟨K, ck, V, cv, B2, rfl, oK, oV, hB2, hKB, b7⟩
        have hK7 := own_lt oK
        have hV7 := own_lt oV
        have ba := below_a1' (Below.refl w7.heap.size w7) (.cells #[.int .i64 kind, .int .u32 (fl : Nat), .int .u32 (ex : Nat), .int .u64 (sq : Nat), .slice K nk ck, .slice V nv cv] 26)
        have kR := Blk.new w7 #[.int .i64 kind, .int .u32 (fl : Nat), .int .u32 (ex : Nat), .int .u64 (sq : Nat), .slice K nk ck, .slice V nv cv] 26
        have hbr := below_step b7 ba
        replace oO := (oO.below b7).below ba
        replace kW := (kW.step b7).step ba
        replace rK := ((rK.below b7).more b7.size |>.below ba).more ba.size
        replace rV := ((rV.below b7).more b7.size |>.below ba).more ba.size
        replace oK := oK.below ba
        replace oV := oV.below ba
        have HNW := Lib.hid (HN.out (some ⟨gO, 0, none⟩) m c4 _ (rd_fore7 oO.rd))
        clear HDW b7 ba
        go_wp2_with fail
        refine HNW.out.mono ?_
        rintro e w8 ⟨rfl, b8⟩
        clear HNW
        replace hbr := below_step hbr b8
        replace kR := kR.step b8
        replace kW := kW.step b8
        replace oO := oO.below b8
        replace oK := oK.below b8
        replace oV := oV.below b8
        replace rK := (rK.below b8).more b8.size
        replace rV := (rV.below b8).more b8.size
        clear b8
        obtain ⟨q0, q1, q2, q3, q4, q5⟩ := box6 kR
        obtain ⟨y0, y1, y2, y3, y4, y5⟩ := box6 kW
        have u7 := seven_at oO.rd
        have HSW := Lib.hid (HS.out _ K V ck cv K' V' ck' cv' oK.rd oV.rd rK rV)
        go_wp2_with fail
        refine HSW.out.mono ?_
        rintro e w9 ⟨rfl, b9⟩
        clear q0 q1 q2 q3 q4 q5 y0 y1 y2 y3 y4 y5
        replace hbr := below_step hbr b9
        replace kR := kR.step b9
        replace kW := kW.step b9
        replace oO := oO.below b9
        replace oK := oK.below b9
        replace oV := oV.below b9
        replace rK := (rK.below b9).more b9.size
        replace rV := (rV.below b9).more b9.size
        have rB9 := rb.below (b.trans ((hb.trans (hbr.mono hb.size)).mono b.size))
        clear b9 HSW u7
        obtain ⟨q0, q1, q2, q3, q4, q5⟩ := box6 kR
        obtain ⟨y0, y1, y2, y3, y4, y5⟩ := box6 kW
        have u7 := seven_at oO.rd
        have HBW := Lib.hid (bequal_gen (some ⟨gO, 0, none⟩) A m c4 m c _ _ l' l' w9 (rd_fore7 oO.rd) rB9)
        rw [eqB_rfl] at HBW
        go_wp2_with fail
        refine HBW.out.mono ?_
        rintro e w10 ⟨rfl, hw⟩
        subst hw
        go_wp2_with fail
        clear q0 q1 q2 q3 q4 q5 y0 y1 y2 y3 y4 y5 u7 HBW rK rV rB9 oO kW HS HD HN
        go_loopw [108] (fun i ws => ∃ (q : Nat) (l2 : List UInt8), q ≤ nk ∧ i = .int .i64 q ∧ Own ws wo.heap.size K nk ck l2 ∧ Own ws B2 V nv cv lv ∧ Blk ws w7.heap.size #[.int .i64 kind, .int .u32 (fl : Nat), .int .u32 (ex : Nat), .int .u64 (sq : Nat), .slice K nk ck, .slice V nv cv] 26 ∧ Below wo.heap.size wo ws) (fun i _ => nk - (intOf i).toNat)
        case atStart => exact ⟨0, lk, Nat.zero_le _, rfl, oK, oV, kR, hbr⟩
        case round =>
          obtain ⟨q, l2, hq, rfl, oK2, oV2, kR2, hb2⟩ := hrel
          generalize wr = wp at oK2 oV2 kR2 hb2 ⊢
          clear oK oV kR hbr
          obtain ⟨q0, q1, q2, q3, q4, q5⟩ := box6 kR2
          by_cases hlq : q < nk
          · obtain ⟨gK, hgK, hg1, hg2⟩ := own_pos oK2 (by omega)
            subst hgK
            have hk7 : gK < w7.heap.size := hK7 _ rfl
            have hkB : gK < B2 := hKB _ rfl
            have hm1 : nk ≤ 9223372036854775807 := by have h1 := oK2.rd.cap; have h2 := oK2.rd.max; unfold maxLen at h2; omega
            obtain ⟨x1, hx1, hc1⟩ := oK2.cellAt (j := q) hlq
            have hf := oK2.frozenAt q
            clear hx1
            have oK3 : Own (wp.setCell ⟨gK, q, none⟩ (.int .u8 238)) wo.heap.size (some ⟨gK, 0, none⟩) nk ck (l2.set q 238) := oK2.stored q 238
            have oV3 := oV2.kept (rdr_grown_set wp gK q (.int .u8 238)) hkB
            have kR3 := kR2.far (p := ⟨gK, q, none⟩) (by show _ ≠ gK; omega) (.int .u8 238)
            have hb3 := hb2.setCell (p := ⟨gK, q, none⟩) hg1 (.int .u8 238)
            go_wp2
            go_roundw
            case rel => exact ⟨q + 1, _, by omega, by go_num, oK3, oV3, kR3, hb3⟩
            case measure => simp [intOf]; omega
          · go_wp2_with fail
            go_loopw [119] (fun i ws => ∃ (q : Nat) (l2 : List UInt8), q ≤ nv ∧ i = .int .i64 q ∧ Own ws B2 V nv cv l2 ∧ Blk ws w7.heap.size #[.int .i64 kind, .int .u32 (fl : Nat), .int .u32 (ex : Nat), .int .u64 (sq : Nat), .slice K nk ck, .slice V nv cv] 26 ∧ Below wo.heap.size wo ws) (fun i _ => nv - (intOf i).toNat)
            case atStart => exact ⟨0, lv, Nat.zero_le _, rfl, oV2, kR2, hb2⟩
            case round =>
              obtain ⟨q', l3, hq', rfl, oV4, kR4, hb4⟩ := hrel
              generalize wr = wz at oV4 kR4 hb4 ⊢
              clear oK2 oV2 kR2 hb2 q0 q1 q2 q3 q4 q5
              obtain ⟨q0, q1, q2, q3, q4, q5⟩ := box6 kR4
              by_cases hlv : q' < nv
              · obtain ⟨gV, hgV, hg1, hg2⟩ := own_pos oV4 (by omega)
                subst hgV
                have hv7 : gV < w7.heap.size := hV7 _ rfl
                have hm1 : nv ≤ 9223372036854775807 := by have h1 := oV4.rd.cap; have h2 := oV4.rd.max; unfold maxLen at h2; omega
                obtain ⟨x1, hx1, hc1⟩ := oV4.cellAt (j := q') hlv
                have hf := oV4.frozenAt q'
                clear hx1
                have oV5 : Own (wz.setCell ⟨gV, q', none⟩ (.int .u8 238)) B2 (some ⟨gV, 0, none⟩) nv cv (l3.set q' 238) := oV4.stored q' 238
                have kR5 := kR4.far (p := ⟨gV, q', none⟩) (by show _ ≠ gV; omega) (.int .u8 238)
                have hb5 := hb4.setCell (p := ⟨gV, q', none⟩) (Nat.le_trans hB2 hg1) (.int .u8 238)
                go_wp2
                go_roundw
                case rel => exact ⟨q' + 1, _, by omega, by go_num, oV5, kR5, hb5⟩
                case measure => simp [intOf]; omega
              · have hbn := hb.trans (hb4.mono hb.size)
                go_wp2_with fail
                go_roundw
                case rel => exact ⟨j + 1, by omega, by go_num, hbn⟩
                case measure => simp [intOf]; omega
      · go_wp2_with fail
        go_ret
        exact ⟨rfl, b.trans (hb.mono b.size)⟩
theorem walk_recordDecodes (A : Option Addr) (n c : Nat) (l : List UInt8) (w : World) (r : Rd w w.heap.size A n c l) (hc : c ≤ 140737488351232) :
    Calls Try.prog 9 #[.slice A n c] w fun e w' => e = .returned (.bool true) ∧ Below w.heap.size w w' := by
  have hm := Nat.min_le_right n 1200
  have hl := (rd_pre r (Nat.min_le_left n 1200)).len
  obtain ⟨kind, fl, ex, sq, nk, nv, lk, lv, N, err, Nn, ee, h1, h2, h3, h4⟩ := decs_any (l.take (min n 1200)) (by rw [hl]; omega)
  exact decodes_any A n c l w r kind fl ex sq nk nv lk lv N err Nn ee h1 h2 h3 h4


set_option maxRecDepth 100000 in
theorem lifted_recordDecodes (os : Os) (started : os.Started) (H : Type) (enc : TypeId × Value → H) :
    ReturnsInHanded {} Try.checked os 9 .any (Rows.recordDecodesSpec.pre6 enc Try.prog Try.f9 Rows.recordDecodesRow.domain false) (Rows.recordDecodesSpec.post enc Try.prog Try.f9 false true false false) := by
  refine returnsInHanded_of_change_sized (C := Try.checked) own started (by kernel_rfl) Try.func9
    (ChangeSpec.witness6 (enc := enc) (C := Try.checked) false ⟨#[], #[.slice none 0 0], []⟩ 8 (by kernel_rfl) (by kernel_rfl) (by kernel_rfl) (by kernel_rfl)) ?_
  intro W base args ds gs before hval0 hW hcnd hsz0 _
  have hval : ∀ (j : Nat) t v, Try.f9.params[j]? = some t → args[j]? = some v → Value.okWide Try.prog W .any base t v := hval0
  have hsz : (DataW.weightsEach Try.prog (Try.f9.params.toList ++ Rows.recordDecodesSpec.plain.varTypes Try.prog) (ds ++ gs)).all (· ≤ reachBytes) = true := hsz0
  have hW' := hW
  obtain ⟨p, q, hA0, hV, rfl, hfz, hnd⟩ := hW
  have hA : DataW.TrodAll enc Try.prog W 0 (fun _ => true) true Try.f9.params.toList args.toList ds p := hA0
  rw [Try.params9] at hA hval hsz
  obtain ⟨v0, vs0, d0, ds0, p0, q0, hargs, rfl, rfl, h0, t0⟩ := trodAll_cons hA
  obtain ⟨rfl, rfl, rfl⟩ := trodAll_nil t0
  obtain rfl : args = #[v0] := by cases args; simp_all
  obtain ⟨rfl, rfl⟩ := trodVars_none hV
  have k0 := h0
  obtain ⟨A0, n0, c0, l0, rfl, r0, y0⟩ := open_bytes (hval 0 24 v0 rfl rfl) h0
  have s0 := y0 (weights_of hsz (j := 0) rfl rfl)
  clear hA0 hval0
  refine (walk_recordDecodes A0 n0 c0 l0 W r0 s0).mono fun e W' ⟨he, bel⟩ => ?_
  subst he
  exact ⟨_, rfl, _, _, _, [], _, [], hW', trodAll_mk1 (shut_bool Try.underlying4 _), (trodAll_cons_mk (Below.trod laidOut (by kernel_rfl) (of_decide_eq_true (by kernel_rfl)) k0 bel (trod_places k0)) trodAll_mk0), rfl, bel.frame _, fun h => by cases h⟩

theorem over_recordDecodes : Rows.recordDecodesRow.holds Try.pinned (OpenSpec.ofChange Rows.recordDecodesSpec) :=
  OpenClaim.holds_of_wide 9 Try.f9 rfl rfl rfl rfl rfl rfl rfl ⟨rfl, rfl, rfl, rfl, rfl⟩ rfl rfl rfl rfl rfl (by kernel_rfl) Try.func9 (by kernel_rfl)
    (of_decide_eq_true (by kernel_rfl)) (by unfold Func.isWrapper; first | (rw [if_pos (by decide +kernel)]; kernel_rfl) | (rw [if_neg (by decide +kernel)]; exact ⟨rfl, rfl⟩))
    (fun os started H enc _ => lifted_recordDecodes os started H enc)

/-- The statement. -/
theorem recordDecodes_holds : Rows.RecordDecodesSaid := over_recordDecodes
#print axioms recordDecodes_holds

end Go.Proofs.Ytkdkmdjfimnkaaa

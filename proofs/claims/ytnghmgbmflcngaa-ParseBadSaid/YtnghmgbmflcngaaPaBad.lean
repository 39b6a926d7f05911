/- ParseBad: a request that is not refused has a frame that says it. Conditions: none. -/
import Derived.Test.YtnghmgbmflcngaaPabw
import Derived.Test.YtnghmgbmflcngaaQsho
import Derived.Test.YtnghmgbmflcngaaClo
import Derived.Test.YtnghmgbmflcngaaOpen
namespace Go.Proofs.Ytnghmgbmflcngaa
set_option linter.unusedVariables false
open Go.ChangeShapes Go.WideShapes Go.ChangeAt Go.RowKit

theorem rd_lenR {w : World} {B n c : Nat} {A : Option Addr} {l : List UInt8} {m : Nat} (r : Rd w B A n c l) (h : m = l.length) : m = n := by rw [h, r.len]
set_option maxHeartbeats 1000000 in
theorem walk_parseBad (mg op kl el ty st bl oq cas : Nat) (AX : Option Addr) (nx cx : Nat) (lx : List UInt8) (AK : Option Addr) (nk ck : Nat) (lk : List UInt8) (AV : Option Addr) (nv cv : Nat) (lv : List UInt8) (w : World)
    (r0 : Frm w mg op kl el ty st bl oq cas AX nx cx lx AK nk ck lk AV nv cv lv) (s0 : cx ≤ 140737488351232 ∧ ck ≤ 140737488351232 ∧ cv ≤ 140737488351232) :
    Calls Try.prog 14 #[frV mg op kl el ty st bl oq cas (.slice AX nx cx) (.slice AK nk ck) (.slice AV nv cv)] w fun e w' => e = .returned (.bool true) ∧ Below w.heap.size w w' := by
  obtain ⟨hf, rx, rk, rv⟩ := r0
  have e1 := rx.cap
  have e2 := rk.cap
  have e3 := rv.cap
  obtain ⟨s1, s2, s3⟩ := s0
  have l1 := rx.len
  have l2 := rk.len
  have l3 := rv.len
  have hsh : ∀ W, Below w.heap.size w W → Calls Try.prog 52 #[.agg #[.int .u8 (mg : Nat), .int .u8 (op : Nat), .int .u16 (kl : Nat), .int .u8 (el : Nat), .int .u8 (ty : Nat), .int .u16 (st : Nat), .int .u32 (bl : Nat), .int .u32 (oq : Nat), .int .u64 (cas : Nat), .slice AX nx cx, .slice AK nk ck, .slice AV nv cv]] W (ShortP w.heap.size mg op kl el ty st bl oq cas (min nx 300) (min nk 3000) (min nv 3000) (lx.take (min nx 300)) (lk.take (min nk 3000)) (lv.take (min nv 3000)) W) := fun W bW =>
    short_any mg op kl el ty st bl oq cas AX AK AV nx cx nk ck nv cv lx lk lv W w.heap.size bW.size (rx.below bW) (rk.below bW) (rv.below bW) (by omega) (by omega) (by omega)
  have m1 : (lx.take (min nx 300)).length = min nx 300 := by rw [List.length_take]; omega
  have m2 : (lk.take (min nk 3000)).length = min nk 3000 := by rw [List.length_take]; omega
  have m3 : (lv.take (min nv 3000)).length = min nv 3000 := by rw [List.length_take]; omega
  have b1 : min nx 300 ≤ 300 := by omega
  have b2 : min nk 3000 ≤ 3000 := by omega
  have b3 : min nv 3000 ≤ 3000 := by omega
  unfold frV frC
  generalize min nx 300 = mx at hsh m1 b1
  generalize min nk 3000 = mk at hsh m2 b2
  generalize min nv 3000 = mv at hsh m3 b3
  generalize lx.take mx = ux at hsh m1
  generalize lk.take mk = uk at hsh m2
  generalize lv.take mv = uv at hsh m3
  have hN : mx + mk + mv ≤ 9223372036854775807 := by omega
  by_cases hw : wrongE mg kl el bl mx mk mv = 0
  · cases hr : rightB mg ty with
    | false => exact bad_no mg op kl el ty st bl oq cas AX AK AV nx cx nk ck nv cv mx mk mv ux uk uv w hsh (fun W X2 cx2 K2 ck2 V2 cv2 r1 r2 r3 => prequest_right mg op kl el ty st bl oq cas hf X2 K2 V2 mx cx2 mk ck2 mv cv2 hN ux uk uv W r1 r2 r3 hw hr)
    | true =>
      have hrq := fun W X2 cx2 K2 ck2 V2 cv2 r1 r2 r3 q hq => (prequest_yes mg op kl el ty st bl oq cas hf X2 K2 V2 mx cx2 mk ck2 mv cv2 hN ux uk uv W r1 r2 r3 hw hr q hq).mono fun _ _ h => h.b
      have hin : (reqO op oq cas ux uk uv).In := reqO_in hf.2.2.2.2.2.2.2.1
      have hoq : (reqO op oq cas ux uk uv).oq = oq := reqO_oq
      have hcs : (reqO op oq cas ux uk uv).cs < 18446744073709551616 := Nat.lt_of_le_of_lt reqO_cs hf.2.2.2.2.2.2.2.2
      by_cases hb : (reqO op oq cas ux uk uv).bd = 0
      · obtain ⟨hs, -, -, -, -⟩ := say_of_req hb
        obtain ⟨f1, f2, f3, f4, f5⟩ := say_frame hin hcs hs
        obtain ⟨q, hq⟩ : ∃ q, reqO op oq cas ux uk uv = q := ⟨_, rfl⟩
        have hrq' := fun W X2 cx2 K2 ck2 V2 cv2 r1 r2 r3 => hrq W X2 cx2 K2 ck2 V2 cv2 r1 r2 r3 q hq
        rw [hq] at hin hoq hcs hb hs f1 f2 f3 f4 f5
        have hfr := fun W K4 V4 ck4 cv4 r1 r2 => (pframe_O q hin op hs K4 V4 q.lk.length ck4 q.lv.length cv4 W r1 r2).mono fun _ _ h => h.p
        unfold RQ.val reqV at hfr
        rw [hb] at hrq' hfr
        have hr2 := fun W X5 K5 V5 cx5 ck5 cv5 r1 r2 r3 => (prequest_yes 128 op q.lk.length (frmX q).length 0 0 ((frmX q).length + q.lk.length + q.lv.length) q.oq q.cs f1 X5 K5 V5 (frmX q).length cx5 q.lk.length ck5 q.lv.length cv5 (by have := f1.2.2.2.2.2.2.1; omega) (frmX q) q.lk q.lv W r1 r2 r3 f2 (by decide) q f5).mono fun _ _ h => h.b
        rw [hb] at hr2
        have hsm := fun W K4 V4 ck4 cv4 K7 V7 ck7 cv7 r1 r2 r3 r4 => qsame_any q.op q.op 0 0 q.qt q.qt q.fu q.fu q.oq q.oq q.fl q.fl q.ex q.ex q.cs q.cs q.dl q.dl q.ni q.ni K4 K7 V4 V7 q.lk.length ck4 q.lk.length ck7 q.lv.length cv4 q.lv.length cv7 q.lk q.lk q.lv q.lv W r1 r3 r2 r4
        rw [reqSame_yes ⟨rfl, rfl, rfl, rfl, rfl, rfl, rfl, rfl, rfl, rfl, rfl, rfl⟩] at hsm
        unfold reqV at hsm
        exact bad_yes mg op kl el ty st bl oq cas AX AK AV nx cx nk ck nv cv mx mk mv ux uk uv w q op _ _ _ _ _ _ hsh hrq' hfr hr2 hsm f3 f4
      · obtain ⟨h1, h2, h3, h4⟩ := reqO_bd hb
        have hno : sayO (reqO op oq cas ux uk uv) = none := by unfold sayO; exact if_neg hb
        obtain ⟨q, hq⟩ : ∃ q, reqO op oq cas ux uk uv = q := ⟨_, rfl⟩
        have hrq' := fun W X2 cx2 K2 ck2 V2 cv2 r1 r2 r3 => hrq W X2 cx2 K2 ck2 V2 cv2 r1 r2 r3 q hq
        rw [hq] at hin hoq hcs hb hno h1 h2 h3 h4
        have hfr := fun W K4 V4 ck4 cv4 r1 r2 => pframe_N q hin hno K4 V4 0 ck4 0 cv4 W r1 r2 (by omega)
        have hco := fun W (K4 V4 : Option Addr) (ck4 cv4 : Nat) => code_bad q.op q.qt q.fu q.bd hb q.oq (.slice K4 0 ck4) (.slice V4 0 cv4) q.fl q.ex q.cs q.dl q.ni W
        unfold RQ.val at hfr
        unfold reqV at hfr hco
        rw [hoq] at hrq' hfr hco
        rw [h2, h3] at hrq'
        rcases h1 with h1 | h1 | h1
        · rw [h1] at hrq' hfr hco
          exact bad_129 mg op kl el ty st bl oq cas AX AK AV nx cx nk ck nv cv mx mk mv ux uk uv w q q.cs h4 hsh hrq' hco hfr
        · rw [h1] at hrq' hfr hco
          exact bad_4 mg op kl el ty st bl oq cas AX AK AV nx cx nk ck nv cv mx mk mv ux uk uv w q q.cs h4 hsh hrq' hco hfr
        · rw [h1] at hrq' hfr hco
          exact bad_3 mg op kl el ty st bl oq cas AX AK AV nx cx nk ck nv cv mx mk mv ux uk uv w q q.cs h4 hsh hrq' hco hfr
  · exact bad_no mg op kl el ty st bl oq cas AX AK AV nx cx nk ck nv cv mx mk mv ux uk uv w hsh (fun W X2 cx2 K2 ck2 V2 cv2 r1 r2 r3 => prequest_put mg op kl el ty st bl oq cas hf X2 K2 V2 mx cx2 mk ck2 mv cv2 hN ux uk uv W r1 r2 r3 hw)


set_option maxRecDepth 100000 in
theorem lifted_parseBad (os : Os) (started : os.Started) (H : Type) (enc : TypeId × Value → H) :
    ReturnsInHanded {} Try.checked os 14 .any (Rows.parseBadSpec.pre6 enc Try.prog Try.f14 Rows.parseBadRow.domain false) (Rows.parseBadSpec.post enc Try.prog Try.f14 false true false false) := by
  refine returnsInHanded_of_change_sized (C := Try.checked) own started (by kernel_rfl) Try.func14
    (ChangeSpec.witness6 (enc := enc) (C := Try.checked) false ⟨#[], #[.agg #[.int .u8 0, .int .u8 0, .int .u16 0, .int .u8 0, .int .u8 0, .int .u16 0, .int .u32 0, .int .u32 0, .int .u64 0, .slice none 0 0, .slice none 0 0, .slice none 0 0]], []⟩ 8 (by kernel_rfl) (by kernel_rfl) (by kernel_rfl) (by kernel_rfl)) ?_
  intro W base args ds gs before hval0 hW hcnd hsz0 _
  have hval : ∀ (j : Nat) t v, Try.f14.params[j]? = some t → args[j]? = some v → Value.okWide Try.prog W .any base t v := hval0
  have hsz : (DataW.weightsEach Try.prog (Try.f14.params.toList ++ Rows.parseBadSpec.plain.varTypes Try.prog) (ds ++ gs)).all (· ≤ reachBytes) = true := hsz0
  have hW' := hW
  obtain ⟨p, q, hA0, hV, rfl, hfz, hnd⟩ := hW
  have hA : DataW.TrodAll enc Try.prog W 0 (fun _ => true) true Try.f14.params.toList args.toList ds p := hA0
  rw [Try.params14] at hA hval hsz
  obtain ⟨v0, vs0, d0, ds0, p0, q0, hargs, rfl, rfl, h0, t0⟩ := trodAll_cons hA
  obtain ⟨rfl, rfl, rfl⟩ := trodAll_nil t0
  obtain rfl : args = #[v0] := by cases args; simp_all
  obtain ⟨rfl, rfl⟩ := trodVars_none hV
  have k0 := h0
  obtain ⟨mg0, op0, kl0, el0, ty0, st0, bl0, oq0, cas0, AX0, nx0, cx0, lx0, AK0, nk0, ck0, lk0, AV0, nv0, cv0, lv0, rfl, r0, y0⟩ := open_frame (hval 0 61 v0 rfl rfl) h0
  have s0 := y0 (weights_of hsz (j := 0) rfl rfl)
  clear hA0 hval0
  refine (walk_parseBad mg0 op0 kl0 el0 ty0 st0 bl0 oq0 cas0 AX0 nx0 cx0 lx0 AK0 nk0 ck0 lk0 AV0 nv0 cv0 lv0 W r0 s0).mono fun e W' ⟨he, bel⟩ => ?_
  subst he
  exact ⟨_, rfl, _, _, _, [], _, [], hW', trodAll_mk1 (shut_bool Try.underlying4 _), (trodAll_cons_mk (Below.trod laidOut (by kernel_rfl) (of_decide_eq_true (by kernel_rfl)) k0 bel (trod_places k0)) trodAll_mk0), rfl, bel.frame _, fun h => by cases h⟩

theorem closed_parseBad : joinedFacts Try.pinned.checked.prog 14 Try.f14 Rows.parseBadSpec Rows.parseBadRow = true := by
  unfold joinedFacts
  rw [clo_heard, clo_may, clo_lifts, clo_make]
  kernel_rfl
theorem over_parseBad : Rows.parseBadRow.holds Try.pinned (OpenSpec.ofChange Rows.parseBadSpec) :=
  OpenClaim.holds_of_wide 14 Try.f14 rfl rfl rfl rfl rfl rfl rfl ⟨rfl, rfl, rfl, rfl, rfl⟩ rfl rfl rfl rfl rfl (by kernel_rfl) Try.func14 closed_parseBad
    (of_decide_eq_true (by kernel_rfl)) (by unfold Func.isWrapper; first | (rw [if_pos (by decide +kernel)]; kernel_rfl) | (rw [if_neg (by decide +kernel)]; exact ⟨rfl, rfl⟩))
    (fun os started H enc _ => lifted_parseBad os started H enc)

/-- The statement. -/
theorem parseBad_holds : Rows.ParseBadSaid := over_parseBad
#print axioms parseBad_holds

end Go.Proofs.Ytnghmgbmflcngaa

/- ConnDoes: a connection does as the document says. Conditions: typed in each theorem. -/
import Derived.Test.YtnghmgbmflcngaaZrl
import Derived.Test.YtnghmgbmflcngaaWk22
import Derived.Test.YtnghmgbmflcngaaOpo
import Derived.Test.YtnghmgbmflcngaaClo
namespace Go.Proofs.Ytnghmgbmflcngaa
set_option linter.unusedVariables false
set_option linter.unusedSimpArgs false
open Go.ChangeShapes Go.WideShapes Go.ChangeAt Go.RowKit
theorem RO.step {w w' : World} {B gc gp gy n c on oc pc yc : Nat} {A OA PA YA : Option Addr} {l lo : List UInt8} {wv : Value} {wq : Option RQ} {rq : List Value} (h : RO w B gc gp gy n c on oc pc yc A OA PA YA l lo wv wq rq) (b : Below w.heap.size w w') : RO w' B gc gp gy n c on oc pc yc A OA PA YA l lo wv wq rq :=
  ⟨h.cn.step b, h.wt.kp (Kp.of_below b (fun _ => False)) (fun _ _ e => e.elim) (fun _ _ e => e), h.mb.step b, h.ny, h.rp.kp (Kp.of_below b (fun _ => False)) (fun _ _ e => e.elim) (fun _ _ e => e), h.ry.kp (Kp.of_below b (fun _ => False)) (fun _ _ e => e.elim) (fun _ _ e => e), h.mq.kp (Kp.of_below b (fun _ => False)) (fun _ _ e => e.elim) (fun _ _ e => e)⟩
theorem Rel.step {w w' : World} {B gc gy M : Nat} {P : Nat → Prop} (h : Rel B gc gy P M w) (b : Below w.heap.size w w') : Rel B gc gy P M w' := by
  rcases h with ⟨gp, n, c, on, oc, pc, yc, A, OA, PA, YA, l, lo, wv, wq, rq, h1, h2, h3, h4⟩ | ⟨on, oc, yc, OA, YA, lo, h1, h2, h3⟩
  · exact .inl ⟨gp, n, c, on, oc, pc, yc, A, OA, PA, YA, l, lo, wv, wq, rq, h1.step b, h2, h3, h4⟩
  · exact .inr ⟨on, oc, yc, OA, YA, lo, ⟨h1.cn.step b, h1.mb.step b, h1.ny, h1.ry.kp (Kp.of_below b (fun _ => False)) (fun _ _ e => e.elim) (fun _ _ e => e)⟩, h2, h3⟩
def OutZ (P : Nat → Prop) (w : World) (e : Ending) (w' : World) : Prop := (∃ A c, e = .returned (.slice A 0 c)) ∧ Kp w w' (fun k => ¬ P k)
theorem rel_out {w : World} {B gc gy : Nat} {P : Nat → Prop} (h : Rel B gc gy P 0 w) : Calls Try.prog 67 #[.pointer (some ⟨gc, 0, none⟩)] w (OutZ P w) := by
  rcases h with ⟨gp, n, c, on, oc, pc, yc, A, OA, PA, YA, l, lo, wv, wq, rq, h1, h2, h3, h4⟩ | ⟨on, oc, yc, OA, YA, lo, h1, h2, h3⟩
  · obtain rfl : on = 0 := by omega
    refine (cout_any B gc gp n c 0 oc A OA l lo wv wq w h1.cn).mono ?_
    rintro e w' ⟨rfl, -, -, g⟩
    exact ⟨⟨_, _, rfl⟩, (Kp.of_grown g).weak (fun k e => h2 k (Or.inl (Or.inl e)))⟩
  · obtain rfl : on = 0 := by omega
    refine (cout_closed B gc 0 oc OA lo w h1.cn).mono ?_
    rintro e w' ⟨rfl, -, -, g⟩
    exact ⟨⟨_, _, rfl⟩, (Kp.of_grown g).weak (fun k e => h2 k (Or.inl e))⟩
theorem RdN.of {w : World} {B : Nat} {P : Nat → Prop} {A : Option Addr} {n c : Nat} {l : List UInt8} (r : Rd w B A n c l) (hB : B ≤ w.heap.size) (hP : ∀ k, k < B → P k) : RdN w (fun k => ¬ P k) A n c l :=
  ⟨r.more hB, fun hn k hk => by
    cases A with
    | none => cases hk
    | some ad =>
      have hk : ad.block = k := Option.some.inj hk
      have h1 := r.2.2.2.2.1 ad rfl hn
      subst hk
      exact ⟨by omega, fun h => h (hP _ h1)⟩⟩
theorem RzN.of {w : World} {B z : Nat} {P : Nat → Prop} {A : Option Addr} {n c : Nat} {xs : List Value} (r : Rz w B z A n c xs) (hB : B ≤ w.heap.size) (hP : ∀ k, k < B → P k) : RzN w (fun k => ¬ P k) z A n c xs :=
  ⟨r.more hB, fun hn k hk => by
    cases A with
    | none => cases hk
    | some ad =>
      have hk : ad.block = k := Option.some.inj hk
      have h1 := r.2.2.2.2.1 ad rfl hn
      subst hk
      exact ⟨by omega, fun h => h (hP _ h1)⟩⟩
theorem OpD.Ok.opin {w : World} {B : Nat} {P : Nat → Prop} {o : OpD} (h : o.Ok w B) (hB : B ≤ w.heap.size) (hP : ∀ k, k < B → P k) (hb : o.bn ≤ 40000) : OpIn w P o.BA o.bn o.bc o.lb o.p o.K o.nk o.ck o.V o.nv o.cv o.VA o.nva o.cva o.lva o.af o.ac o.an o.SA o.ns o.sc o.SL :=
  ⟨RdN.of h.rb hB hP, RdN.of h.rk hB hP, RdN.of h.rv hB hP, RdN.of h.ra hB hP, RzN.of h.rS hB hP, by omega, h.sl, h.ns_, h.af_, h.ac_, h.an_⟩
def zop (k : Int) : OpD := ⟨k, none, 0, 0, [], zQ, none, 0, 0, none, 0, 0, 0, none, 0, 0, [], 0, 0, 0, none, 0, 0, [], false⟩
theorem zop_ok (k : Int) (w : World) (B : Nat) : (zop k).Ok w B := ⟨Rd.nil w B, Rd.nil w B, Rd.nil w B, Rd.nil w B, Rz.nil w B 2, rfl, by show (0 : Nat) < _; decide, by show (0 : Nat) < _; decide, by show (0 : Nat) < _; decide, Nat.zero_le _⟩
theorem Kp.low {w w' : World} {P : Nat → Prop} {B : Nat} (h : Kp w w' (fun k => ¬ P k)) (hP : ∀ k, k < B → P k) (hB : B ≤ w.heap.size) : Below B w w' := h.below (fun k e => Nat.le_of_not_lt (fun h => e (hP k h))) hB
set_option maxRecDepth 100000 in
set_option maxHeartbeats 8000000 in
theorem walk_connDoes (A : Option Addr) (n c : Nat) (os : List OpD) (w : World) (h : RowP w w.heap.size A n c os) (sh : ∀ o ∈ os, o.ns ≤ 9223372036854775800) :
    Calls Try.prog 19 #[.slice A n c] w fun e w' => e = .returned (.bool true) ∧ Below w.heap.size w w' := by
  have HRO : Hid (RowO w w.heap.size A n c os) := Lib.hid ⟨h.1, fun o ho => h.2.1 o ho (sh o ho), h.2.2⟩
  clear h sh
  go_enter Try.func19, Try.ntmps19
  go_wp2_with fail
  refine (wakes22 w).mono ?_
  rintro e w0 ⟨rfl, b0⟩
  go_wp2_with fail
  refine (cnew_any w0).mono ?_
  rintro e w1 ⟨gc, rfl, cn, b1⟩
  have k4 := Blk.new w1 #[.slice none 0 0, .bool false, .bool false, .int .i64 0, .bool false, .bool false, .int .i64 0, .int .u32 0, .slice none 0 0, .slice none 0 0, .int .u32 0, .int .u32 0, .int .u64 0, .int .u64 0, .int .u64 0, .slice none 0 0, .bool false] 106
  have ba := below_a1' (Below.refl w1.heap.size w1) (.cells #[.slice none 0 0, .bool false, .bool false, .int .i64 0, .bool false, .bool false, .int .i64 0, .int .u32 0, .slice none 0 0, .slice none 0 0, .int .u32 0, .int .u32 0, .int .u64 0, .int .u64 0, .int .u64 0, .slice none 0 0, .bool false] 106)
  go_wp2_with (first | refine wpl_stM (PA := none) (pn := 0) (pc := 0) (br := false) (wt := false) (rq := zrq) (OY := none) (yn := 0) (yc := 0) (cl := false) (old := [.slice none 0 0, .bool false, .bool false, .int .i64 0, .bool false, .bool false, .int .i64 0, .int .u32 0, .slice none 0 0, .slice none 0 0, .int .u32 0, .int .u32 0, .int .u64 0, .int .u64 0, .int .u64 0, .slice none 0 0, .bool false]) rfl _ _ rfl w1.heap.size rfl rfl zrq12 k4 rfl ?_)
  intro w2 ky g4
  have b2 := ba.trans (below_grown g4 (Nat.le_refl _) k4.lt)
  have b02 := below_step (below_step b0 b1) b2
  clear ba g4 k4
  go_wp2_with fail
  refine (ofw_any w.heap.size A n c os w2 b02.size (HRO.out.below b02)).mono ?_
  rintro e w3 ⟨OA, m, oc, ls, rfl, hls, hm80, hO, hall, b3⟩
  have hgc := cn.fp gc (Or.inl rfl)
  have hgp := cn.fp _ (Or.inr (Or.inl rfl))
  have hs0 := b0.size
  have hs2 := b2.size
  have hs3 := b3.size
  have hky := ky.lt
  have hO2 := hO.at'
  have b03 := below_step b02 b3
  have hny : ¬ FP gc w0.heap.size none none w1.heap.size := by
    intro e
    rcases e with e | e | e | e
    · omega
    · omega
    · cases e
    · cases e
  obtain ⟨P, hP0, hPw, hPG, hPO⟩ : ∃ P : Nat → Prop, (∀ k, k < w.heap.size → P k) ∧ (∀ k, P k → k < w3.heap.size) ∧ (∀ k, GF gc w0.heap.size w1.heap.size none none k → ¬ P k) ∧ (∀ k, obk OA = some k → P k) := by
    refine ⟨fun k => k < w.heap.size ∨ obk OA = some k, fun k h => Or.inl h, fun k h => ?_, fun k h1 h2 => ?_, fun k h => Or.inr h⟩
    · rcases h with h | h
      · have := b03.size; omega
      · exact (hO2 k (by rw [obk_eq]; exact h)).2
    · have hk : w0.heap.size ≤ k ∧ k ≤ w1.heap.size := by
        rcases h1 with (e | e | e | e) | e
        · omega
        · omega
        · cases e
        · cases e
        · omega
      rcases h2 with h2 | h2
      · omega
      · have := (hO2 k (by rw [obk_eq]; exact h2)).1; omega
  have hr3 : Rel w0.heap.size gc w1.heap.size P (20000 * 0) w3 := Or.inl ⟨w0.heap.size, 0, 0, 0, 0, 0, 0, none, none, none, none, [], [], .pointer none, none, zrq, ⟨(cn.step b2).step b3, rfl, ky.step b3, hny, RdF.none0 _ _, RdF.none0 _ _, MQ.no _ _⟩, hPG, Nat.zero_le _, by omega⟩
  have HROW : Hid (RzN w3 (fun k => ¬ P k) 21 OA m oc (ls.map OpD.cells).flatten) := Lib.hid ⟨hO.rz, fun _ k hk => ⟨hPw k (hPO k hk), fun hn => hn (hPO k hk)⟩⟩
  have HALL := Lib.hid hall
  have HL := Lib.hid (And.intro hls hm80)
  have HP0 := Lib.hid hP0
  have HPW := Lib.hid hPw
  have HB03 := Lib.hid b03
  clear hgc hgp hs0 hs2 hs3 hky hO2 b03 hny hP0 hPw hPG hPO hall hls hm80 hO b0 b1 b2 b02 b3 cn ky HRO
  generalize w0.heap.size = B at hr3 ⊢
  generalize w1.heap.size = gy at hr3 ⊢
  go_wp2_with fail
  go_loopw [6, 14] (fun _ i wr => ∃ j : Nat, j ≤ m ∧ i = .int .i64 (j : Nat) ∧ Rel B gc gy P (20000 * j) wr ∧ Kp w3 wr (fun k => ¬ P k)) (fun _ i _ => m - (intOf i).toNat)
  case atStart => exact ⟨0, Nat.zero_le _, rfl, hr3, Kp.refl _ _⟩
  case round =>
    clear hr3
    obtain ⟨j, hj, rfl, hr, hk⟩ := hrel
    have hPr : ∀ k, P k → k < wr.heap.size := fun k h => by have := HPW.out k h; have := hk.size; omega
    have hBr : w.heap.size ≤ wr.heap.size := by have := HB03.out.size; have := hk.size; omega
    by_cases hlt : j < m
    · have rN := HROW.out.kp hk (fun _ _ e => e) (fun _ _ e => e)
      obtain ⟨ad, o, hA, -, hmem, hab, hc⟩ := rowO_at rN.1 HL.out.1.symm hlt
      subst hA
      have ok := (HALL.out o hmem).1.below (hk.low HP0.out HB03.out.size)
      have hob := (HALL.out o hmem).2
      have hlt' : ((j : Int) < (m : Int)) = True := eq_true (by omega)
      have HLT : Hid (j + 1 ≤ m) := Lib.hid (by omega)
      have HJP : IntKind.i64.wrap ((j : Int) + 1) = (j : Int) + 1 := IntWalk.i64_in _ (by have := HL.out.2; omega)
      have hj80 : j ≤ 80 := by have := HL.out.2; omega
      clear hlt hmem hab rN hj
      have k5 := Blk.new wr #[.int .i64 0, .slice none 0 0, .int .i64 0, .bool false, .bool false, .int .i64 0, .int .u32 0, .slice none 0 0, .slice none 0 0, .int .u32 0, .int .u32 0, .int .u64 0, .int .u64 0, .int .u64 0, .int .i64 0, .slice none 0 0, .int .u32 0, .int .u64 0, .int .u64 0, .slice none 0 0, .bool false] 109
      have ba := below_a1' (Below.refl wr.heap.size wr) (.cells #[.int .i64 0, .slice none 0 0, .int .i64 0, .bool false, .bool false, .int .i64 0, .int .u32 0, .slice none 0 0, .slice none 0 0, .int .u32 0, .int .u32 0, .int .u64 0, .int .u64 0, .int .u64 0, .int .i64 0, .slice none 0 0, .int .u32 0, .int .u64 0, .int .u64 0, .slice none 0 0, .bool false] 109)
      go_upto_region 8 with (first | refine wpl_loadO rfl _ rfl (ad.add (j * 21)) (by rfl) o.cells rfl hc ?_ | refine wpl_stO rfl _ _ rfl wr.heap.size rfl o.cells rfl rfl o.one (old := [.int .i64 0, .slice none 0 0, .int .i64 0, .bool false, .bool false, .int .i64 0, .int .u32 0, .slice none 0 0, .slice none 0 0, .int .u32 0, .int .u32 0, .int .u64 0, .int .u64 0, .int .u64 0, .int .i64 0, .slice none 0 0, .int .u32 0, .int .u64 0, .int .u64 0, .slice none 0 0, .bool false]) k5 rfl ?_)
      intro W2 k6 g5
      have bz := ba.trans (below_grown g5 (Nat.le_refl _) k5.lt)
      have HD : Hid (Calls Try.prog 72 #[.pointer (some ⟨gc, 0, none⟩), .pointer (some ⟨gy, 0, none⟩), .agg o.cells.toArray] W2 (DoesQ B gc gy P (20000 * j) o.k W2)) := Lib.hid (does_any (hr.step bz) (fun k h => by have := hPr k h; have := bz.size; omega) (by omega) o.k o.st o.acl ((ok.below (bz.mono hBr)).opin (Nat.le_trans hBr bz.size) HP0.out hob))
      have HK2 := Lib.hid (hk.after (Kp.of_below bz (fun k => ¬ P k)) (fun _ _ e => e))
      clear ba g5 k5 hc bz hr hk ok hob hPr hBr hj80
      go_wp2_with (first | refine wpl_ldO rfl _ rfl wr.heap.size rfl k6 (OpD.len _) ?_)
      refine HD.out.mono ?_
      rintro e W3 ⟨rfl, hr3, hk3, -⟩
      have HN := Lib.hid (And.intro hr3 (HK2.out.after hk3 (fun _ _ e => e)))
      clear hr3 hk3 k6 HD
      go_wp2_with fail
      go_roundw
      case rel => exact ⟨j + 1, HLT.out, by first | rfl | go_num, HN.out.1, HN.out.2⟩
      case measure => have := HLT.out; simp [intOf]; omega
    · have hjm : j = m := by omega
      have hlt' : ((j : Int) < (m : Int)) = False := eq_false (by omega)
      have hM : 20000 * j + 60000 ≤ 90000000000 := by have := HL.out.2; omega
      have HM := Lib.hid hM
      have k7 : kdI 7 = 4 := rfl
      have HDZ : Hid (∀ (k : Int) M W, Rel B gc gy P M W → Kp w3 W (fun k => ¬ P k) → M ≤ 90000000000 → Calls Try.prog 72 #[.pointer (some ⟨gc, 0, none⟩), .pointer (some ⟨gy, 0, none⟩), .agg #[.int .i64 k, .slice none 0 0, .int .i64 0, .bool false, .bool false, .int .i64 0, .int .u32 0, .slice none 0 0, .slice none 0 0, .int .u32 0, .int .u32 0, .int .u64 0, .int .u64 0, .int .u64 0, .int .i64 0, .slice none 0 0, .int .u32 0, .int .u64 0, .int .u64 0, .slice none 0 0, .bool false]] W (DoesQ B gc gy P M k W)) := Lib.hid (fun k M W h hk hM => does_any (p := zQ) h (fun x hx => by have := HPW.out x hx; have := hk.size; omega) hM k 0 false ((zop_ok k W 0).opin (Nat.zero_le _) (fun _ h => absurd h (by omega)) (Nat.zero_le _)))
      clear hlt hPr hBr hj hM
      have HKK := Lib.hid hk
      go_wp2_with fail
      refine (HDZ.out 7 _ wr hr hk (by have := HM.out; omega)).mono ?_
      rintro e W1 ⟨rfl, hr1, hk1, -⟩
      replace hk1 := hk.after hk1 (fun _ _ e => e)
      clear hr hk
      go_wp2_with fail
      refine (HDZ.out 2 _ W1 hr1 hk1 (by have := HM.out; omega)).mono ?_
      rintro e W2 ⟨rfl, hr2, hk2, -⟩
      replace hk2 := hk1.after hk2 (fun _ _ e => e)
      clear hr1 hk1
      go_wp2_with fail
      refine (HDZ.out 7 _ W2 hr2 hk2 (by have := HM.out; omega)).mono ?_
      rintro e W3 ⟨rfl, -, hk3, hr3⟩
      replace hk3 := hk2.after hk3 (fun _ _ e => e)
      replace hr3 := hr3 k7
      clear hr2 hk2
      go_wp2_with fail
      refine (rel_out hr3).mono ?_
      rintro e W4 ⟨⟨A9, c9, rfl⟩, hk4⟩
      have HQ := Lib.hid (HB03.out.trans ((hk3.after hk4 (fun _ _ e => e)).low HP0.out HB03.out.size))
      clear hr3 hk3 hk4
      go_wp2_with fail
      go_ret
      exact ⟨rfl, HQ.out⟩
set_option maxRecDepth 100000 in
theorem lifted_connDoes (os : Os) (started : os.Started) (H : Type) (enc : TypeId × Value → H) :
    ReturnsInHanded {} Try.checked os 19 .any (Rows.connDoesSpec.pre6 enc Try.prog Try.f19 Rows.connDoesRow.domain false) (Rows.connDoesSpec.post enc Try.prog Try.f19 false true false false) := by
  refine returnsInHanded_of_change_sized (C := Try.checked) own started (by kernel_rfl) Try.func19
    (ChangeSpec.witness6 (enc := enc) (C := Try.checked) false ⟨#[], #[.slice none 0 0], []⟩ 8 (by kernel_rfl) (by kernel_rfl) (by kernel_rfl) (by kernel_rfl)) ?_
  intro W base args ds gs before hval0 hW hcnd hsz0 _
  have hval : ∀ (j : Nat) t v, Try.f19.params[j]? = some t → args[j]? = some v → Value.okWide Try.prog W .any base t v := hval0
  have hsz : (DataW.weightsEach Try.prog (Try.f19.params.toList ++ Rows.connDoesSpec.plain.varTypes Try.prog) (ds ++ gs)).all (· ≤ reachBytes) = true := hsz0
  have hW' := hW
  obtain ⟨p, q, hA0, hV, rfl, hfz, hnd⟩ := hW
  have hA : DataW.TrodAll enc Try.prog W 0 (fun _ => true) true Try.f19.params.toList args.toList ds p := hA0
  rw [Try.params19] at hA hval hsz
  obtain ⟨v0, vs0, d0, ds0, p0, q0, hargs, rfl, rfl, h0, t0⟩ := trodAll_cons hA
  obtain ⟨rfl, rfl, rfl⟩ := trodAll_nil t0
  obtain rfl : args = #[v0] := by cases args; simp_all
  obtain ⟨rfl, rfl⟩ := trodVars_none hV
  have k0 := h0
  obtain ⟨A0, n0, c0, os0, rfl, r0, y0⟩ := open_ops (hval 0 104 v0 rfl rfl) h0
  have s0 := y0 (weights_of hsz (j := 0) rfl rfl)
  clear hA0 hval0
  refine (walk_connDoes A0 n0 c0 os0 W r0 s0).mono fun e W' ⟨he, bel⟩ => ?_
  subst he
  exact ⟨_, rfl, _, _, _, [], _, [], hW', trodAll_mk1 (shut_bool Try.underlying4 _), (trodAll_cons_mk (Below.trod laidOut (by kernel_rfl) (of_decide_eq_true (by kernel_rfl)) k0 bel (trod_places k0)) trodAll_mk0), rfl, bel.frame _, fun h => by cases h⟩
theorem closed_connDoes : joinedFacts Try.pinned.checked.prog 19 Try.f19 Rows.connDoesSpec Rows.connDoesRow = true := by
  unfold joinedFacts
  rw [clo_heard, clo_may, clo_lifts, clo_make]
  kernel_rfl
theorem over_connDoes : Rows.connDoesRow.holds Try.pinned (OpenSpec.ofChange Rows.connDoesSpec) :=
  OpenClaim.holds_of_wide 19 Try.f19 rfl rfl rfl rfl rfl rfl rfl ⟨rfl, rfl, rfl, rfl, rfl⟩ rfl rfl rfl rfl rfl (by kernel_rfl) Try.func19 closed_connDoes
    (of_decide_eq_true (by kernel_rfl)) (by unfold Func.isWrapper; first | (rw [if_pos (by decide +kernel)]; kernel_rfl) | (rw [if_neg (by decide +kernel)]; exact ⟨rfl, rfl⟩))
    (fun os started H enc _ => lifted_connDoes os started H enc)
theorem connDoes_holds : Rows.ConnDoesSaid := over_connDoes
#print axioms connDoes_holds
end Go.Proofs.Ytnghmgbmflcngaa

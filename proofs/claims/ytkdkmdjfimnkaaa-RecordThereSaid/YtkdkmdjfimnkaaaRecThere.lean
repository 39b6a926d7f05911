/- RecordThere: what is decoded, encoded, is the bytes that it had, whatever bytes. Conditions: those of the given row alone. -/
import Derived.Test.YtkdkmdjfimnkaaaRej
namespace Go.Proofs.Ytkdkmdjfimnkaaa
set_option linter.unusedVariables false
open Go.RowKit Go.ChangeShapes Go.WideShapes Go.ChangeAt

theorem eqB_rfl (l : List UInt8) : eqB l l = true := decide_eq_true rfl
def ThereQ (w : World) (e : Ending) (w' : World) : Prop := e = .returned (.bool true) ∧ Below w.heap.size w w'
set_option maxRecDepth 20000 in
set_option maxHeartbeats 4000000 in
theorem there_9 (A : Option Addr) (n c : Nat) (l : List UInt8) (w : World) (r : Rd w w.heap.size A n c l)
    (hD : ∀ W, Rd W W.heap.size A (min n 1200) c (l.take (min n 1200)) → Calls Try.prog 15 #[.slice A (min n 1200) c] W (DecNo 9 W)) :
    Calls Try.prog 4 #[.slice A n c] w (ThereQ w) := by
  have HD := Lib.hid hD
  have rb := rd_pre r (Nat.min_le_left n 1200)
  have hcap := r.cap
  clear hD
  go_enter Try.func4, Try.ntmps4
  go_wp2_with fail
  refine (wakes06 _).mono ?_
  rintro e w1 ⟨rfl, b⟩
  go_upto_region 3 with fail
  go_cut [0] (fun s wx => s = .slice A (min n 1200) c ∧ w1 = wx)
  case first =>
    by_cases h9 : n ≤ 1200
    · have hmn := Lib.hid (Nat.min_eq_left h9)
      go_wp2_with fail
      all_goals
        go_meet
        exact ⟨by rw [hmn.out], rfl⟩
    · have hmn := Lib.hid (Nat.min_eq_right (show 1200 ≤ n by omega))
      go_wp2_with fail
      all_goals
        go_meet
        exact ⟨by rw [hmn.out], rfl⟩
  case rest =>
    obtain ⟨rfl, rfl⟩ := hcut
    clear hcap
    go_wp2_with fail
    refine (HD.out _ ((rb.below b).more b.size)).mono ?_
    rintro e w2 ⟨rfl, b2⟩
    replace b := below_step b b2
    unfold zeroRec
    have k0 := Blk.new w2 #[.int .i64 0, .int .u32 0, .int .u32 0, .int .u64 0, .slice none 0 0, .slice none 0 0] 26
    obtain ⟨q0, q1, q2, q3, q4, q5⟩ := box6 k0
    go_wp2_with fail
    go_ret
    exact ⟨rfl, below_a1' b _⟩
set_option maxRecDepth 20000 in
set_option maxHeartbeats 4000000 in
theorem there_160 (A : Option Addr) (n c : Nat) (l : List UInt8) (w : World) (r : Rd w w.heap.size A n c l)
    (hD : ∀ W, Rd W W.heap.size A (min n 1200) c (l.take (min n 1200)) → Calls Try.prog 15 #[.slice A (min n 1200) c] W (DecNo 160 W)) :
    Calls Try.prog 4 #[.slice A n c] w (ThereQ w) := by
  have HD := Lib.hid hD
  have rb := rd_pre r (Nat.min_le_left n 1200)
  have hcap := r.cap
  clear hD
  go_enter Try.func4, Try.ntmps4
  go_wp2_with fail
  refine (wakes06 _).mono ?_
  rintro e w1 ⟨rfl, b⟩
  go_upto_region 3 with fail
  go_cut [0] (fun s wx => s = .slice A (min n 1200) c ∧ w1 = wx)
  case first =>
    by_cases h9 : n ≤ 1200
    · have hmn := Lib.hid (Nat.min_eq_left h9)
      go_wp2_with fail
      all_goals
        go_meet
        exact ⟨by rw [hmn.out], rfl⟩
    · have hmn := Lib.hid (Nat.min_eq_right (show 1200 ≤ n by omega))
      go_wp2_with fail
      all_goals
        go_meet
        exact ⟨by rw [hmn.out], rfl⟩
  case rest =>
    obtain ⟨rfl, rfl⟩ := hcut
    clear hcap
    go_wp2_with fail
    refine (HD.out _ ((rb.below b).more b.size)).mono ?_
    rintro e w2 ⟨rfl, b2⟩
    replace b := below_step b b2
    unfold zeroRec
    have k0 := Blk.new w2 #[.int .i64 0, .int .u32 0, .int .u32 0, .int .u64 0, .slice none 0 0, .slice none 0 0] 26
    obtain ⟨q0, q1, q2, q3, q4, q5⟩ := box6 k0
    go_wp2_with fail
    go_ret
    exact ⟨rfl, below_a1' b _⟩
set_option maxRecDepth 20000 in
set_option maxHeartbeats 4000000 in
theorem there_ok (A : Option Addr) (n c : Nat) (l : List UInt8) (w : World) (r : Rd w w.heap.size A n c l) (kd fl ex sq k v : Nat) (lk lv lN : List UInt8) (hk : k < 65536) (hv : v < 65536) (hN : 21 + k + v ≤ min n 1200)
    (hD : ∀ W, Rd W W.heap.size A (min n 1200) c (l.take (min n 1200)) → Calls Try.prog 15 #[.slice A (min n 1200) c] W fun e w' => ∃ K ck V cv, e = .returned (.tuple #[recV (kd : Nat) fl ex sq (.slice K k ck) (.slice V v cv), .int .i64 (21 + (k : Nat) + (v : Nat)), .int .i64 0]) ∧ Own w' W.heap.size K k ck lk ∧ Own w' W.heap.size V v cv lv ∧ Below W.heap.size W w')
    (hE : ∀ K ck V cv W, Rd W W.heap.size K k ck lk → Rd W W.heap.size V v cv lv → Calls Try.prog 16 #[recV (kd : Nat) fl ex sq (.slice K k ck) (.slice V v cv)] W (EncQ (21 + k + v) lN W))
    (hC : ∀ K ck V cv W, Calls Try.prog 18 #[recV (kd : Nat) fl ex sq (.slice K k ck) (.slice V v cv)] W fun e w' => e = .returned (.int .i64 0) ∧ Below W.heap.size W w')
    (hl : (l.take (min n 1200)).take (21 + k + v) = lN) :
    Calls Try.prog 4 #[.slice A n c] w (ThereQ w) := by
  have HD := Lib.hid hD
  have HE := Lib.hid hE
  have HC := Lib.hid hC
  have rb := rd_pre r (Nat.min_le_left n 1200)
  have hcap := r.cap
  have hm1 : (21 : Int) + (k : Int) + (v : Int) ≤ ((min n 1200 : Nat) : Int) := by omega
  obtain ⟨S, cs, HS, hS⟩ := slc_h rb (21 + k + v) (21 + (k : Int) + (v : Int)) (by omega) hN
  rw [hl] at hS
  have HR := Lib.hid hS
  have HL := Lib.hid hl
  clear hD hE hC hS hl hN
  go_enter Try.func4, Try.ntmps4
  go_wp2_with fail
  refine (wakes06 _).mono ?_
  rintro e w1 ⟨rfl, b⟩
  go_upto_region 3 with fail
  go_cut [0] (fun s wx => s = .slice A (min n 1200) c ∧ w1 = wx)
  case first =>
    by_cases h9 : n ≤ 1200
    · have hmn := Lib.hid (Nat.min_eq_left h9)
      go_wp2_with fail
      all_goals
        go_meet
        exact ⟨by rw [hmn.out], rfl⟩
    · have hmn := Lib.hid (Nat.min_eq_right (show 1200 ≤ n by omega))
      go_wp2_with fail
      all_goals
        go_meet
        exact ⟨by rw [hmn.out], rfl⟩
  case rest =>
    obtain ⟨rfl, rfl⟩ := hcut
    clear hcap
    generalize min n 1200 = m at rb HS HD HR hm1 ⊢
    go_wp2_with fail
    refine (HD.out _ ((rb.below b).more b.size)).mono ?_
    rintro e w2 ⟨K, ck, V, cv, rfl, oK, oV, b2⟩
    replace b := below_step b b2
    have ba := below_a1' (Below.refl w2.heap.size w2) (.cells #[.int .i64 (kd : Nat), .int .u32 (fl : Nat), .int .u32 (ex : Nat), .int .u64 (sq : Nat), .slice K k ck, .slice V v cv] 26)
    have k0 := Blk.new w2 #[.int .i64 (kd : Nat), .int .u32 (fl : Nat), .int .u32 (ex : Nat), .int .u64 (sq : Nat), .slice K k ck, .slice V v cv] 26
    replace b := below_step b ba
    have HEW := Lib.hid (HE.out K ck V cv _ ((oK.rd.below ba).more ba.size) ((oV.rd.below ba).more ba.size))
    have HCW := Lib.hid (HC.out K ck V cv)
    unfold recV at HEW HCW ⊢
    clear HD HE HC oK oV b2 ba
    go_wp2_with fail
    refine HEW.out.mono ?_
    rintro e w3 ⟨C, cc, rfl, oC, b3⟩
    replace b := below_step b b3
    replace k0 := k0.step b3
    have rS := HR.out _ _ (rb.below b)
    have HB := Lib.hid (bequal_gen C S (21 + k + v) cc (21 + k + v) cs _ _ lN lN w3 oC.rd rS)
    rw [eqB_rfl] at HB
    obtain ⟨q0, q1, q2, q3, q4, q5⟩ := box6 k0
    clear HEW oC rS b3 k0
    go_wp2_with fail
    refine HB.out.mono ?_
    rintro e w4 ⟨rfl, hw⟩
    subst hw
    go_wp2_with fail
    refine (HCW.out _).mono ?_
    rintro e w5 ⟨rfl, b5⟩
    replace b := below_step b b5
    go_wp2_with fail
    go_ret
    exact ⟨rfl, b⟩
theorem walk_recordThere (A : Option Addr) (n c : Nat) (l : List UInt8) (w : World) (r : Rd w w.heap.size A n c l) (hc : c ≤ 140737488351232) :
    Calls Try.prog 4 #[.slice A n c] w fun e w' => e = .returned (.bool true) ∧ Below w.heap.size w w' := by
  have hm2 : min n 1200 ≤ 281474976710656 := by have := Nat.min_le_right n 1200; omega
  have hlen : (l.take (min n 1200)).length = min n 1200 := (rd_pre r (Nat.min_le_left n 1200)).len
  rcases headE_cases (l.take (min n 1200)) with he | he | he
  · by_cases hs : 21 + fld (l.take (min n 1200)) 17 2 + fld (l.take (min n 1200)) 19 2 ≤ min n 1200
    · obtain ⟨h21, hr⟩ := head_0 he
      have hl := recB_take (l := l.take (min n 1200)) (by rw [hlen]; exact hs)
      refine there_ok A n c l w r _ _ _ _ _ _ _ _ _ (fld_lt _ 17 2) (fld_lt _ 19 2) hs (fun W rW => dec_ok A (min n 1200) c _ W rW hm2 he hs)
        (fun K ck V cv W r1 r2 => enc_ok _ _ _ _ (fld_lt _ 0 1) (fld_lt _ 1 4) (fld_lt _ 5 4) (fld_lt _ 9 8) K V _ ck _ cv _ _ W r1 r2 hr) (fun K ck V cv W => ?_) hl.symm
      have := check_any (fld (l.take (min n 1200)) 0 1 : Nat) (fld (l.take (min n 1200)) 1 4) (fld (l.take (min n 1200)) 5 4) (fld (l.take (min n 1200)) 9 8) K V (fld (l.take (min n 1200)) 17 2) ck (fld (l.take (min n 1200)) 19 2) cv W
      rw [checkR_yes hr] at this
      exact this
    · exact there_9 A n c l w r fun W rW => dec_short A (min n 1200) c _ W rW hm2 he (by omega)
  · refine there_9 A n c l w r fun W rW => ?_
    have := dec_no A (min n 1200) c _ W rW hm2 (by rw [he]; decide)
    rwa [he] at this
  · refine there_160 A n c l w r fun W rW => ?_
    have := dec_no A (min n 1200) c _ W rW hm2 (by rw [he]; decide)
    rwa [he] at this


set_option maxRecDepth 100000 in
theorem lifted_recordThere (os : Os) (started : os.Started) (H : Type) (enc : TypeId × Value → H) :
    ReturnsInHanded {} Try.checked os 4 .any (Rows.recordThereSpec.pre6 enc Try.prog Try.f4 Rows.recordThereRow.domain false) (Rows.recordThereSpec.post enc Try.prog Try.f4 false true false false) := by
  refine returnsInHanded_of_change_sized (C := Try.checked) own started (by kernel_rfl) Try.func4
    (ChangeSpec.witness6 (enc := enc) (C := Try.checked) false ⟨#[], #[.slice none 0 0], []⟩ 8 (by kernel_rfl) (by kernel_rfl) (by kernel_rfl) (by kernel_rfl)) ?_
  intro W base args ds gs before hval0 hW hcnd hsz0 _
  have hval : ∀ (j : Nat) t v, Try.f4.params[j]? = some t → args[j]? = some v → Value.okWide Try.prog W .any base t v := hval0
  have hsz : (DataW.weightsEach Try.prog (Try.f4.params.toList ++ Rows.recordThereSpec.plain.varTypes Try.prog) (ds ++ gs)).all (· ≤ reachBytes) = true := hsz0
  have hW' := hW
  obtain ⟨p, q, hA0, hV, rfl, hfz, hnd⟩ := hW
  have hA : DataW.TrodAll enc Try.prog W 0 (fun _ => true) true Try.f4.params.toList args.toList ds p := hA0
  rw [Try.params4] at hA hval hsz
  obtain ⟨v0, vs0, d0, ds0, p0, q0, hargs, rfl, rfl, h0, t0⟩ := trodAll_cons hA
  obtain ⟨rfl, rfl, rfl⟩ := trodAll_nil t0
  obtain rfl : args = #[v0] := by cases args; simp_all
  obtain ⟨rfl, rfl⟩ := trodVars_none hV
  have k0 := h0
  obtain ⟨A0, n0, c0, l0, rfl, r0, y0⟩ := open_bytes (hval 0 24 v0 rfl rfl) h0
  have s0 := y0 (weights_of hsz (j := 0) rfl rfl)
  clear hA0 hval0
  refine (walk_recordThere A0 n0 c0 l0 W r0 s0).mono fun e W' ⟨he, bel⟩ => ?_
  subst he
  exact ⟨_, rfl, _, _, _, [], _, [], hW', trodAll_mk1 (shut_bool Try.underlying4 _), (trodAll_cons_mk (Below.trod laidOut (by kernel_rfl) (of_decide_eq_true (by kernel_rfl)) k0 bel (trod_places k0)) trodAll_mk0), rfl, bel.frame _, fun h => by cases h⟩

theorem over_recordThere : Rows.recordThereRow.holds Try.pinned (OpenSpec.ofChange Rows.recordThereSpec) :=
  OpenClaim.holds_of_wide 4 Try.f4 rfl rfl rfl rfl rfl rfl rfl ⟨rfl, rfl, rfl, rfl, rfl⟩ rfl rfl rfl rfl rfl (by kernel_rfl) Try.func4 (by kernel_rfl)
    (of_decide_eq_true (by kernel_rfl)) (by unfold Func.isWrapper; first | (rw [if_pos (by decide +kernel)]; kernel_rfl) | (rw [if_neg (by decide +kernel)]; exact ⟨rfl, rfl⟩))
    (fun os started H enc _ => lifted_recordThere os started H enc)

/-- The statement. -/
theorem recordThere_holds : Rows.RecordThereSaid := over_recordThere
#print axioms recordThere_holds

end Go.Proofs.Ytkdkmdjfimnkaaa

/- OctetBack: whatever numbers were put are read as the same, and nothing is left. Conditions: none. -/
import Derived.Test.YtbofnmlddpbfeaaWake01
import Derived.Test.YtbofnmlddpbfeaaOpen
namespace Go.Proofs.Ytbofnmlddpbfeaa
set_option linter.unusedVariables false
open Go.ChangeShapes Go.WideShapes Go.ChangeAt Go.RowKit

/-- The bytes of number k. -/
def encB (k x : Nat) : List UInt8 := if k % 3 = 0 then highB x 8 else if k % 3 = 1 then highB (x % 4294967296) 4 else highB (x % 65536) 2
def encTo (xs : List Nat) : Nat → List UInt8
  | 0 => []
  | k + 1 => encTo xs k ++ encB k (xs.getD k 0)
theorem encTo_succ (xs : List Nat) (k : Nat) : encTo xs (k + 1) = encTo xs k ++ encB k (xs.getD k 0) := rfl
theorem encTo_pre (xs : List Nat) (k d : Nat) : ∃ r, encTo xs (k + d) = encTo xs k ++ r := by
  induction d with
  | zero => exact ⟨[], by simp⟩
  | succ d ih =>
    obtain ⟨r, hr⟩ := ih
    exact ⟨r ++ encB (k + d) (xs.getD (k + d) 0), by rw [← Nat.add_assoc, encTo_succ, hr, List.append_assoc]⟩
theorem encB_length (k x : Nat) : (encB k x).length = if k % 3 = 0 then 8 else if k % 3 = 1 then 4 else 2 := by
  unfold encB
  split
  · exact length_highB _ _
  · split <;> exact length_highB _ _
theorem encTo_length (xs : List Nat) : ∀ k, 3 * (encTo xs k).length ≤ 14 * k + (if k % 3 = 0 then 0 else if k % 3 = 1 then 10 else 8)
  | 0 => by simp [encTo]
  | k + 1 => by
    have ih := encTo_length xs k
    rw [encTo_succ, List.length_append, encB_length]
    have : k % 3 = 0 ∨ k % 3 = 1 ∨ k % 3 = 2 := by omega
    rcases this with h | h | h
    · rw [if_pos h] at ih; rw [if_pos h, if_neg (by omega), if_pos (by omega)]; omega
    · rw [if_neg (by omega), if_pos h] at ih; rw [if_neg (by omega), if_pos h, if_neg (by omega), if_neg (by omega)]; omega
    · rw [if_neg (by omega), if_neg (by omega)] at ih; rw [if_neg (by omega), if_neg (by omega), if_pos (by omega)]; omega
theorem encTo_at (xs : List Nat) (tail : List UInt8) {k n : Nat} (hk : k < n) : ((encTo xs n ++ tail).drop (encTo xs k).length).take (encB k (xs.getD k 0)).length = encB k (xs.getD k 0) := by
  obtain ⟨r, hr⟩ := encTo_pre xs (k + 1) (n - (k + 1))
  rw [show k + 1 + (n - (k + 1)) = n from by omega] at hr
  rw [hr, encTo_succ, List.append_assoc, List.append_assoc, List.drop_left, List.take_left]

theorem take_ok {l : List UInt8} {at_ m : Nat} (h : at_ + m ≤ l.length) : takeR l at_ 0 m = ((l.drop at_).take m, at_ + m, 0) := by
  unfold takeR
  rw [if_neg (by omega), if_neg (by omega), if_neg (by omega)]; simp
theorem cus_get? {k : IntKind} {l : List Nat} {i : Nat} {u : Value} (h : (cus k l)[i]? = some u) : ∃ x, l[i]? = some x ∧ u = .int k (x : Int) := by
  unfold cus at h
  rw [List.getElem?_map] at h
  obtain ⟨x, hx, rfl⟩ := Option.map_eq_some_iff.1 h
  exact ⟨x, hx, rfl⟩
theorem getD_of {l : List Nat} {i x : Nat} (h : l[i]? = some x) : l.getD i 0 = x := by rw [List.getD_eq_getElem?_getD, h]; rfl

theorem read_enc {xs : List Nat} {tail : List UInt8} {k n y m : Nat} {mm : Int} (hk : k < n) (he : encB k (xs.getD k 0) = highB y m) (hy : y < 256 ^ m) (hm : m ≤ 8) (hmm : mm = (m : Int)) :
    takeR (encTo xs n ++ tail) (encTo xs k).length 0 mm = (highB y m, (encTo xs (k + 1)).length, 0) ∧ numQ (highB y m) = y := by
  subst hmm
  have h1 := encTo_at xs tail hk
  have hl : (encB k (xs.getD k 0)).length = m := by rw [he, length_highB]
  rw [hl, he] at h1
  refine ⟨?_, ?_⟩
  · rw [take_ok ?_, h1, encTo_succ, List.length_append, hl]
    obtain ⟨r, hr⟩ := encTo_pre xs (k + 1) (n - (k + 1))
    rw [show k + 1 + (n - (k + 1)) = n from by omega] at hr
    rw [hr, encTo_succ]
    simp only [List.length_append, hl]
    omega
  · rw [numQ_small (by rw [length_highB]; exact hm), numB_highB, Nat.mod_eq_of_lt hy]

set_option maxHeartbeats 2000000 in
theorem walk_octetBack (A0 : Option Addr) (n0 c0 : Nat) (l0 : List Nat) (A1 : Option Addr) (n1 c1 : Nat) (l1 : List UInt8) (w : World) (r0 : Rv w w.heap.size A0 n0 c0 (cus .u64 l0) ∧ ∀ x ∈ l0, (x : Int) ≤ 18446744073709551615) (s0 : c0 * 8 ≤ 140737488351232) (r1 : Rd w w.heap.size A1 n1 c1 l1) (s1 : c1 ≤ 140737488351232) :
    Calls Try.prog 11 #[.slice A0 n0 c0, .slice A1 n1 c1] w fun e w' => e = .returned (.bool true) ∧ Below w.heap.size w w' := by
  obtain ⟨r0, hx64⟩ := r0
  have HX := Lib.hid hx64; clear hx64
  have hcap := r0.cap
  have hcap1 := r1.cap
  have b := Below.refl w.heap.size w
  go_enter Try.func11, Try.ntmps11
  go_wp2_with fail
  refine (wakes01 _).mono ?_
  rintro e w1 ⟨rfl, b1⟩
  replace r0 := r0.step b1
  replace r1 := r1.step b1
  replace b := below_step b b1
  clear b1
  go_wp2_with fail
  go_loopw [5, 15] (fun v i wr => ∃ (k m : Nat) (A : Option Addr) (c : Nat), k ≤ n0 ∧ i = .int .i64 k ∧ v = .slice A m c ∧ Own wr w1.heap.size A m c (encTo l0 k) ∧ Below w1.heap.size w1 wr) (fun _ i _ => n0 - (intOf i).toNat)
  case atStart => exact ⟨0, 0, none, 0, Nat.zero_le _, rfl, rfl, Own.nil _ _, Below.refl _ _⟩
  case round =>
    obtain ⟨k, m, A, c, hk, rfl, rfl, ho, hb⟩ := hrel
    have hm := encTo_length l0 k
    rw [ho.len] at hm
    have hmb : m ≤ 140737488000000 := by split at hm <;> (try split at hm) <;> omega
    clear hm
    by_cases hlt : k < n0
    · obtain ⟨a1, u, rfl, -, hu, hc⟩ := (r0.below hb).some_ hlt
      obtain ⟨x, hx, rfl⟩ := cus_get? hu
      have hxm : x ≤ 18446744073709551615 := by have := HX.out x (List.mem_of_getElem? hx); omega
      have HG := Lib.hid (getD_of hx)
      clear hu hx
      rcases (show k % 3 = 0 ∨ k % 3 = 1 ∨ k % 3 = 2 by omega) with h3 | h3 | h3
      · have t0 : ((k : Int) % 3 == 0) = true := by rw [beq_iff_eq]; omega
        have he : encB k (l0.getD k 0) = highB x 8 := by rw [HG.out]; unfold encB; simp [h3]
        have HE := Lib.hid he; clear he h3
        go_wp2_with fail
        refine (put64_any A m c _ x (by omega) _ _ ho.rd (Nat.le_refl _) (by omega)).mono ?_
        rintro e w2 ⟨A2, c2, rfl, o2, b2⟩
        rw [← HE.out, ← encTo_succ] at o2
        have hb2 := below_step hb b2
        go_wp2
        go_roundw
        case rel => exact ⟨k + 1, _, A2, c2, by omega, by go_num, rfl, o2.more hb.size, hb2⟩
        case measure => simp [intOf]; omega
      · have t0 : ((k : Int) % 3 == 0) = false := by rw [beq_eq_false_iff_ne]; omega
        have t1 : ((k : Int) % 3 == 1) = true := by rw [beq_iff_eq]; omega
        have he : encB k (l0.getD k 0) = highB (x % 4294967296) 4 := by rw [HG.out]; unfold encB; simp [h3]
        have HE := Lib.hid he; clear he h3
        go_wp2_with fail
        first | rw [wrapu32 x] | rw [modu32 x]
        refine (put32_any A m c _ (x % 4294967296) (Nat.mod_lt _ (by decide)) _ _ ho.rd (Nat.le_refl _) (by omega)).mono ?_
        rintro e w2 ⟨A2, c2, rfl, o2, b2⟩
        rw [← HE.out, ← encTo_succ] at o2
        have hb2 := below_step hb b2
        go_wp2
        go_roundw
        case rel => exact ⟨k + 1, _, A2, c2, by omega, by go_num, rfl, o2.more hb.size, hb2⟩
        case measure => simp [intOf]; omega
      · have t0 : ((k : Int) % 3 == 0) = false := by rw [beq_eq_false_iff_ne]; omega
        have t1 : ((k : Int) % 3 == 1) = false := by rw [beq_eq_false_iff_ne]; omega
        have he : encB k (l0.getD k 0) = highB (x % 65536) 2 := by rw [HG.out]; unfold encB; simp [h3]
        have HE := Lib.hid he; clear he h3
        go_wp2_with fail
        first | rw [wrapu16 x] | rw [modu16 x]
        refine (put16_any A m c _ (x % 65536) (Nat.mod_lt _ (by decide)) _ _ ho.rd (Nat.le_refl _) (by omega)).mono ?_
        rintro e w2 ⟨A2, c2, rfl, o2, b2⟩
        rw [← HE.out, ← encTo_succ] at o2
        have hb2 := below_step hb b2
        go_wp2
        go_roundw
        case rel => exact ⟨k + 1, _, A2, c2, by omega, by go_num, rfl, o2.more hb.size, hb2⟩
        case measure => simp [intOf]; omega
    · obtain rfl : k = n0 := by omega
      have hm3 := encTo_length l0 k
      rw [ho.len] at hm3
      have hm4 : 3 * m ≤ 14 * k + 10 := by split at hm3 <;> (try split at hm3) <;> omega
      clear hm3
      replace r1 := r1.below hb
      go_wp2_with (at_builtin; refine wpList_app8f _ rfl _ _ rfl w1.heap.size A m c _ rfl ho w1.heap.size A1 n1 c1 l1 rfl r1 (fits_quarter (by omega)) (by omega) hb.size ?_)
      intro A2 c2 w2 o2 b2
      have hb2 : Below w1.heap.size w1 w2 := hb.trans b2
      replace r0 := r0.step hb2
      replace r1 := (r1.below b2).more hb2.size
      replace b := below_step b hb2
      clear b2 ho hlt hb hb2
      go_wp2_with fail
      refine (read_any A2 (m + n1) c2 _ _ _ o2.rd (Nat.le_refl _) (by omega)).mono ?_
      rintro e w3 ⟨g, rfl, h3, b3⟩
      clear o2
      go_wp2_with fail
      go_loopw [44] (fun i wr => ∃ (q : Nat), q ≤ k ∧ i = .int .i64 q ∧ Rdr wr w2.heap.size g (encTo l0 k ++ l1) (encTo l0 q).length 0 ∧ Below w2.heap.size w2 wr) (fun i _ => k - (intOf i).toNat)
      case atStart => exact ⟨0, Nat.zero_le _, rfl, h3, b3⟩
      case round =>
        obtain ⟨q, hq, rfl, hr, hb3⟩ := hrel
        have hb3x := hb3
        by_cases hlt2 : q < k
        · obtain ⟨a1, u, rfl, -, hu, hc⟩ := (r0.below hb3x).some_ hlt2
          obtain ⟨x, hx, rfl⟩ := cus_get? hu
          have hxm : x ≤ 18446744073709551615 := by have := HX.out x (List.mem_of_getElem? hx); omega
          have HG := Lib.hid (getD_of hx)
          clear hu hx
          rcases (show q % 3 = 0 ∨ q % 3 = 1 ∨ q % 3 = 2 by omega) with h3 | h3 | h3
          · have t0 : ((q : Int) % 3 == 0) = true := by rw [beq_iff_eq]; omega
            have he : encB q (l0.getD q 0) = highB x 8 := by rw [HG.out]; unfold encB; simp [h3]
            obtain ⟨ht, hn⟩ := read_enc (xs := l0) (tail := l1) (n := k) (mm := 8) hlt2 he (by omega) (by omega) rfl
            have HT := Lib.hid ht
            have HN := Lib.hid hn
            clear ht hn he h3
            go_wp2_with fail
            refine (u64_rd (encTo l0 k ++ l1) _ 0 g _ _ hr).mono ?_
            rintro e w5 ⟨rfl, h5, g5⟩
            rw [HT.out] at h5
            rw [HT.out]
            replace h5 : Rdr w5 _ g (encTo l0 k ++ l1) (encTo l0 (q + 1)).length 0 := h5
            rw [show numQ (highB x 8, (encTo l0 (q + 1)).length, (0 : Int)).1 % 18446744073709551616 = x from by show numQ (highB x 8) % 18446744073709551616 = _; rw [HN.out]; omega]
            have hb5 := hb3.trans (below_grown g5 hr.ge hr.lt)
            go_wp2
            go_roundw
            case rel => exact ⟨q + 1, by omega, by go_num, h5, hb5⟩
            case measure => simp [intOf]; omega
          · have t0 : ((q : Int) % 3 == 0) = false := by rw [beq_eq_false_iff_ne]; omega
            have t1 : ((q : Int) % 3 == 1) = true := by rw [beq_iff_eq]; omega
            have he : encB q (l0.getD q 0) = highB (x % 4294967296) 4 := by rw [HG.out]; unfold encB; simp [h3]
            obtain ⟨ht, hn⟩ := read_enc (xs := l0) (tail := l1) (n := k) (mm := 4) hlt2 he (by omega) (by omega) rfl
            have HT := Lib.hid ht
            have HN := Lib.hid hn
            clear ht hn he h3
            go_wp2_with fail
            refine (u32_rd (encTo l0 k ++ l1) _ 0 g _ _ hr).mono ?_
            rintro e w5 ⟨rfl, h5, g5⟩
            rw [HT.out] at h5
            rw [HT.out]
            replace h5 : Rdr w5 _ g (encTo l0 k ++ l1) (encTo l0 (q + 1)).length 0 := h5
            rw [show numQ (highB (x % 4294967296) 4, (encTo l0 (q + 1)).length, (0 : Int)).1 % 4294967296 = x % 4294967296 from by show numQ (highB (x % 4294967296) 4) % 4294967296 = _; rw [HN.out]; omega]
            have hb5 := hb3.trans (below_grown g5 hr.ge hr.lt)
            go_wp2
            go_roundw
            case rel => exact ⟨q + 1, by omega, by go_num, h5, hb5⟩
            case measure => simp [intOf]; omega
          · have t0 : ((q : Int) % 3 == 0) = false := by rw [beq_eq_false_iff_ne]; omega
            have t1 : ((q : Int) % 3 == 1) = false := by rw [beq_eq_false_iff_ne]; omega
            have hw16 : ((x : Int) % 65536 != IntKind.u16.wrap (x : Int)) = false := by rw [wrapu16, bne_eq_false_iff_eq]; omega
            have he : encB q (l0.getD q 0) = highB (x % 65536) 2 := by rw [HG.out]; unfold encB; simp [h3]
            obtain ⟨ht, hn⟩ := read_enc (xs := l0) (tail := l1) (n := k) (mm := 2) hlt2 he (by omega) (by omega) rfl
            have HT := Lib.hid ht
            have HN := Lib.hid hn
            clear ht hn he h3
            go_wp2_with fail
            refine (u16_rd (encTo l0 k ++ l1) _ 0 g _ _ hr).mono ?_
            rintro e w5 ⟨rfl, h5, g5⟩
            rw [HT.out] at h5
            rw [HT.out]
            replace h5 : Rdr w5 _ g (encTo l0 k ++ l1) (encTo l0 (q + 1)).length 0 := h5
            rw [show numQ (highB (x % 65536) 2, (encTo l0 (q + 1)).length, (0 : Int)).1 % 65536 = x % 65536 from by show numQ (highB (x % 65536) 2) % 65536 = _; rw [HN.out]; omega]
            have hb5 := hb3.trans (below_grown g5 hr.ge hr.lt)
            go_wp2
            go_roundw
            case rel => exact ⟨q + 1, by omega, by go_num, h5, hb5⟩
            case measure => simp [intOf]; omega
        · obtain rfl : q = k := by omega
          replace r1 := r1.below hb3x
          have w2s := b.size
          have hsz := hb3x.size
          replace b := below_step b hb3x
          have hpre : takeR (encTo l0 q ++ l1) (encTo l0 q).length 0 (n1 : Int) = (l1, (encTo l0 q ++ l1).length, 0) := by
            rw [take_ok (by rw [List.length_append, r1.len]; omega), List.drop_left, List.take_of_length_le (by rw [r1.len]; omega), List.length_append, r1.len]
          have HP := Lib.hid hpre; clear hpre
          go_wp2_with fail
          refine (raw_any (encTo l0 q ++ l1) _ 0 (n1 : Int) g _ _ hr).mono ?_
          rintro e w5 ⟨A5, n5, c5, rfl, o5, h5, g5⟩
          rw [HP.out] at o5 h5
          have hn5 : n5 = n1 := by rw [← o5.len, ← r1.len]
          subst hn5
          replace r1 := r1.below (below_grown g5 hr.ge hr.lt)
          replace b := b.trans ((below_grown g5 hr.ge hr.lt).mono (by have := b.size; exact w2s))
          go_wp2_with fail
          refine (equal_any A5 A1 n5 c5 n5 c1 w5.heap.size l1 l1 _ o5.rd (r1.more ?_)).mono ?_
          · exact Nat.le_trans hsz g5.size
          rintro e w6 ⟨rfl, hq6⟩
          have b6 := quiet_self hq6
          replace h5 : Rdr w6 _ g (encTo l0 q ++ l1) (encTo l0 q ++ l1).length 0 := Rdr.below h5 b6
          replace b := below_step b b6
          rw [show eqB l1 l1 = true from decide_eq_true rfl]
          go_wp2_with fail
          refine (left_any _ _ 0 g _ _ h5).mono ?_
          rintro e w7 ⟨rfl, hq7⟩
          have b7 := quiet_self hq7
          replace h5 := Rdr.below h5 b7
          replace b := below_step b b7
          rw [Int.sub_self]
          go_wp2_with fail
          refine (err_any _ _ 0 g _ _ h5).mono ?_
          rintro e w8 ⟨rfl, hq8⟩
          subst hq8
          go_wp2_with fail
          go_ret
          exact ⟨rfl, b⟩


set_option maxRecDepth 100000 in
theorem lifted_octetBack (os : Os) (started : os.Started) (H : Type) (enc : TypeId × Value → H) :
    ReturnsInHanded {} Try.checked os 11 .any (Rows.octetBackSpec.pre6 enc Try.prog Try.f11 Rows.octetBackRow.domain false) (Rows.octetBackSpec.post enc Try.prog Try.f11 false true false false) := by
  refine returnsInHanded_of_change_sized (C := Try.checked) own started (by kernel_rfl) Try.func11
    (ChangeSpec.witness6 (enc := enc) (C := Try.checked) false ⟨#[], #[.slice none 0 0, .slice none 0 0], []⟩ 8 (by kernel_rfl) (by kernel_rfl) (by kernel_rfl) (by kernel_rfl)) ?_
  intro W base args ds gs before hval0 hW hcnd hsz0 _
  have hval : ∀ (j : Nat) t v, Try.f11.params[j]? = some t → args[j]? = some v → Value.okWide Try.prog W .any base t v := hval0
  have hsz : (DataW.weightsEach Try.prog (Try.f11.params.toList ++ Rows.octetBackSpec.plain.varTypes Try.prog) (ds ++ gs)).all (· ≤ reachBytes) = true := hsz0
  have hW' := hW
  obtain ⟨p, q, hA0, hV, rfl, hfz, hnd⟩ := hW
  have hA : DataW.TrodAll enc Try.prog W 0 (fun _ => true) true Try.f11.params.toList args.toList ds p := hA0
  rw [Try.params11] at hA hval hsz
  obtain ⟨v0, vs0, d0, ds0, p0, q0, hargs, rfl, rfl, h0, t0⟩ := trodAll_cons hA
  obtain ⟨v1, vs1, d1, ds1, p1, q1, rfl, rfl, rfl, h1, t1⟩ := trodAll_cons t0
  obtain ⟨rfl, rfl, rfl⟩ := trodAll_nil t1
  obtain rfl : args = #[v0, v1] := by cases args; simp_all
  obtain ⟨rfl, rfl⟩ := trodVars_none hV
  have k0 := h0
  obtain ⟨A0, n0, c0, l0, rfl, r0, y0⟩ := open_u64s (hval 0 69 v0 rfl rfl) h0
  have s0 := y0 (weights_of hsz (j := 0) rfl rfl)
  have k1 := h1
  obtain ⟨A1, n1, c1, l1, rfl, r1, y1⟩ := open_bytes (hval 1 22 v1 rfl rfl) h1
  have s1 := y1 (weights_of hsz (j := 1) rfl rfl)
  clear hA0 hval0
  refine (walk_octetBack A0 n0 c0 l0 A1 n1 c1 l1 W r0 s0 r1 s1).mono fun e W' ⟨he, bel⟩ => ?_
  subst he
  exact ⟨_, rfl, _, _, _, [], _, [], hW', trodAll_mk1 (shut_bool Try.underlying4 _), (trodAll_cons_mk (Below.trod laidOut (by kernel_rfl) (of_decide_eq_true (by kernel_rfl)) k0 bel (trod_places k0)) (trodAll_cons_mk (Below.trod laidOut (by kernel_rfl) (of_decide_eq_true (by kernel_rfl)) k1 bel (trod_places k1)) trodAll_mk0)), rfl, bel.frame _, fun h => by cases h⟩

theorem over_octetBack : Rows.octetBackRow.holds Try.pinned (OpenSpec.ofChange Rows.octetBackSpec) :=
  OpenClaim.holds_of_wide 11 Try.f11 rfl rfl rfl rfl rfl rfl rfl ⟨rfl, rfl, rfl, rfl, rfl⟩ rfl rfl rfl rfl rfl (by kernel_rfl) Try.func11 (by kernel_rfl)
    (of_decide_eq_true (by kernel_rfl)) (by unfold Func.isWrapper; first | (rw [if_pos (by decide +kernel)]; kernel_rfl) | (rw [if_neg (by decide +kernel)]; exact ⟨rfl, rfl⟩))
    (fun os started H enc _ => lifted_octetBack os started H enc)

/-- The statement. -/
theorem octetBack_holds : Rows.OctetBackSaid := over_octetBack
#print axioms octetBack_holds

end Go.Proofs.Ytbofnmlddpbfeaa

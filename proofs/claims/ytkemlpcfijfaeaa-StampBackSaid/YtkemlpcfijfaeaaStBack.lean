/- StampBack: what was packed is read as it was, and what is read is packed as the same sector; bytes that were split are joined. Conditions: none. -/
import Derived.Test.YtkemlpcfijfaeaaSpq
import Derived.Test.YtkemlpcfijfaeaaStJoins
namespace Go.Proofs.Ytkemlpcfijfaeaa
set_option linter.unusedVariables false
open Go.ChangeShapes Go.WideShapes Go.ChangeAt Go.RowKit

def LawB5 (w : World) (e : Ending) (w' : World) : Prop := e = .returned (.bool true) ∧ Below w.heap.size w w'
set_option maxRecDepth 100000 in
set_option maxHeartbeats 1000000 in
theorem back_big (g ps : Nat) (A : Option Addr) (n c : Nat) (hn : 16384 < n) (w : World) : Calls Try.prog 6 #[.int .u64 g, .int .u32 ps, .slice A n c] w (LawB5 w) := by
  have i1 : (16384 : Int) < (n : Int) := by omega
  go_enter Try.func6, Try.ntmps6
  go_wp2_with fail
  refine (wakes05 _).mono ?_
  rintro e w1 ⟨rfl, b1⟩
  go_wp2_with fail
  go_ret
  exact ⟨rfl, b1⟩
set_option maxRecDepth 100000 in
set_option maxHeartbeats 1000000 in
theorem back_no (g ps : Nat) (hg2 : g < 18446744073709551616) (hps : ps < 4294967296) (A : Option Addr) (n c : Nat) (hn : n ≤ 16384) (h : g = 0 ∨ 4294967296 < ps + secN n) (w : World) : Calls Try.prog 6 #[.int .u64 g, .int .u32 ps, .slice A n c] w (LawB5 w) := by
  have i1 : (n : Int) ≤ 16384 := by omega
  have HS := Lib.hid (fun W => split_no g ps hg2 hps A n c (by omega) h W)
  clear h
  go_enter Try.func6, Try.ntmps6
  go_wp2_with fail
  refine (wakes05 _).mono ?_
  rintro e w1 ⟨rfl, b1⟩
  have HSx := HS.out w1
  unfold SplNo at HSx
  go_wp2_with fail
  refine HSx.mono ?_
  rintro e w3 ⟨rfl, rfl⟩
  clear HSx
  go_wp2_with fail
  go_ret
  exact ⟨rfl, b1⟩
/-- Sector k of what was split: read, packed. -/
def BackR (L : List (List UInt8)) (g ps m : Nat) : Prop := ∀ k, k < m → ∀ x, L[k]? = some x → okS x ∧ fld x 0 8 = g ∧ fld x 8 4 = ps + k
def BRel (w2 w : World) (m : Nat) (i : Value) (wr : World) : Prop := ∃ k : Nat, k ≤ m ∧ i = .int .i64 k ∧ Below w.heap.size w wr ∧ Below w2.heap.size w2 wr
set_option maxRecDepth 100000 in
set_option maxHeartbeats 4000000 in
theorem back_yes (g ps : Nat) (hg : g ≠ 0) (hg2 : g < 18446744073709551616) (hps : ps < 4294967296) (A : Option Addr) (n c : Nat) (l : List UInt8) (hn : n ≤ 16384) (h : ps + secN n ≤ 4294967296) (w : World) (r : Rd w w.heap.size A n c l) : Calls Try.prog 6 #[.int .u64 g, .int .u32 ps, .slice A n c] w (LawB5 w) := by
  have i1 : (n : Int) ≤ 16384 := by omega
  have b := Below.refl w.heap.size w
  have hl := r.len
  have hspl := fun W r => split_ok g ps hg hg2 A n c l (by omega) h W r
  have hs1 := fun W => sectors_nat n (by omega) W
  have hle := secN_le n
  have hk : secN n ≤ 1000 := by omega
  have hpos := secN_pos n
  have hjn := fun A c W r => join_yes (splitL g ps l (secN n)) (secN n) (splitL_64 g ps l (secN n)) (splitL_length g ps l (secN n)) hk (by omega) (split_good hg hg2 hl h) A c W r
  rw [join_split hl] at hjn
  have hback : BackR (splitL g ps l (secN n)) g ps (secN n) := by
    intro k hkm x hx
    rw [splitL_get g ps l hkm] at hx
    injection hx with hx
    subst hx
    exact ⟨okS_pack _ _ _ hg hg2 (by omega) (piece_le l k), fld_gen _ _ _ hg2, fld_pos _ _ _ (by omega)⟩
  unfold SplOk at hspl
  unfold JoinOk at hjn
  rw [hl] at hjn
  have H64 := Lib.hid (splitL_64 g ps l (secN n))
  generalize splitL g ps l (secN n) = LL at hspl hjn H64 hback
  generalize secN n = m at h hs1 hk hspl hjn hback hpos
  have H1 := Lib.hid hs1
  have HS := Lib.hid hspl
  have HJ := Lib.hid hjn
  have HB := Lib.hid hback
  clear hs1 hspl hle hjn hback hl
  go_enter Try.func6, Try.ntmps6
  go_wp2_with fail
  refine (wakes05 _).mono ?_
  rintro e w1 ⟨rfl, b1⟩
  replace b := below_step b b1
  clear b1
  have HSx := HS.out w1 (r.step b)
  go_wp2_with fail
  refine HSx.mono ?_
  rintro e w2 ⟨A2, c2, rfl, o2, b2⟩
  replace b := below_step b b2
  clear HSx b2 HS
  have r2 : RdB w2 w2.heap.size A2 m c2 LL := o2.rdB
  clear o2
  go_wp2_with fail
  go_loopw [41] (fun i wr => BRel w2 w m i wr) (fun i _ => m - (intOf i).toNat)
  case atStart => exact ⟨0, Nat.zero_le _, rfl, b, Below.refl _ _⟩
  case round =>
    obtain ⟨k, hkm, rfl, b1, bb⟩ := hrel
    by_cases hlt : k < m
    · obtain ⟨ad, x, rfl, had, hx, hx64, hc⟩ := (r2.step bb).at_ H64.out hlt
      obtain ⟨hok, hgen, hposx⟩ := HB.out k hlt x hx
      have hR := fun W => read_yes x hx64 W hok
      unfold ReadOk at hR
      have hf48 : fld x 12 2 ≤ 48 := hok.2.1
      have hpk := hok.2.2
      rw [hgen, hposx] at hR hpk
      have hpl := pay_len hx64 hf48
      generalize fld x 12 2 = f at hR hpk hf48 hpl
      have hP := fun A' c' W rr => pack_ok g (ps + k) hg hg2 (by omega) A' f c' ((x.drop 16).take f) hf48 W rr
      rw [hpk] at hP
      have e32 : IntKind.u32.wrap (k : Int) = (k : Int) := IntWalk.u32_in _ (by omega)
      have e33 : IntKind.u32.wrap ((ps : Int) + (k : Int)) = (ps : Int) + (k : Int) := IntWalk.u32_in _ (by omega)
      rw [show ((ps + k : Nat) : Int) = (ps : Int) + (k : Int) from by omega] at hR hP
      have hE := fun w => eqE x x true hx64 hx64 (beq_self_eq_true _) w
      have HX64 := Lib.hid hx64
      have HC := Lib.hid hc
      have HR := Lib.hid hR
      have HP := Lib.hid hP
      clear hx hx64 hc hok hgen hposx hR hpk hP hpl
      have hsz := b1.size
      have hsz2 := bb.size
      have k7 := Blk.new wr (ar zeroA) 47
      go_wp2_with (first | refine wpl_loadS rfl _ rfl (ad.add (k * 64)) rfl x HX64.out HC.out ?_ | refine wpl_storeA _ rfl _ _ rfl wr.heap.size zeroA x rfl rfl k7 zl HX64.out ?_)
      intro w3 k7' g3
      have b3 : Below wr.heap.size wr w3 := (below_a1' (Below.refl wr.heap.size wr) (.cells (ar zeroA) 47)).trans (below_grown g3 (Nat.le_refl _) k7.lt)
      replace b1 := below_step b1 b3
      replace bb := below_step bb b3
      clear g3 b3 k7 HC
      go_wp2_with (refine wpl_loadA _ rfl _ rfl wr.heap.size x rfl k7' HX64.out ?_)
      refine (HR.out _).mono ?_
      rintro e w4 ⟨P, cP, rfl, oP, b4⟩
      replace b1 := below_step b1 b4
      replace bb := below_step bb b4
      replace k7' := k7'.step b4
      clear b4 HR
      have k8 := Blk.new w4 #[.int .u64 (g : Nat), .int .u32 ((ps : Int) + (k : Int)), .int .i64 (f : Nat)] 49
      have ba := below_a1' (Below.refl w4.heap.size w4) (.cells #[.int .u64 (g : Nat), .int .u32 ((ps : Int) + (k : Int)), .int .i64 (f : Nat)] 49)
      replace b1 := below_step b1 ba
      replace bb := below_step bb ba
      replace k7' := k7'.step ba
      have rP := (oP.below ba).rd
      clear ba oP
      go_upto_region 12 with fail
      generalize w4.alloc (.cells #[.int .u64 (g : Nat), .int .u32 ((ps : Int) + (k : Int)), .int .i64 (f : Nat)] 49) = W5 at k8 k7' b1 bb rP ⊢
      obtain ⟨q0, q1, q2⟩ := box3 k8
      have HPx := HP.out P cP W5 rP
      unfold PackOk at HPx
      go_wp2_with fail
      refine HPx.mono ?_
      rintro e w6 ⟨rfl, b6⟩
      replace b1 := below_step b1 b6
      replace bb := below_step bb b6
      replace k7' := k7'.step b6
      replace k8 := k8.step b6
      clear b6 HPx q0 q1 q2 rP HP
      have hlt7 := k7'.lt
      have hlt8 := k8.lt
      have k9 := Blk.new w6 (ar zeroA) 47
      go_wp2_with (first | refine wpl_storeA _ rfl _ _ rfl w6.heap.size zeroA x rfl rfl k9 zl HX64.out ?_)
      intro w7 k9' g7
      have b7 : Below w6.heap.size w6 w7 := (below_a1' (Below.refl w6.heap.size w6) (.cells (ar zeroA) 47)).trans (below_grown g7 (Nat.le_refl _) k9.lt)
      replace b1 := below_step b1 b7
      replace bb := below_step bb b7
      replace k7' := k7'.step b7
      replace k8 := k8.step b7
      clear g7 b7 k9
      obtain ⟨q0, q1, q2⟩ := box3 k8
      go_wp2_with (first | refine wpl_loadG _ rfl _ rfl w6.heap.size x rfl k9' HX64.out ?_ | refine wpl_loadG _ rfl _ rfl wr.heap.size x rfl k7' HX64.out ?_)
      go_roundw
      case rel => exact ⟨k + 1, by omega, by go_num, b1, bb⟩
      case measure => simp [intOf]; omega
    · obtain rfl : k = m := by omega
      have HJx := HJ.out A2 c2 wr (r2.step bb)
      go_wp2_with fail
      refine HJx.mono ?_
      rintro e w3 ⟨A3, c3, rfl, o3, b3⟩
      replace b1 := below_step b1 b3
      clear HJx b3
      have hE := equal_any A A3 n c n c3 _ l l w3 (r.step b1) o3.rd
      go_wp2_with fail
      refine hE.mono ?_
      rintro e w4 ⟨rfl, hq⟩
      have b4 := quiet_self hq
      replace b1 := below_step b1 b4
      clear hq b4 hE o3
      rw [show eqB l l = true from decide_eq_true rfl]
      go_wp2_with fail
      refine (H1.out _).mono ?_
      rintro e w5 ⟨rfl, rfl⟩
      go_wp2_with fail
      go_ret
      exact ⟨rfl, b1⟩
theorem walk_stampBack (g ps : Nat) (A : Option Addr) (n c : Nat) (l : List UInt8) (w : World) (mg : (g : Int) ≤ 18446744073709551615) (mp : (ps : Int) ≤ 4294967295) (r : Rd w w.heap.size A n c l) (_ : c ≤ 140737488351232) :
    Calls Try.prog 6 #[.int .u64 g, .int .u32 ps, .slice A n c] w fun e w' => e = .returned (.bool true) ∧ Below w.heap.size w w' := by
  by_cases hn : 16384 < n
  · exact back_big g ps A n c hn w
  · by_cases h : g = 0 ∨ 4294967296 < ps + secN n
    · exact back_no g ps (by omega) (by omega) A n c (by omega) h w
    · exact back_yes g ps (by omega) (by omega) (by omega) A n c l (by omega) (by omega) w r


set_option maxRecDepth 100000 in
theorem lifted_stampBack (os : Os) (started : os.Started) (H : Type) (enc : TypeId × Value → H) :
    ReturnsInHanded {} Try.checked os 6 .any (Rows.stampBackSpec.pre6 enc Try.prog Try.f6 Rows.stampBackRow.domain false) (Rows.stampBackSpec.post enc Try.prog Try.f6 false true false false) := by
  refine returnsInHanded_of_change_sized (C := Try.checked) own started (by kernel_rfl) Try.func6
    (ChangeSpec.witness6 (enc := enc) (C := Try.checked) false ⟨#[], #[.int .u64 0, .int .u32 0, .slice none 0 0], []⟩ 8 (by kernel_rfl) (by kernel_rfl) (by kernel_rfl) (by kernel_rfl)) ?_
  intro W base args ds gs before hval0 hW hcnd hsz0 _
  have hval : ∀ (j : Nat) t v, Try.f6.params[j]? = some t → args[j]? = some v → Value.okWide Try.prog W .any base t v := hval0
  have hsz : (DataW.weightsEach Try.prog (Try.f6.params.toList ++ Rows.stampBackSpec.plain.varTypes Try.prog) (ds ++ gs)).all (· ≤ reachBytes) = true := hsz0
  have hW' := hW
  obtain ⟨p, q, hA0, hV, rfl, hfz, hnd⟩ := hW
  have hA : DataW.TrodAll enc Try.prog W 0 (fun _ => true) true Try.f6.params.toList args.toList ds p := hA0
  rw [Try.params6] at hA hval hsz
  obtain ⟨v0, vs0, d0, ds0, p0, q0, hargs, rfl, rfl, h0, t0⟩ := trodAll_cons hA
  obtain ⟨v1, vs1, d1, ds1, p1, q1, rfl, rfl, rfl, h1, t1⟩ := trodAll_cons t0
  obtain ⟨v2, vs2, d2, ds2, p2, q2, rfl, rfl, rfl, h2, t2⟩ := trodAll_cons t1
  obtain ⟨rfl, rfl, rfl⟩ := trodAll_nil t2
  obtain rfl : args = #[v0, v1, v2] := by cases args; simp_all
  obtain ⟨rfl, rfl⟩ := trodVars_none hV
  have k0 := h0
  obtain ⟨z0, rfl, rfl, rfl, wf0⟩ := open_int Try.underlying38 (hval 0 38 v0 rfl rfl) h0
  obtain ⟨x0, rfl, m0⟩ := wf_nat (M := 18446744073709551615) wf0 rfl rfl
  have k1 := h1
  obtain ⟨z1, rfl, rfl, rfl, wf1⟩ := open_int Try.underlying39 (hval 1 39 v1 rfl rfl) h1
  obtain ⟨x1, rfl, m1⟩ := wf_nat (M := 4294967295) wf1 rfl rfl
  have k2 := h2
  obtain ⟨A2, n2, c2, l2, rfl, r2, y2⟩ := open_bytes (hval 2 31 v2 rfl rfl) h2
  have s2 := y2 (weights_of hsz (j := 2) rfl rfl)
  clear hA0 hval0
  refine (walk_stampBack x0 x1 A2 n2 c2 l2 W m0 m1 r2 s2).mono fun e W' ⟨he, bel⟩ => ?_
  subst he
  exact ⟨_, rfl, _, _, _, [], _, [], hW', trodAll_mk1 (shut_bool Try.underlying4 _), (trodAll_cons_mk (Below.trod laidOut (by kernel_rfl) (of_decide_eq_true (by kernel_rfl)) k0 bel (trod_places k0)) (trodAll_cons_mk (Below.trod laidOut (by kernel_rfl) (of_decide_eq_true (by kernel_rfl)) k1 bel (trod_places k1)) (trodAll_cons_mk (Below.trod laidOut (by kernel_rfl) (of_decide_eq_true (by kernel_rfl)) k2 bel (trod_places k2)) trodAll_mk0))), rfl, bel.frame _, fun h => by cases h⟩

theorem over_stampBack : Rows.stampBackRow.holds Try.pinned (OpenSpec.ofChange Rows.stampBackSpec) :=
  OpenClaim.holds_of_wide 6 Try.f6 rfl rfl rfl rfl rfl rfl rfl ⟨rfl, rfl, rfl, rfl, rfl⟩ rfl rfl rfl rfl rfl (by kernel_rfl) Try.func6 (by kernel_rfl)
    (of_decide_eq_true (by kernel_rfl)) (by unfold Func.isWrapper; first | (rw [if_pos (by decide +kernel)]; kernel_rfl) | (rw [if_neg (by decide +kernel)]; exact ⟨rfl, rfl⟩))
    (fun os started H enc _ => lifted_stampBack os started H enc)

/-- The statement. -/
theorem stampBack_holds : Rows.StampBackSaid := over_stampBack
#print axioms stampBack_holds

end Go.Proofs.Ytkemlpcfijfaeaa

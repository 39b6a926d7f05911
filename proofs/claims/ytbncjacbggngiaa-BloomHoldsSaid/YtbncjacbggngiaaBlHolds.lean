/- BloomHolds: what was added, or joined, is never denied, out of the bytes neither. Conditions: none. -/
import Derived.Test.YtbncjacbggngiaaBlDoes
import Derived.Test.YtbncjacbggngiaaBlf
namespace Go.Proofs.Ytbncjacbggngiaa
set_option linter.unusedVariables false
open Go.ChangeShapes Go.WideShapes Go.ChangeAt Go.RowKit

theorem u64info : (Try.prog.info? 22).map (fun i => (i.zero, i.size, i.bytes)) = some (some (.int .u64 0), 1, 8) := by kernel_rfl
theorem cus_append (k : IntKind) (a b : List Nat) : cus k (a ++ b) = cus k a ++ cus k b := by simp [cus]
theorem cus_one (k : IntKind) (l : List Nat) : ∀ u ∈ cus k l, u.oneCell' = true := by
  intro u hu
  obtain ⟨_, _, rfl⟩ := List.mem_map.1 hu
  rfl
/-- append to uint64s of the call's own. -/
theorem wpList_appU (w : World) {ops : Array Oper} {rest : List Oper} {o : Oper} {a : Act} {Q : Exit → Act → World → Prop}
    (hg : Region.wanted o (yielded ops a.tmps) = true) (s x : Operand) (hop : o.op = Op.call { callee := Callee.builtin Builtin.append, args := #[s, x], argTypes := #[36, 36] })
    (B : Nat) (A : Option Addr) (n c : Nat) (l : List Nat) (hs : a.eval s = .slice A n c) (hown : Ov w B 22 A n c (cus .u64 l))
    (B2 : Nat) (A2 : Option Addr) (m c2 : Nat) (l2 : List Nat) (hx : a.eval x = .slice A2 m c2) (hr : Rv w B2 A2 m c2 (cus .u64 l2))
    (hbytes : (n + m) * 8 ≤ 140737488355328) (hbase : B ≤ w.heap.size)
    (hK : ∀ A' c' w', Ov w' B 22 A' (n + m) c' (cus .u64 (l ++ l2)) → Below B w w' → wpList Try.prog ops Q rest (a.put o.dst (.slice A' (n + m) c')) w') :
    wpList Try.prog ops Q (o :: rest) a w := by
  obtain ⟨i0, hi0, hz0, hz1, hz2⟩ := info_parts u64info
  refine wpList_app w hg s x _ hop B 22 i0 _ 8 Try.underlying36 hi0 hz0 hz1 hz2 rfl A n c (cus .u64 l) hs hown B2 A2 m c2 (cus .u64 l2) hx hr (cus_one _ _) (fits_small (by omega)) (by unfold maxLen; omega) hbase ?_
  intro A' c' w' h1 h2 _
  refine hK A' c' w' (by rw [cus_append]; exact h1) ?_
  refine (Below.refl B w).grown h2 hbase fun k hk => ?_
  exact (World.ownsRow.lt hown k hk).1

/-! The counts. -/
theorem cntL_set (L : List Bool) (i : Nat) : cntL L ≤ cntL (L.set i true) ∧ cntL (L.set i true) ≤ cntL L + 1 := by
  induction L generalizing i with
  | nil => simp [cntL]
  | cons x L ih =>
    cases i with
    | zero => unfold cntL; cases x <;> simp
    | succ i =>
      have := ih i
      unfold cntL at *
      rw [List.set_cons_succ]
      cases x <;> simp at * <;> omega
theorem cntL_sets : ∀ (ps : List Nat) (L : List Bool), cntL L ≤ cntL (setsL L ps) ∧ cntL (setsL L ps) ≤ cntL L + ps.length
  | [], L => by simp [setsL]
  | p :: ps, L => by
    have h1 := cntL_set L p
    have h2 := cntL_sets ps (L.set p true)
    unfold setsL at *
    rw [List.foldl_cons, List.length_cons]
    omega
theorem cntB_add {l : List UInt8} {M h : Nat} (hM : 0 < M) (hl : 8 * l.length = M) : cntB l ≤ cntB (setsB l (prbs h M)) ∧ cntB (setsB l (prbs h M)) ≤ cntB l + 4 := by
  have := cntL_sets (prbs h M) (bitsL l)
  rw [setsBits hM hl, ← cntB_eq, ← cntB_eq] at this
  exact this
theorem cntL_or : ∀ (a b : List Bool), a.length = b.length → cntL (orLs a b) ≤ cntL a + cntL b
  | [], [], _ => by simp [orLs, cntL]
  | x :: a, y :: b, h => by
    have := cntL_or a b (by simpa using h)
    unfold cntL orLs at *
    rw [List.zipWith_cons_cons]
    cases x <;> cases y <;> simp at * <;> omega
  | [], _ :: _, h => by simp at h
  | _ :: _, [], h => by simp at h
theorem cntB_or {a b : List UInt8} (h : a.length = b.length) : cntB (orBs a b) ≤ cntB a + cntB b := by
  have := cntL_or (bitsL a) (bitsL b) (by rw [length_bitsL, length_bitsL, h])
  rw [← bitsL_orBs a b h, ← cntB_eq, ← cntB_eq, ← cntB_eq] at this
  exact this
theorem cntB_allP {N : Nat} (hN : 0 < N) : ∀ (hs : List Nat) (l : List UInt8), l.length = N → cntB (setsB l (allP (8 * N) hs)) ≤ cntB l + 4 * hs.length
  | [], l, _ => by simp [allP, setsB]
  | h :: hs, l, hl => by
    have h1 := (cntB_add (l := l) (M := 8 * N) (h := h) (by omega) (by omega)).2
    have h2 := cntB_allP hN hs (setsB l (prbs h (8 * N))) (by rw [length_setsB, hl])
    have e : setsB l (allP (8 * N) (h :: hs)) = setsB (setsB l (prbs h (8 * N))) (allP (8 * N) hs) := by
      rw [← setsB_append]; rfl
    rw [e, List.length_cons]
    omega
theorem allL_sub {L : List Bool} {ps : List Nat} (h : ∀ p ∈ ps, L[p]? = some true) : allL L ps = true := by
  unfold allL
  rw [List.all_eq_true]
  intro p hp
  rw [List.getD_eq_getElem?_getD, h p hp]; rfl
theorem orLs_true {a b : List Bool} {p : Nat} (hl : a.length = b.length) (hp : p < a.length) (h : a[p]? = some true ∨ b[p]? = some true) : (orLs a b)[p]? = some true := by
  unfold orLs
  rw [List.getElem?_zipWith, List.getElem?_eq_getElem hp, List.getElem?_eq_getElem (hl ▸ hp)]
  rw [List.getElem?_eq_getElem hp, List.getElem?_eq_getElem (hl ▸ hp)] at h
  simp at *
  rcases h with h | h <;> simp [h]
/-- What was added to either is in the joined. -/
theorem joined_all {N : Nat} (hN : 0 < N) {hs ks : List Nat} {x : Nat} (hx : x ∈ hs ++ ks) {z : List UInt8} (hz : z.length = N) :
    allL (bitsL (orBs (setsB z (allP (8 * N) hs)) (setsB z (allP (8 * N) ks)))) (prbs x (8 * N)) = true := by
  refine allL_sub fun p hp => ?_
  have hpl := prbs_lt (m := 8 * N) (by omega) hp
  have hlz : (bitsL z).length = 8 * N := by rw [length_bitsL, hz]
  rw [bitsL_orBs _ _ (by rw [length_setsB, length_setsB]), bitsL_setsB _ _ (fun q hq => by rw [hz]; exact allP_lt (by omega) hq), bitsL_setsB _ _ (fun q hq => by rw [hz]; exact allP_lt (by omega) hq)]
  have mem : ∀ l : List Nat, x ∈ l → p ∈ allP (8 * N) l := fun l hl => by unfold allP; exact List.mem_flatMap.2 ⟨x, hl, hp⟩
  refine orLs_true (by rw [length_setsL, length_setsL]) (by rw [length_setsL]; omega) ?_
  rcases List.mem_append.1 hx with h | h
  · left
    rw [setsL_get _ _ _ (by omega), decide_eq_true (mem _ h), Bool.or_true]
  · right
    rw [setsL_get _ _ _ (by omega), decide_eq_true (mem _ h), Bool.or_true]
theorem fltBytes_head (l : List UInt8) (h : l.length ≤ 8192) : numB ((fltBytes l).take 4) = 8 * l.length := by
  unfold fltBytes
  rw [List.take_left' (length_highB 4 _), numB_highB]
  exact Nat.mod_eq_of_lt (by omega)
theorem fltBytes_tail (l : List UInt8) : (fltBytes l).drop 4 = l := by
  unfold fltBytes
  rw [List.drop_left' (length_highB 4 _)]
set_option maxRecDepth 100000 in
set_option maxHeartbeats 8000000 in
theorem walk_bloomHolds (x0 : Int) (A1 : Option Addr) (n1 c1 : Nat) (l1 : List Nat) (A2 : Option Addr) (n2 c2 : Nat) (l2 : List Nat) (w : World) (m0 : -9223372036854775808 ≤ x0 ∧ x0 ≤ 9223372036854775807)
    (r1 : Rv w w.heap.size A1 n1 c1 (cus .u64 l1) ∧ ∀ x ∈ l1, (x : Int) ≤ 18446744073709551615) (s1 : c1 * 8 ≤ 140737488351232)
    (r2 : Rv w w.heap.size A2 n2 c2 (cus .u64 l2) ∧ ∀ x ∈ l2, (x : Int) ≤ 18446744073709551615) (s2 : c2 * 8 ≤ 140737488351232) :
    Calls Try.prog 9 #[.int .i64 x0, .slice A1 n1 c1, .slice A2 n2 c2] w fun e w' => e = .returned (.bool true) ∧ Below w.heap.size w w' := by
  obtain ⟨r1, hbd⟩ := r1
  obtain ⟨r2, hbd2⟩ := r2
  have b := Below.refl w.heap.size w
  have hsz := szN_bd x0
  have rp := Rv.pre r1 (Nat.min_le_left n1 100)
  rw [cus_take] at rp
  have rq := Rv.pre r2 (Nat.min_le_left n2 100)
  rw [cus_take] at rq
  have hLl : (l1.take (min n1 100)).length = min n1 100 := by have := rp.len; rwa [cus_length] at this
  have hKl : (l2.take (min n2 100)).length = min n2 100 := by have := rq.len; rwa [cus_length] at this
  have hLb : ∀ x ∈ l1.take (min n1 100), x < 18446744073709551616 := fun x hx => by have := hbd x (List.mem_of_mem_take hx); omega
  have hKb : ∀ x ∈ l2.take (min n2 100), x < 18446744073709551616 := fun x hx => by have := hbd2 x (List.mem_of_mem_take hx); omega
  have hcap := r1.cap
  have hmax := r1.max
  have hcap2 := r2.cap
  have hmax2 := r2.max
  have hm100 : min n1 100 ≤ 100 := Nat.min_le_right _ _
  have hk100 : min n2 100 ≤ 100 := Nat.min_le_right _ _
  have FEW1 := Lib.hid (fun W => few_any A1 n1 c1 W hcap hmax)
  have FEW2 := Lib.hid (fun W => few_any A2 n2 c2 W hcap2 hmax2)
  generalize hN : szN x0 = N at hsz
  have HN := Lib.hid hN
  clear hN r1 r2 hbd hbd2 hcap hmax hcap2 hmax2 s1 s2
  generalize l1.take (min n1 100) = L at rp hLl hLb
  generalize min n1 100 = n at rp hLl hm100 FEW1
  generalize l2.take (min n2 100) = K at rq hKl hKb
  generalize min n2 100 = k at rq hKl hk100 FEW2
  subst hLl
  subst hKl
  have HLB := Lib.hid hLb
  have HKB := Lib.hid hKb
  clear hLb hKb
  have SZ0 := Lib.hid (fun W => size_any x0 W m0)
  rw [HN.out] at SZ0
  have hz : (List.replicate N (0 : UInt8)).length = N := List.length_replicate
  generalize hzz : List.replicate N (0 : UInt8) = z at hz
  have HZ := Lib.hid hz
  have HZZ := Lib.hid hzz
  have hz0 : cntB z = 0 := by rw [← hzz, cntB_zero]
  have HZ0 := Lib.hid hz0
  clear hz hzz hz0
  go_enter Try.func9, Try.ntmps9
  go_wp2_with fail
  refine (wakes04 _).mono ?_
  rintro e w1 ⟨rfl, b1⟩
  replace b := below_step b b1
  clear b1
  go_wp2_with fail
  refine (SZ0.out _).mono ?_
  rintro e w2 ⟨rfl, rfl⟩
  go_wp2_with fail
  refine (new_ok N hsz.1 (by omega) _ rfl _).mono ?_
  rintro e w2 ⟨gf, rfl, ff, b2⟩
  rw [HZZ.out] at ff
  have hs1 := b.size
  replace b := below_step b b2
  clear b2
  go_wp2_with fail
  refine (SZ0.out _).mono ?_
  rintro e w3 ⟨rfl, rfl⟩
  go_wp2_with fail
  refine (new_ok N hsz.1 (by omega) _ rfl _).mono ?_
  rintro e w3 ⟨gg, rfl, fg, b3⟩
  rw [HZZ.out] at fg
  have hs2 := b.size
  replace ff := ff.step b3
  replace b := below_step b b3
  clear b3
  generalize hB1 : w1.heap.size = B1 at ff hs1
  generalize hB2 : w2.heap.size = B2 at ff fg hs2
  generalize hB3 : w3.heap.size = B3 at fg
  clear hB1 hB2 hB3
  go_wp2_with fail
  refine (FEW1.out _).mono ?_
  rintro e w4 ⟨rfl, rfl⟩
  go_wp2_with fail
  go_loopw [11, 13, 42] (fun s y i wr => ∃ (j m : Nat), j ≤ L.length ∧ i = .int .i64 j ∧ s = .int .i64 m ∧ m ≤ 65536 ∧ m = cntB (setsB z (allP (8 * N) (L.take j))) ∧ Flt wr B1 B2 gf (setsB z (allP (8 * N) (L.take j))) ∧ Flt wr B2 B3 gg z ∧ Below w.heap.size w wr) (fun _ _ i _ => L.length - (intOf i).toNat)
  case atStart => exact ⟨0, 0, Nat.zero_le _, rfl, rfl, by omega, HZ0.out.symm, ff, fg, b⟩
  case round =>
    obtain ⟨j, m, hj, rfl, rfl, hm, hmj, ff, fg, bj⟩ := hrel
    have HM := Lib.hid hmj
    clear hmj
    by_cases hlt : j < L.length
    · obtain ⟨ad, u, rfl, -, hu, hc⟩ := (rp.below bj).some_ hlt
      obtain ⟨x, hx, rfl⟩ := cus_get hu
      have hxb := HLB.out x (List.mem_of_getElem? hx)
      have hx2 := take_snoc_of hx
      have hAf := add_any B1 B2 gf x _ wr ff hxb
      rw [length_setsB, HZ.out, setsB_add, ← hx2] at hAf
      have HAf := Lib.hid hAf
      have hcnt := cntB_add (l := setsB z (allP (8 * N) (L.take j))) (M := 8 * N) (h := x) (by omega) (by rw [length_setsB, HZ.out])
      rw [setsB_add, ← hx2, ← HM.out] at hcnt
      have hle := cntB_le (setsB z (allP (8 * N) (L.take (j + 1))))
      rw [length_setsB, HZ.out] at hle
      obtain ⟨hc1, hc2⟩ := hcnt
      clear hu hx hx2 hAf
      go_wp2_with fail
      refine HAf.out.mono ?_
      rintro e w5 ⟨rfl, ff5, n5⟩
      have fg5 := fg.far n5 (Or.inr (Nat.le_refl _))
      have b5 := bj.trans (n5.below hs1 bj.size)
      have hS := Lib.hid (set_any B1 B2 gf _ w5 ff5)
      generalize hm' : cntB (setsB z (allP (8 * N) (L.take (j + 1)))) = m' at hS hc1 hc2 hle
      have HM' := Lib.hid hm'
      clear hm' hc
      go_wp2_with fail
      refine hS.out.mono ?_
      rintro e w6 ⟨rfl, rfl⟩
      go_wp2_with fail
      refine hS.out.mono ?_
      rintro e w6 ⟨rfl, rfl⟩
      go_wp2_with fail
      refine hS.out.mono ?_
      rintro e w6 ⟨rfl, rfl⟩
      go_wp2_with fail
      go_roundw
      case rel => exact ⟨j + 1, m', by omega, by go_num, rfl, by omega, HM'.out.symm, ff5, fg5, b5⟩
      case measure => simp [intOf]; omega
    · obtain rfl : j = L.length := by omega
      rw [List.take_length] at ff
      clear HM hm
      go_wp2_with fail
      refine (FEW2.out _).mono ?_
      rintro e w4 ⟨rfl, rfl⟩
      go_wp2_with fail
      go_loopw [15, 66] (fun y i wr => ∃ (j : Nat), j ≤ K.length ∧ i = .int .i64 j ∧ Flt wr B1 B2 gf (setsB z (allP (8 * N) L)) ∧ Flt wr B2 B3 gg (setsB z (allP (8 * N) (K.take j))) ∧ Below w.heap.size w wr) (fun _ i _ => K.length - (intOf i).toNat)
      case atStart => exact ⟨0, Nat.zero_le _, rfl, ff, fg, bj⟩
      case round =>
        obtain ⟨j, hj, rfl, ff, fg, bj⟩ := hrel
        by_cases hlt : j < K.length
        · obtain ⟨ad, u, rfl, -, hu, hc⟩ := (rq.below bj).some_ hlt
          obtain ⟨x, hx, rfl⟩ := cus_get hu
          have hxb := HKB.out x (List.mem_of_getElem? hx)
          have hx2 := take_snoc_of hx
          have hAf := add_any B2 B3 gg x _ _ fg hxb
          rw [length_setsB, HZ.out, setsB_add, ← hx2] at hAf
          have HAf := Lib.hid hAf
          clear hu hx hx2 hAf
          go_wp2_with fail
          refine HAf.out.mono ?_
          rintro e w5 ⟨rfl, fg5, n5⟩
          have ff5 := ff.far n5 (Or.inl (Nat.le_refl _))
          have b5 := bj.trans (n5.below hs2 bj.size)
          clear hc
          go_wp2_with fail
          go_roundw
          case rel => exact ⟨j + 1, by omega, by go_num, ff5, fg5, b5⟩
          case measure => simp [intOf]; omega
        · obtain rfl : j = K.length := by omega
          rw [List.take_length] at fg
          have hcnt := cntB_or (a := setsB z (allP (8 * N) L)) (b := setsB z (allP (8 * N) K)) (by rw [length_setsB, length_setsB])
          have hca := cntB_allP (N := N) (by omega) L z HZ.out
          have hcb := cntB_allP (N := N) (by omega) K z HZ.out
          rw [HZ0.out] at hca hcb
          have hjl : (orBs (setsB z (allP (8 * N) L)) (setsB z (allP (8 * N) K))).length = N := by rw [length_orBs (by rw [length_setsB, length_setsB]), length_setsB, HZ.out]
          have JA := Lib.hid (fun (x : Nat) (hx : x ∈ L ++ K) => joined_all (N := N) (by omega) hx HZ.out)
          have JN := Lib.hid (join_any B1 B2 gf B2 B3 gg _ _ _ ff fg (Or.inl (Nat.le_refl _)) (by rw [length_setsB, length_setsB]))
          generalize orBs (setsB z (allP (8 * N) L)) (setsB z (allP (8 * N) K)) = lj at hcnt hjl JA JN
          have HJL := Lib.hid hjl
          have hcj : cntB lj ≤ 4 * (L.length + K.length) := by omega
          clear hcnt hca hcb hjl
          go_wp2_with fail
          refine JN.out.mono ?_
          rintro e w5 ⟨rfl, ff5, n5⟩
          have b5 := bj.trans (n5.below hs1 bj.size)
          go_wp2_with fail
          refine (bytes_any _ _ gf _ _ ff5).mono ?_
          rintro e w6 ⟨A6, c6, rfl, o6, b6⟩
          have ff6 := ff5.step b6
          have bb6 := below_step b5 b6
          have hO := of_ok A6 (lj.length + 4) c6 N (fltBytes lj) w6 o6.rd hsz.1 (by omega) (by rw [fltBytes_head lj (by rw [HJL.out]; omega), HJL.out]) (by rw [HJL.out]; omega)
          rw [fltBytes_tail] at hO
          have HO := Lib.hid hO
          clear hO
          go_wp2_with fail
          refine HO.out.mono ?_
          rintro e w7 ⟨go, rfl, fo, b7⟩
          have ff7 := ff6.step b7
          have bb7 := below_step bb6 b7
          generalize w6.heap.size = B6 at fo
          generalize hB7 : w7.heap.size = B7 at fo
          clear hB7
          go_wp2_with fail
          refine (FEW1.out _).mono ?_
          rintro e w8 ⟨rfl, rfl⟩
          go_wp2_with (at_builtin; refine wpList_appU _ rfl _ _ rfl w7.heap.size (some ⟨w7.heap.size, 0, none⟩) 0 0 [] rfl (Ov.empty w7 _ _ (Nat.le_refl _)) w.heap.size A1 L.length c1 L rfl ((rp.below bb7).alloc bb7.size _) (by omega) (by simp) ?_)
          intro A8 c8 w8 o8 b8
          have b8' : Below w7.heap.size w7 w8 := ((Below.refl _ _).alloc (Nat.le_refl _) _).trans b8
          have bb8 := below_step bb7 b8'
          go_wp2_with fail
          refine (FEW2.out _).mono ?_
          rintro e w9 ⟨rfl, rfl⟩
          go_wp2_with (at_builtin; refine wpList_appU _ rfl _ _ rfl w7.heap.size A8 L.length c8 L rfl o8 w.heap.size A2 K.length c2 K rfl (rq.below bb8) (by omega) b8'.size ?_)
          intro A9 c9 w9 o9 b9
          have bb9 := bb8.trans (b9.mono bb7.size)
          have b79 := b8'.trans b9
          have ff9 := ff7.step b79
          have fo9 := fo.step b79
          have r9 := Ov.rv o9
          have hLK : (L ++ K).length = L.length + K.length := List.length_append
          have HLK := Lib.hid hLK
          have hKB2 : ∀ x ∈ L ++ K, x < 18446744073709551616 := fun x hx => (List.mem_append.1 hx).elim (fun h => HLB.out x h) (fun h => HKB.out x h)
          have HKB2 := Lib.hid hKB2
          generalize L ++ K = M at r9 JA HLK HKB2
          clear o9 o8 hLK hKB2 b8 b8' b9 b79 bb8 bb7
          have hcj2 : (cntB lj : Int) ≤ 4 * ((L.length : Int) + (K.length : Int)) := by omega
          have hnn : L.length + K.length ≤ 200 := by omega
          clear hcj
          generalize L.length + K.length = nn at r9 HLK hnn ⊢
          go_wp2_with fail

          go_loopw [18, 94] (fun y i wr => ∃ (j : Nat), j ≤ nn ∧ i = .int .i64 j ∧ Below w9.heap.size w9 wr) (fun _ i _ => nn - (intOf i).toNat)
          case atStart => exact ⟨0, Nat.zero_le _, rfl, Below.refl _ _⟩
          case round =>
            obtain ⟨j, hj, rfl, bj⟩ := hrel
            by_cases hlt2 : j < nn
            · obtain ⟨ad, u, rfl, -, hu, hc⟩ := (r9.step bj).some_ hlt2
              obtain ⟨x, hx, rfl⟩ := cus_get hu
              have hxb := HKB2.out x (List.mem_of_getElem? hx)
              have hja := JA.out x (List.mem_of_getElem? hx)
              have HJA := Lib.hid hja
              clear hu hx hja
              have hM1 := may_any _ _ gf x _ _ (ff9.step bj) hxb
              rw [HJL.out, HJA.out] at hM1
              have HM1 := Lib.hid hM1
              clear hM1
              go_wp2_with fail
              refine HM1.out.mono ?_
              rintro e w10 ⟨rfl, b10⟩
              have bb10 := below_step bj b10
              clear hc
              have hM2 := may_any _ _ go x _ _ (fo9.step bb10) hxb
              rw [HJL.out, HJA.out] at hM2
              have HM2 := Lib.hid hM2
              clear hM2
              go_wp2_with fail
              refine HM2.out.mono ?_
              rintro e w11 ⟨rfl, b11⟩
              have bb11 := below_step bb10 b11
              go_wp2_with fail
              go_roundw
              case rel => exact ⟨j + 1, by omega, by go_num, bb11⟩
              case measure => simp [intOf]; omega
            · go_wp2_with fail
              refine (set_any _ _ gf _ _ (ff9.step bj)).mono ?_
              rintro e w10 ⟨rfl, rfl⟩
              go_wp2_with fail
              refine (FEW1.out _).mono ?_
              rintro e w10 ⟨rfl, rfl⟩
              go_wp2_with fail
              refine (FEW2.out _).mono ?_
              rintro e w10 ⟨rfl, rfl⟩
              go_wp2_with fail
              go_ret
              exact ⟨rfl, below_step bb9 bj⟩


set_option maxRecDepth 100000 in
theorem lifted_bloomHolds (os : Os) (started : os.Started) (H : Type) (enc : TypeId × Value → H) :
    ReturnsInHanded {} Try.checked os 9 .any (Rows.bloomHoldsSpec.pre6 enc Try.prog Try.f9 Rows.bloomHoldsRow.domain false) (Rows.bloomHoldsSpec.post enc Try.prog Try.f9 false true false false) := by
  refine returnsInHanded_of_change_sized (C := Try.checked) own started (by kernel_rfl) Try.func9
    (ChangeSpec.witness6 (enc := enc) (C := Try.checked) false ⟨#[], #[.int .i64 0, .slice none 0 0, .slice none 0 0], []⟩ 8 (by kernel_rfl) (by kernel_rfl) (by kernel_rfl) (by kernel_rfl)) ?_
  intro W base args ds gs before hval0 hW hcnd hsz0 _
  have hval : ∀ (j : Nat) t v, Try.f9.params[j]? = some t → args[j]? = some v → Value.okWide Try.prog W .any base t v := hval0
  have hsz : (DataW.weightsEach Try.prog (Try.f9.params.toList ++ Rows.bloomHoldsSpec.plain.varTypes Try.prog) (ds ++ gs)).all (· ≤ reachBytes) = true := hsz0
  have hW' := hW
  obtain ⟨p, q, hA0, hV, rfl, hfz, hnd⟩ := hW
  have hA : DataW.TrodAll enc Try.prog W 0 (fun _ => true) true Try.f9.params.toList args.toList ds p := hA0
  rw [Try.params9] at hA hval hsz
  obtain ⟨v0, vs0, d0, ds0, p0, q0, hargs, rfl, rfl, h0, t0⟩ := trodAll_cons hA
  obtain ⟨v1, vs1, d1, ds1, p1, q1, rfl, rfl, rfl, h1, t1⟩ := trodAll_cons t0
  obtain ⟨v2, vs2, d2, ds2, p2, q2, rfl, rfl, rfl, h2, t2⟩ := trodAll_cons t1
  obtain ⟨rfl, rfl, rfl⟩ := trodAll_nil t2
  obtain rfl : args = #[v0, v1, v2] := by cases args; simp_all
  obtain ⟨rfl, rfl⟩ := trodVars_none hV
  have k0 := h0
  obtain ⟨x0, rfl, rfl, rfl, wf0⟩ := open_int Try.underlying3 (hval 0 3 v0 rfl rfl) h0
  have m0 := wf_int wf0
  have k1 := h1
  obtain ⟨A1, n1, c1, l1, rfl, r1, y1⟩ := open_u64s (hval 1 36 v1 rfl rfl) h1
  have s1 := y1 (weights_of hsz (j := 1) rfl rfl)
  have k2 := h2
  obtain ⟨A2, n2, c2, l2, rfl, r2, y2⟩ := open_u64s (hval 2 36 v2 rfl rfl) h2
  have s2 := y2 (weights_of hsz (j := 2) rfl rfl)
  clear hA0 hval0
  refine (walk_bloomHolds x0 A1 n1 c1 l1 A2 n2 c2 l2 W m0 r1 s1 r2 s2).mono fun e W' ⟨he, bel⟩ => ?_
  subst he
  exact ⟨_, rfl, _, _, _, [], _, [], hW', trodAll_mk1 (shut_bool Try.underlying4 _), (trodAll_cons_mk (Below.trod laidOut (by kernel_rfl) (of_decide_eq_true (by kernel_rfl)) k0 bel (trod_places k0)) (trodAll_cons_mk (Below.trod laidOut (by kernel_rfl) (of_decide_eq_true (by kernel_rfl)) k1 bel (trod_places k1)) (trodAll_cons_mk (Below.trod laidOut (by kernel_rfl) (of_decide_eq_true (by kernel_rfl)) k2 bel (trod_places k2)) trodAll_mk0))), rfl, bel.frame _, fun h => by cases h⟩

theorem over_bloomHolds : Rows.bloomHoldsRow.holds Try.pinned (OpenSpec.ofChange Rows.bloomHoldsSpec) :=
  OpenClaim.holds_of_wide 9 Try.f9 rfl rfl rfl rfl rfl rfl rfl ⟨rfl, rfl, rfl, rfl, rfl⟩ rfl rfl rfl rfl rfl (by kernel_rfl) Try.func9 (by kernel_rfl)
    (of_decide_eq_true (by kernel_rfl)) (by unfold Func.isWrapper; first | (rw [if_pos (by decide +kernel)]; kernel_rfl) | (rw [if_neg (by decide +kernel)]; exact ⟨rfl, rfl⟩))
    (fun os started H enc _ => lifted_bloomHolds os started H enc)

/-- The statement. -/
theorem bloomHolds_holds : Rows.BloomHoldsSaid := over_bloomHolds
#print axioms bloomHolds_holds

end Go.Proofs.Ytbncjacbggngiaa

/- icehouselaw04.agree; icehouseref04.Join. Conditions: typed in each theorem. -/
import Derived.Test.YtbncjacbggngiaaBlt
namespace Go.Proofs.Ytbncjacbggngiaa
set_option linter.unusedVariables false
open Go.RowKit

theorem eqNt {a b : Nat} (h : a = b) : ((a : Int) != (b : Int)) = false := by rw [bne_eq_false_iff_eq, h]
set_option maxHeartbeats 2000000 in
theorem agree_any (B C g : Nat) (l : List UInt8) (A : Option Addr) (n c : Nat) (w : World) (hf : Flt w B C g l) (hr : Rv w w.heap.size A n c (bls (bitsL l))) :
    Calls Try.prog 25 #[.pointer (some ⟨g, 0, none⟩), .slice A n c] w (BoxB true w) := by
  have hlen := hf.len
  have hn := hr.lenB
  rw [length_bitsL] at hn
  subst hn
  have hcc := Lib.hid (eqNt (cntB_eq l))
  go_enter Try.func25, Try.ntmps25
  go_wp2_with fail
  refine (bytes_any B C g l _ hf).mono ?_
  rintro e w1 ⟨A1, c1, rfl, o1, b1⟩
  go_wp2_with fail
  refine (rbytes_any A _ c l _ (hr.step b1) hlen.1 hlen.2).mono ?_
  rintro e w2 ⟨A2, c2, rfl, o2, b2⟩
  have b := below_step b1 b2
  have hf2 := hf.step b
  have hr2 := hr.step b
  obtain ⟨k1, rfl, hk1, hk2⟩ := o1.row (by omega)
  have o1' := o1.step b2
  have b1s := b1.size
  go_wp2_with fail
  refine (bits_any B C g l _ hf2).mono ?_
  rintro e w3 ⟨rfl, rfl⟩
  go_wp2_with fail
  refine (set_any B C g l _ hf2).mono ?_
  rintro e w3 ⟨rfl, rfl⟩
  go_wp2_with fail
  refine (rset_any A _ c _ _ _ hr2).mono ?_
  rintro e w3 ⟨rfl, rfl⟩
  have tt := hcc.out
  go_wp2_with fail
  refine (bequal_any _ _ _ _ _ _ _ _ _ _ _ o1'.rd o2.rd (by omega) (by omega) rfl).mono ?_
  rintro e w3 ⟨rfl, rfl⟩
  clear tt
  go_wp2_with fail
  generalize hL : fltBytes l = L at o1' o2
  have HL := Lib.hid hL
  clear hL o1
  go_loopw [7, 32] (fun y i wr => ∃ (j : Nat) (l' : List UInt8), j ≤ l.length + 4 ∧ i = .int .i64 j ∧ Own wr w.heap.size (some ⟨k1, 0, none⟩) (l.length + 4) c1 l' ∧ Own wr w1.heap.size A2 (l.length + 4) c2 L ∧ Below w.heap.size w wr) (fun _ i _ => l.length + 4 - (intOf i).toNat)
  case atStart => exact ⟨0, L, Nat.zero_le _, rfl, o1', o2, b⟩
  case round =>
    obtain ⟨j, l', hj, rfl, oj, oj2, bj⟩ := hrel
    by_cases hlt : j < l.length + 4
    · obtain ⟨x, hx, hcx⟩ := oj.cellAt hlt
      have hfx := oj.frozenAt j
      have o3 := oj.stored j 238
      have e3 : cb 238 = .int .u8 238 := rfl
      rw [e3] at o3
      have o4 := oj2.kept (rdr_grown_set wr k1 j (.int .u8 238)) hk2
      have b3 := bj.setCell (p := ⟨k1, j, none⟩) hk1 (.int .u8 238)
      clear hx e3
      go_wp2_with fail
      go_roundw
      case rel => exact ⟨j + 1, _, by omega, by go_num, o3, o4, b3⟩
      case measure => simp [intOf]; omega
    · have ff := hf.step bj
      go_wp2_with fail
      refine (bytes_any B C g l _ ff).mono ?_
      rintro e w5 ⟨A5, c5, rfl, o5, b5⟩
      rw [HL.out] at o5
      go_wp2_with fail
      refine (bequal_any _ _ _ _ _ _ _ _ _ _ _ o5.rd (oj2.step b5).rd (by omega) (by omega) rfl).mono ?_
      rintro e w7 ⟨rfl, rfl⟩
      go_wp2_with fail
      go_ret
      exact ⟨rfl, below_step bj b5⟩

theorem orLs_step {a b : List Bool} {j : Nat} {x y : Bool} (hl : a.length = b.length) (hx : a[j]? = some x) (hy : b[j]? = some y) :
    (orLs (a.take j) (b.take j) ++ a.drop j).set j (x || y) = orLs (a.take (j + 1)) (b.take (j + 1)) ++ a.drop (j + 1) := by
  have hj : j < a.length := (List.getElem?_eq_some_iff.1 hx).1
  have h1 : (orLs (a.take j) (b.take j)).length = j := by simp [orLs]; omega
  rw [List.set_append_right _ _ (by omega), h1, Nat.sub_self, take_snoc_of hx, take_snoc_of hy]
  rw [List.drop_eq_getElem_cons hj, List.set_cons_zero]
  unfold orLs
  rw [List.zipWith_append (by simp; omega)]
  simp
theorem orLs_get {a b : List Bool} {j : Nat} {x : Bool} (hl : a.length = b.length) (hx : a[j]? = some x) : (orLs (a.take j) (b.take j) ++ a.drop j)[j]? = some x := by
  have hj : j < a.length := (List.getElem?_eq_some_iff.1 hx).1
  have h1 : (orLs (a.take j) (b.take j)).length = j := by simp [orLs]; omega
  rw [List.getElem?_append_right (by omega), h1, Nat.sub_self, List.getElem?_drop]
  simpa using hx
set_option maxHeartbeats 1000000 in
theorem rjoin_any (A1 A2 : Option Addr) (n c1 c2 : Nat) (L1 L2 : List Bool) (w : World) (r1 : Rv w w.heap.size A1 n c1 (bls L1)) (r2 : Rv w w.heap.size A2 n c2 (bls L2)) (hn : 0 < n) (hn2 : n ≤ 65536) :
    Calls Try.prog 27 #[.slice A1 n c1, .slice A2 n c2] w (SliceB n (orLs L1 L2) w) := by
  have e1 := r1.lenB
  have e2 := r2.lenB
  subst e1
  have HE := Lib.hid e2
  go_enter Try.func27, Try.ntmps27
  go_wp2_with (at_builtin; refine wpList_appB _ rfl _ _ rfl w.heap.size (some ⟨w.heap.size, 0, none⟩) 0 0 [] rfl (Ov.empty w _ _ (Nat.le_refl _)) w.heap.size A1 L1.length c1 L1 rfl (r1.alloc (Nat.le_refl _) _) (by omega) (by simp) ?_)
  intro A3 c3 w1 o1 b1
  have hb1 : Below w.heap.size w w1 := ((Below.refl _ _).alloc (Nat.le_refl _) _).trans b1
  clear e2
  obtain ⟨k1, rfl, hk1, hk2⟩ := Ov.row o1 (by omega)
  clear b1
  go_wp2_with fail
  go_loopw [6, 12] (fun x i wr => ∃ j : Nat, j ≤ L1.length ∧ i = .int .i64 j ∧ Ov wr w.heap.size 4 (some ⟨k1, 0, none⟩) L1.length c3 (bls (orLs (L1.take j) (L2.take j) ++ L1.drop j)) ∧ Below w.heap.size w wr) (fun _ i _ => L1.length - (intOf i).toNat)
  case atStart => exact ⟨0, by omega, rfl, by simpa [orLs] using o1, hb1⟩
  case round =>
    obtain ⟨j, hj, rfl, oj, bj⟩ := hrel
    by_cases hlt : j < L1.length
    · obtain ⟨x, hx⟩ : ∃ x, L1[j]? = some x := ⟨_, List.getElem?_eq_getElem hlt⟩
      obtain ⟨x', hx', hcx⟩ := oj.cellAtB hlt
      obtain rfl : x = x' := Option.some.inj ((orLs_get HE.out.symm hx).symm.trans hx')
      obtain ⟨ad2, y, rfl, -, hy, hcy⟩ := (r2.below bj).atB hlt
      have hfx := oj.frozenAt j
      have o3 := oj.storedB j (x || y)
      rw [orLs_step HE.out.symm hx hy] at o3
      have b3 := bj.setCell (p := ⟨k1, j, none⟩) hk1 (.bool (x || y))
      clear hx hx' hy
      cases x
      · rw [Bool.false_or] at o3 b3
        go_wp2_with fail
        go_roundw
        case rel => exact ⟨j + 1, by omega, by go_num, o3, b3⟩
        case measure => simp [intOf]; omega
      · rw [Bool.true_or] at o3 b3
        go_wp2_with fail
        go_roundw
        case rel => exact ⟨j + 1, by omega, by go_num, o3, b3⟩
        case measure => simp [intOf]; omega
    · go_wp2
      go_ret
      obtain rfl : j = L1.length := by omega
      rw [List.take_of_length_le (Nat.le_refl _), List.take_of_length_le (Nat.le_of_eq HE.out), List.drop_of_length_le (Nat.le_refl _), List.append_nil] at oj
      exact ⟨_, c3, rfl, oj, bj⟩
end Go.Proofs.Ytbncjacbggngiaa

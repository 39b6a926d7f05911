/- Filters: Bytes, Join; nil filters. Conditions: typed in each theorem. -/
import Derived.Test.YtbncjacbggngiaaBlq
namespace Go.Proofs.Ytbncjacbggngiaa
set_option linter.unusedVariables false
open Go.RowKit

def OwnQ (n : Nat) (l : List UInt8) (w : World) (e : Ending) (w' : World) : Prop := ∃ A' c', e = .returned (.slice A' n c') ∧ Own w' w.heap.size A' n c' l ∧ Below w.heap.size w w'
def fltBytes (l : List UInt8) : List UInt8 := highB (8 * l.length) 4 ++ l
theorem put32_8 (n : Nat) (hn : n ≤ 8192) (w : World) :
    Calls Try.prog 33 #[.slice none 0 0, .int .u32 (8 * (n : Int))] w fun e w' => ∃ A' c', e = .returned (.slice A' (0 + 4) c') ∧ Own w' w.heap.size A' (0 + 4) c' ([] ++ highB (8 * n) 4) ∧ Below w.heap.size w w' := by
  have := put32_any none 0 0 0 (8 * n) (by omega) [] w (Rd.nil _ _) (Nat.zero_le _) (by omega)
  rw [Int.natCast_mul] at this
  exact this
theorem FltK.rd {w : World} {B C g k n c : Nat} {l : List UInt8} (h : FltK w B C g k n c l) : Rd w w.heap.size (some ⟨k, 0, none⟩) n c l := h.2.1.rd
set_option maxHeartbeats 400000 in
theorem bytes_any (B C g : Nat) (l : List UInt8) (w : World) (hf : Flt w B C g l) :
    Calls Try.prog 22 #[.pointer (some ⟨g, 0, none⟩)] w (OwnQ (l.length + 4) (fltBytes l) w) := by
  have hFl := hf
  have hlen := hf.len
  obtain ⟨k, n, c, hK⟩ := hf
  have hl := hK.len
  subst hl
  have c0 := hK.cell0
  have HK := Lib.hid hK
  clear hK
  have b := Below.refl w.heap.size w
  have hFd : Flt w.drew B C g l := hFl.step b.drew
  have hw8 : IntKind.u32.wrap (8 * (l.length : Int)) = 8 * (l.length : Int) := IntWalk.u32_in _ (by omega)
  have HKd := Lib.hid (HK.out.step b.drew)
  rw [show l.length + 4 = 0 + 4 + l.length from by omega, show fltBytes l = [] ++ highB (8 * l.length) 4 ++ l from rfl]
  go_enter Try.func22, Try.ntmps22
  go_wp2_with fail
  go_region_held3 (fun w' => w'.cell? ⟨g, 0, none⟩ = some (.slice (some ⟨k, 0, none⟩) l.length c)) (first | (with_reducible exact c0) | go_keep)
    (first
      | (go_at_call 13
         refine (bits_any B C g l _ hFd).mono ?_
         rintro e w1 ⟨rfl, rfl⟩)
      | (go_at_call 33
         ((with_reducible refine (put32_8 l.length hlen.2 _).mono ?_))
         rintro e w2 ⟨A2, c2, rfl, o2, b2⟩
         have K2 := HKd.out.step b2
         replace c0 := K2.cell0)
      | (refine step_app8 _ rfl _ _ rfl _ _ _ _ _ rfl o2 _ _ _ _ _ rfl K2.rd (by omega) b2.size ?_
         intro A3 c3 w3 o3 b3
         replace c0 : w3.cell? ⟨g, 0, none⟩ = some (.slice (some ⟨k, 0, none⟩) l.length c) := (b3.cell (by show g < w.heap.size; exact hFl.ptr)).trans c0)
      | fail)
  go_wp2_with fail
  go_ret
  exact ⟨A3, c3, rfl, o3, (below_step (b.drew) b2).trans (b3.mono (by have := b2.size; exact Nat.le_refl _))⟩

theorem orBs_step {a b : List UInt8} {j : Nat} {x y : UInt8} (hl : a.length = b.length) (hx : a[j]? = some x) (hy : b[j]? = some y) :
    (orBs (a.take j) (b.take j) ++ a.drop j).set j (UInt8.ofNat (x.toNat ||| y.toNat)) = orBs (a.take (j + 1)) (b.take (j + 1)) ++ a.drop (j + 1) := by
  have hj : j < a.length := (List.getElem?_eq_some_iff.1 hx).1
  have h1 : (orBs (a.take j) (b.take j)).length = j := by simp [orBs]; omega
  rw [List.set_append_right _ _ (by omega), h1, Nat.sub_self, take_snoc_of hx, take_snoc_of hy]
  rw [List.drop_eq_getElem_cons hj, List.set_cons_zero]
  unfold orBs
  rw [List.zipWith_append (by simp; omega)]
  simp
theorem orBs_get {a b : List UInt8} {j : Nat} {x : UInt8} (hl : a.length = b.length) (hx : a[j]? = some x) : (orBs (a.take j) (b.take j) ++ a.drop j)[j]? = some x := by
  have hj : j < a.length := (List.getElem?_eq_some_iff.1 hx).1
  have h1 : (orBs (a.take j) (b.take j)).length = j := by simp [orBs]; omega
  rw [List.getElem?_append_right (by omega), h1, Nat.sub_self, List.getElem?_drop]
  simpa using hx
theorem cb_or (x y : UInt8) : cb (UInt8.ofNat (x.toNat ||| y.toNat)) = .int .u8 ((x.toNat ||| y.toNat : Nat) : Int) := by
  unfold cb; rw [ofNat_or]
set_option maxHeartbeats 1000000 in
theorem join_any (B C g B2 C2 g2 : Nat) (l l2 : List UInt8) (w : World) (hf : Flt w B C g l) (hf2 : Flt w B2 C2 g2 l2) (hd : C ≤ B2 ∨ C2 ≤ B) (hl : l.length = l2.length) :
    Calls Try.prog 26 #[.pointer (some ⟨g, 0, none⟩), .pointer (some ⟨g2, 0, none⟩)] w (AddOk B C g (orBs l l2) w) := by
  have hlen := hf.len
  obtain ⟨k, n, c, hK⟩ := hf
  obtain ⟨k2, n2, c2, hK2⟩ := hf2
  obtain rfl := hK.len
  obtain rfl := hK2.len
  have c0 := hK.cell0
  have c20 := hK2.cell0
  have tn : ((l.length : Int) != (l2.length : Int)) = false := by rw [bne_eq_false_iff_eq]; omega
  have hm := hlen.2
  have hm2 : l2.length ≤ 8192 := by omega
  have HK := Lib.hid hK
  have HK2 := Lib.hid hK2
  have HL := Lib.hid hl
  have HD := Lib.hid hd
  clear hK hK2 hl hd
  go_enter Try.func26, Try.ntmps26
  go_wp2_with fail
  go_quiet (fail)
  go_wp2_with fail
  clear c0 c20
  go_loopw [5, 6, 31] (fun x y i wr => ∃ j : Nat, j ≤ l2.length ∧ i = .int .i64 j ∧ FltK wr B C g k l.length c (orBs (l.take j) (l2.take j) ++ l.drop j) ∧ OnlyIn w wr B C) (fun _ _ i _ => l2.length - (intOf i).toNat)
  case atStart => exact ⟨0, Nat.zero_le _, rfl, (by have := HK.out.step (quiet_self ⟨nq, rfl⟩); simpa [orBs] using this), OnlyIn.of_below (quiet_self ⟨nq, rfl⟩) _ _⟩
  case round =>
    obtain ⟨j, hj, rfl, Kj, onj⟩ := hrel
    by_cases hlt : j < l2.length
    · have hF2 : FltK wr B2 C2 g2 k2 l2.length c2 l2 := by
        have h2 := HK2.out
        have hd := HD.out
        have h4 := h2.2.2.2.1
        have h5 := h2.2.2.2.2.1
        have h6 := h2.2.2.2.2.2.1
        have h7 := h2.2.2.2.2.2.2.1
        have h8 := h2.kB
        exact h2.blks (onj.2.2.2.2 g2 (by omega) (by omega)) (onj.2.2.2.2 k2 (by omega) (by omega)) onj.size
      have hkl : j < l.length := by have := HL.out; omega
      obtain ⟨x, hx⟩ : ∃ x, l[j]? = some x := ⟨_, List.getElem?_eq_getElem hkl⟩
      obtain ⟨y, hy, hcy⟩ := hF2.2.1.cellAt (j := j) hlt
      obtain ⟨x', hx', hcx⟩ := Kj.2.1.cellAt (j := j) hkl
      obtain rfl : x = x' := Option.some.inj ((orBs_get HL.out hx).symm.trans hx')
      have hfx := Kj.2.1.frozenAt j
      have c0 := Kj.cell0
      have hor := u8_or_nat x.toNat y.toNat x.toNat_lt y.toNat_lt
      have K2 := Kj.set_ j (UInt8.ofNat (x.toNat ||| y.toNat))
      rw [orBs_step HL.out hx hy, cb_or] at K2
      have on2 := onj.trans (Kj.only j (.int .u8 ((x.toNat ||| y.toNat : Nat) : Int)))
      clear hx hy hx' hF2
      go_wp2_with fail
      go_roundw
      case rel => exact ⟨j + 1, by omega, by go_num, K2, on2⟩
      case measure => simp [intOf]; omega
    · go_wp2
      go_ret
      obtain rfl : j = l2.length := by omega
      refine ⟨rfl, ⟨k, l.length, c, ?_⟩, onj⟩
      have := Kj
      rw [List.take_of_length_le (Nat.le_of_eq HL.out), List.take_length, List.drop_of_length_le (Nat.le_of_eq HL.out), List.append_nil] at this
      exact this
theorem or_self8 (x : UInt8) : UInt8.ofNat (x.toNat ||| x.toNat) = x := by rw [Nat.or_self]; simp
set_option maxHeartbeats 1000000 in
theorem join_self (B C g : Nat) (l : List UInt8) (w : World) (hf : Flt w B C g l) :
    Calls Try.prog 26 #[.pointer (some ⟨g, 0, none⟩), .pointer (some ⟨g, 0, none⟩)] w (AddOk B C g l w) := by
  have hlen := hf.len
  obtain ⟨k, n, c, hK⟩ := hf
  obtain rfl := hK.len
  have c0 := hK.cell0
  have hm := hlen.2
  have HK := Lib.hid hK
  clear hK
  go_enter Try.func26, Try.ntmps26
  go_wp2_with fail
  go_quiet (fail)
  go_wp2_with fail
  clear c0
  go_loopw [5, 6, 31] (fun x y i wr => ∃ j : Nat, j ≤ l.length ∧ i = .int .i64 j ∧ FltK wr B C g k l.length c l ∧ OnlyIn w wr B C) (fun _ _ i _ => l.length - (intOf i).toNat)
  case atStart => exact ⟨0, Nat.zero_le _, rfl, HK.out.step (quiet_self ⟨nq, rfl⟩), OnlyIn.of_below (quiet_self ⟨nq, rfl⟩) _ _⟩
  case round =>
    obtain ⟨j, hj, rfl, Kj, onj⟩ := hrel
    by_cases hlt : j < l.length
    · obtain ⟨x, hx, hcx⟩ := Kj.2.1.cellAt (j := j) hlt
      have hfx := Kj.2.1.frozenAt j
      have c0 := Kj.cell0
      have hor := u8_or_nat x.toNat x.toNat x.toNat_lt x.toNat_lt
      have K2 := Kj.set_ j (UInt8.ofNat (x.toNat ||| x.toNat))
      rw [show l.set j (UInt8.ofNat (x.toNat ||| x.toNat)) = l from by rw [or_self8]; obtain ⟨h1, h2⟩ := List.getElem?_eq_some_iff.1 hx; rw [← h2]; exact List.set_getElem_self h1] at K2
      rw [or_self8] at K2
      rw [Nat.or_self] at hor
      have on2 := onj.trans (Kj.only j (cb x))
      unfold cb at K2 on2
      clear hx
      go_wp2_with fail
      go_roundw
      case rel => exact ⟨j + 1, by omega, by go_num, K2, on2⟩
      case measure => simp [intOf]; omega
    · go_wp2
      go_ret
      exact ⟨rfl, ⟨k, l.length, c, Kj⟩, onj⟩
set_option maxHeartbeats 1000000 in
theorem join_size (B C g B2 C2 g2 : Nat) (l l2 : List UInt8) (w : World) (hf : Flt w B C g l) (hf2 : Flt w B2 C2 g2 l2) (hl : l.length ≠ l2.length) :
    Calls Try.prog 26 #[.pointer (some ⟨g, 0, none⟩), .pointer (some ⟨g2, 0, none⟩)] w (Quiet (.int .i64 140) w) := by
  obtain ⟨k, n, c, hK⟩ := hf
  obtain ⟨k2, n2, c2, hK2⟩ := hf2
  obtain rfl := hK.len
  obtain rfl := hK2.len
  have c0 := hK.cell0
  have c20 := hK2.cell0
  have tn : ((l.length : Int) != (l2.length : Int)) = true := by rw [bne_iff_ne]; omega
  clear hl
  go_enter Try.func26, Try.ntmps26
  go_wp2_with fail
  go_quiet (fail)
  go_wp2_with fail
  go_ret
  exact ⟨rfl, by first | exact ⟨_, rfl⟩ | exact ⟨_, World.drewN_drewN _ _ _⟩⟩
theorem join_nil1 (p : Option Addr) (w : World) : Calls Try.prog 26 #[.pointer none, .pointer p] w fun e w' => e = .returned (.int .i64 1) ∧ w = w' := by
  go_enter Try.func26, Try.ntmps26
  go_wp2
  go_ret
  exact ⟨rfl, rfl⟩
theorem join_nil2 (g : Nat) (w : World) : Calls Try.prog 26 #[.pointer (some ⟨g, 0, none⟩), .pointer none] w fun e w' => e = .returned (.int .i64 1) ∧ w = w' := by
  go_enter Try.func26, Try.ntmps26
  go_wp2
  go_ret
  exact ⟨rfl, rfl⟩
theorem add_nil (h : Nat) (w : World) : Calls Try.prog 15 #[.pointer none, .int .u64 h] w fun e w' => e = .returned (.int .i64 1) ∧ w = w' := by
  go_enter Try.func15, Try.ntmps15
  go_wp2
  go_ret
  exact ⟨rfl, rfl⟩
theorem may_nil (h : Nat) (w : World) : Calls Try.prog 16 #[.pointer none, .int .u64 h] w fun e w' => e = .returned (.bool false) ∧ w = w' := by
  go_enter Try.func16, Try.ntmps16
  go_wp2_with fail
  go_step3
  go_wp2
  rw [Exit.noGoto_ret]
  go_ret
  exact ⟨rfl, rfl⟩
theorem set_nil (w : World) : Calls Try.prog 14 #[.pointer none] w fun e w' => e = .returned (.int .i64 0) ∧ w = w' := by
  go_enter Try.func14, Try.ntmps14
  go_wp2
  go_ret
  exact ⟨rfl, rfl⟩
theorem clear_nil (w : World) : Calls Try.prog 23 #[.pointer none] w fun e w' => e = .returned (.int .i64 1) ∧ w = w' := by
  go_enter Try.func23, Try.ntmps23
  go_wp2
  go_ret
  exact ⟨rfl, rfl⟩
theorem bytes_nil (w : World) : Calls Try.prog 22 #[.pointer none] w fun e w' => e = .returned (.slice none 0 0) ∧ w = w' := by
  go_enter Try.func22, Try.ntmps22
  go_wp2
  go_ret
  exact ⟨rfl, rfl⟩
end Go.Proofs.Ytbncjacbggngiaa

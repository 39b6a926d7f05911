/- The reader of bytes: octet.Read, take, Raw, number, U8, U16, U32, U64, Left, Err. Conditions: typed in each theorem. -/
import Derived.Test.YtnghmgbmflcngaaOctb
namespace Go.Proofs.Ytnghmgbmflcngaa
set_option linter.unusedVariables false
open Go.RowKit

theorem Own.kept {w w' : World} {B n c g : Nat} {A : Option Addr} {l : List UInt8} (h : Own w B A n c l) (hg : w.grownBy w' (some g)) (hlt : g < B) : Own w' B A n c l := by
  refine World.ownsRow.kept h hg ?_
  by_cases hn : (Value.slice A n c).ownBlock = none
  · exact Or.inl hn
  · refine Or.inr fun e => ?_
    have := (World.ownsRow.lt h g e).1
    omega

/-- A reader: block g holds its bytes l, its place at, its error err; all from block B on. -/
def Rdr (w : World) (B g : Nat) (l : List UInt8) (at_ : Nat) (err : Int) : Prop :=
  ∃ (A : Option Addr) (n c : Nat), w.heap[g]? = some (.cells #[.slice A n c, .int .i64 (at_ : Int), .int .i64 err] 187 (0, 0)) ∧ Own w B A n c l ∧ (∀ k, (Value.slice A n c).ownBlock = some k → k < g) ∧ B ≤ g ∧ at_ ≤ n ∧ n ≤ 281474976710656

section
variable {w w' : World} {B g : Nat} {l : List UInt8} {at_ : Nat} {err : Int}
theorem Rdr.lt (h : Rdr w B g l at_ err) : g < w.heap.size := by
  obtain ⟨_, _, _, h1, _⟩ := h
  exact (Array.getElem?_eq_some_iff.1 h1).1
theorem Rdr.ge (h : Rdr w B g l at_ err) : B ≤ g := by
  obtain ⟨_, _, _, _, _, _, h1, _⟩ := h; exact h1
theorem Rdr.le (h : Rdr w B g l at_ err) : at_ ≤ l.length := by
  obtain ⟨_, _, _, _, h2, _, _, h1, _⟩ := h; rw [h2.len]; exact h1
theorem Rdr.lmax (h : Rdr w B g l at_ err) : l.length ≤ 281474976710656 := by
  obtain ⟨_, _, _, _, h2, _, _, _, h1⟩ := h; rw [h2.len]; exact h1
theorem Rdr.below (h : Rdr w B g l at_ err) (hb : Below w.heap.size w w') : Rdr w' B g l at_ err := by
  have hlt := h.lt
  obtain ⟨A, n, c, h1, h2, h3⟩ := h
  exact ⟨A, n, c, (hb.block g hlt).trans h1, h2.below hb, h3⟩
theorem Rdr.kept {g' : Nat} (h : Rdr w B g l at_ err) (hg : w.grownBy w' (some g')) (hlt : g' < B) : Rdr w' B g l at_ err := by
  have hl := h.lt
  have hge := h.ge
  obtain ⟨A, n, c, h1, h2, h3⟩ := h
  exact ⟨A, n, c, (hg.block g hl (fun e => by injection e; omega)).trans h1, h2.kept hg hlt, h3⟩
theorem Rdr.more {B' : Nat} (h : Rdr w B g l at_ err) (hB : B' ≤ B) : Rdr w B' g l at_ err := by
  obtain ⟨A, n, c, h1, h2, h3, h4, h5⟩ := h
  exact ⟨A, n, c, h1, h2.more hB, h3, by omega, h5⟩
end

theorem grown_below {w w1 w2 : World} {row : Option Nat} (h : w.grownBy w1 row) (hb : Below w1.heap.size w1 w2) : w.grownBy w2 row :=
  ⟨hb.os.trans h.os, hb.tape.trans h.tape, hb.output.trans h.output, Nat.le_trans h.size hb.size, fun k hk hne => (hb.block k (Nat.lt_of_lt_of_le hk h.size)).trans (h.block k hk hne)⟩
theorem grown_trans {w w1 w2 : World} {row : Option Nat} (h : w.grownBy w1 row) (h2 : w1.grownBy w2 row) : w.grownBy w2 row :=
  ⟨h2.os.trans h.os, h2.tape.trans h.tape, h2.output.trans h.output, Nat.le_trans h.size h2.size, fun k hk hne => (h2.block k (Nat.lt_of_lt_of_le hk h.size) hne).trans (h.block k hk hne)⟩
theorem grown_of_below {w w' : World} {row : Option Nat} (h : Below w.heap.size w w') : w.grownBy w' row := ⟨h.os, h.tape, h.output, h.size, fun k hk _ => h.block k hk⟩
theorem grown_drewN {w w' : World} {row : Option Nat} (h : w.grownBy w' row) (q : Nat) : w.grownBy (w'.drewN q) row := ⟨h.os, h.tape, h.output, h.size, h.block⟩
theorem below_grown {w w' : World} {B g : Nat} (h : w.grownBy w' (some g)) (hg : B ≤ g) (hlt : g < w.heap.size) : Below B w w' :=
  (Below.refl B w).grown h (by omega) fun k hk => by injection hk; omega
theorem below_dN {B : Nat} {a w : World} (h : Below B a w) (n : Nat) : Below B a (w.drewN n) := ⟨h.os, h.tape, h.output, h.size, h.block⟩

set_option maxHeartbeats 400000 in
theorem read_any (A : Option Addr) (n c B : Nat) (l : List UInt8) (w : World) (h : Rd w B A n c l) (hB : B ≤ w.heap.size) (hn : n ≤ 281474976710656) :
    Calls Try.prog 120 #[.slice A n c] w fun e w' => ∃ g, e = .returned (.pointer (some ⟨g, 0, none⟩)) ∧ Rdr w' w.heap.size g l 0 0 ∧ Below w.heap.size w w' := by
  go_enter Try.func120, Try.ntmps120
  go_wp2_with (go_at_call 99; refine (clone_any A n c B l _ h hB (by omega)).mono ?_; rintro e w' ⟨A', c', rfl, ho, hb⟩)
  go_ret
  refine ⟨w'.heap.size, rfl, ⟨A', n, c', heap_alloc_new _ _, ho.alloc _, ?_, hb.size, Nat.zero_le _, hn⟩, hb.alloc hb.size _⟩
  intro k hk
  exact (World.ownsRow.lt ho k hk).2

/-- What taking n bytes gives: the bytes, the new place, the new error. -/
def takeR (l : List UInt8) (at_ : Nat) (err n : Int) : List UInt8 × Nat × Int :=
  if err ≠ 0 then ([], at_, err) else if n < 0 then ([], at_, 2) else if n > (l.length : Int) - at_ then ([], at_, 9) else ((l.drop at_).take n.toNat, at_ + n.toNat, 0)

theorem rdr_grown_set (w : World) (g i : Nat) (v : Value) : w.grownBy (w.setCell ⟨g, i, none⟩ v) (some g) :=
  ⟨rfl, rfl, rfl, by simp, fun k _ hk => heap_setCell_other w ⟨g, i, none⟩ k v (fun e => hk (by simp [e]))⟩
theorem rdr_grown_dset (w : World) (g i q : Nat) (v : Value) : w.grownBy ((w.drewN q).setCell ⟨g, i, none⟩ v) (some g) :=
  grown_trans (grown_drewN (World.grownBy.refl w _) q) (rdr_grown_set (w.drewN q) g i v)
theorem own_set {w : World} {B n c g i : Nat} {A : Option Addr} {l : List UInt8} (h2 : Own w B A n c l) (h3 : ∀ k, (Value.slice A n c).ownBlock = some k → k < g) (v : Value) : Own (w.setCell ⟨g, i, none⟩ v) B A n c l := by
  refine World.ownsRow.kept h2 (rdr_grown_set w g i v) ?_
  by_cases hn : (Value.slice A n c).ownBlock = none
  · exact Or.inl hn
  · exact Or.inr fun e => Nat.lt_irrefl _ (h3 g e)
theorem rdr_set2 {w : World} {B g n c at_ : Nat} {A : Option Addr} {l : List UInt8} {err : Int} (h1 : w.heap[g]? = some (.cells #[.slice A n c, .int .i64 (at_ : Int), .int .i64 err] 187 (0, 0))) (h2 : Own w B A n c l)
    (h3 : ∀ k, (Value.slice A n c).ownBlock = some k → k < g) (h4 : B ≤ g) (h5 : at_ ≤ n) (h6 : n ≤ 281474976710656) (err' : Int) : Rdr (w.setCell ⟨g, 2, none⟩ (.int .i64 err')) B g l at_ err' :=
  ⟨A, n, c, heap_setCell_same w g 2 _ _ _ h1, own_set h2 h3 _, h3, h4, h5, h6⟩
theorem rdr_set1 {w : World} {B g n c at_ at2 : Nat} {A : Option Addr} {l : List UInt8} {err : Int} (h1 : w.heap[g]? = some (.cells #[.slice A n c, .int .i64 (at_ : Int), .int .i64 err] 187 (0, 0))) (h2 : Own w B A n c l)
    (h3 : ∀ k, (Value.slice A n c).ownBlock = some k → k < g) (h4 : B ≤ g) (h5 : at2 ≤ n) (h6 : n ≤ 281474976710656) : Rdr (w.setCell ⟨g, 1, none⟩ (.int .i64 (at2 : Int))) B g l at2 err :=
  ⟨A, n, c, heap_setCell_same w g 1 _ _ _ h1, own_set h2 h3 _, h3, h4, h5, h6⟩
theorem Rdr.drewN {w : World} {B g : Nat} {l : List UInt8} {at_ : Nat} {err : Int} (h : Rdr w B g l at_ err) (q : Nat) : Rdr (w.drewN q) B g l at_ err := h

theorem rd_lift {w : World} {B n n' c c' g i : Nat} {v : Value} {A : Option Addr} {l l' : List UInt8} (h : Rd w B A n c l) (hn : n = n') (hb : ∀ ad, A = some ad → ad.block < g) (hl : l = l') (hc : c = c') (gg : Nat) (hgg : gg = g := by rfl) :
    Rd (w.setCell ⟨g, i, none⟩ v) gg A n' c' l' := by
  subst hn; subst hl; subst hc; subst hgg
  obtain ⟨h1, h2, h3, h4, h5, h6⟩ := h
  refine ⟨h1, h2, h3, h4, fun ad hA _ => hb ad hA, fun ad j u hA hu => ?_⟩
  rw [World.cell?_setCell_other]
  · exact h6 ad j u hA hu
  · intro e
    have := congrArg Addr.block e
    rw [block_add] at this
    have h7 := hb ad hA
    simp at this
    omega
theorem blk_map {A : Option Addr} {g : Nat} (h : ∀ ad, A = some ad → ad.block < g) (i : Nat) : ∀ ad, A.map (·.add i) = some ad → ad.block < g := by
  intro ad hA
  cases A with
  | none => cases hA
  | some a => simp at hA; subst hA; rw [block_add]; exact h a rfl

set_option maxHeartbeats 400000 in
theorem take_any (l : List UInt8) (at_ : Nat) (err m : Int) (g B : Nat) (w : World) (h : Rdr w B g l at_ err) :
    Calls Try.prog 134 #[.pointer (some ⟨g, 0, none⟩), .int .i64 m] w fun e w' => ∃ A n c, e = .returned (.slice A n c) ∧ Rd w' g A n c (takeR l at_ err m).1 ∧ Rdr w' B g l (takeR l at_ err m).2.1 (takeR l at_ err m).2.2 ∧ w.grownBy w' (some g) := by
  have h' := h
  obtain ⟨A, n, c, h1, h2, h3, h4, h5, h6⟩ := h
  have c0 : w.cell? ⟨g, 0, none⟩ = some (.slice A n c) := cell_of_row w g 0 _ _ (0, 0) h1
  have c1 : w.cell? ⟨g, 1, none⟩ = some (.int .i64 (at_ : Int)) := cell_of_row w g 1 _ _ (0, 0) h1
  have c2 : w.cell? ⟨g, 2, none⟩ = some (.int .i64 err) := cell_of_row w g 2 _ _ (0, 0) h1
  have f1 : w.frozen? ⟨g, 1, none⟩ = false := frozen_of_row w g 1 _ _ h1
  have f2 : w.frozen? ⟨g, 2, none⟩ = false := frozen_of_row w g 2 _ _ h1
  have hcap := h2.rd.cap
  have hmx := h2.rd.max
  unfold maxLen at hmx
  have hl := h2.len
  by_cases he : err = 0
  · by_cases hm0 : m < 0
    · subst he
      have e1 : takeR l at_ 0 m = ([], at_, 2) := by simp [takeR, hm0]
      rw [e1]
      clear hl
      go_enter Try.func134, Try.ntmps134
      go_wp2
      go_ret
      refine ⟨none, 0, 0, rfl, Rd.nil _ _, ?_, rdr_grown_set w g 2 _⟩
      exact rdr_set2 h1 h2 h3 h4 h5 h6 2
    · obtain ⟨m, rfl⟩ := Int.eq_ofNat_of_zero_le (show 0 ≤ m by omega)
      by_cases hm1 : m ≤ n - at_
      · subst he
        have e1 : takeR l at_ 0 m = ((l.drop at_).take m, at_ + m, 0) := by
          unfold takeR
          rw [if_neg (by omega), if_neg (by omega), if_neg (by omega)]; simp
        rw [e1]
        have hR := (h2.rd.cut (i := at_) (j := at_ + m) (by omega) (by omega))
        have hlt : ¬ (n : Int) - at_ < m := by omega
        have hblk : ∀ ad, A = some ad → ad.block < g := fun ad hA => h3 _ (by rw [hA]; rfl)
        have e2 : (l.take (at_ + m)).drop at_ = (l.drop at_).take m := by rw [List.drop_take]; congr 1; omega
        clear hl
        go_enter Try.func134, Try.ntmps134
        go_wp2
        go_quiet (fail)
        go_wp2
        go_quiet (fail)
        go_wp2
        all_goals
          go_ret
          refine ⟨_, _, _, rfl, ?_, ?_, ?_⟩
          · first
              | (have hc : c = at_ := by assumption
                 rw [if_pos hc] at hR
                 exact rd_lift hR (by omega) hblk e2 (by omega) g)
              | (have hc : ¬ c = at_ := by assumption
                 rw [if_neg hc] at hR
                 exact rd_lift hR (by omega) (blk_map hblk at_) e2 rfl g)
          · exact rdr_set1 (at2 := at_ + m) h1 h2 h3 h4 (by omega) h6
          · exact grown_drewN (rdr_grown_dset w g 1 _ _) _
      · subst he
        have e1 : takeR l at_ 0 m = ([], at_, 9) := by
          unfold takeR
          rw [if_neg (by omega), if_neg (by omega), if_pos (by omega)]
        rw [e1]
        have hlt : (n : Int) - at_ < m := by omega
        clear hl
        go_enter Try.func134, Try.ntmps134
        go_wp2
        go_quiet (fail)
        go_wp2
        go_ret
        refine ⟨none, 0, 0, rfl, Rd.nil _ _, ?_, ?_⟩
        · exact rdr_set2 h1 h2 h3 h4 h5 h6 9
        · exact rdr_grown_dset w g 2 _ _
  · have hne : (err != 0) = true := by rw [bne_iff_ne]; exact he
    have e1 : takeR l at_ err m = ([], at_, err) := if_pos he
    rw [e1]
    go_enter Try.func134, Try.ntmps134
    go_wp2
    go_ret
    exact ⟨none, 0, 0, rfl, Rd.nil _ _, h', World.grownBy.refl _ _⟩

theorem takeR_le (l : List UInt8) (at_ : Nat) (err n : Int) : (takeR l at_ err n).1.length ≤ l.length := by
  unfold takeR
  split
  · simp
  · split
    · simp
    · split
      · simp
      · simp; omega

/-- What a call on the reader leaves: its own block may have turned, and new blocks. -/
def RdrOut (w : World) (B g : Nat) (l : List UInt8) (at_ : Nat) (err n : Int) (w' : World) : Prop :=
  Rdr w' B g l (takeR l at_ err n).2.1 (takeR l at_ err n).2.2 ∧ w.grownBy w' (some g)

set_option maxHeartbeats 400000 in
theorem raw_any (l : List UInt8) (at_ : Nat) (err m : Int) (g B : Nat) (w : World) (h : Rdr w B g l at_ err) :
    Calls Try.prog 133 #[.pointer (some ⟨g, 0, none⟩), .int .i64 m] w fun e w' => ∃ A n c, e = .returned (.slice A n c) ∧ Own w' w.heap.size A n c (takeR l at_ err m).1 ∧ RdrOut w B g l at_ err m w' := by
  go_enter Try.func133, Try.ntmps133
  go_wp2_with fail
  refine (take_any l at_ err m g B _ h).mono ?_
  rintro e w1 ⟨A, n, c, rfl, h1, h2, h3⟩
  have hlt := h2.lt
  have hn : n ≤ 281474976710656 := by have := h1.len; have := takeR_le l at_ err m; have := h.lmax; omega
  go_wp2_with fail
  refine (clone_any A n c g _ _ h1 (by omega) hn).mono ?_
  rintro e w2 ⟨A2, c2, rfl, h4, h5⟩
  go_wp2_with fail
  go_ret
  exact ⟨A2, n, c2, rfl, h4.more h3.size, h2.below h5, grown_below h3 h5⟩

def U64Q (w : World) (B g : Nat) (l : List UInt8) (at_ : Nat) (err n : Int) (kd : IntKind) (M : Nat) (e : Ending) (w' : World) : Prop :=
  e = .returned (.int kd ((numQ (takeR l at_ err n).1 % M : Nat) : Int)) ∧ RdrOut w B g l at_ err n w'

theorem numQ_or {l : List UInt8} {k : Nat} {x : UInt8} (h : l[k]? = some x) : ((numQ (l.take k) : Nat) * 256 % 18446744073709551616 ||| x.toNat) = numQ (l.take (k + 1)) := by
  have h1 : numQ (l.take (k + 1)) = ((numB (l.take k)) * 256 + x.toNat) % 18446744073709551616 := by
    rw [take_snoc_of h]; unfold numQ; rw [numB_snoc]
  have h2 : numQ (l.take k) = numB (l.take k) % 18446744073709551616 := rfl
  have hx := x.toNat_lt
  rw [h1, h2]
  generalize numB (l.take k) = y
  have e1 : y % 18446744073709551616 * 256 % 18446744073709551616 = 2 ^ 8 * (y % 72057594037927936) := by omega
  rw [e1, ← Nat.two_pow_add_eq_or_of_lt (by omega)]
  omega


theorem numQ_or_int {l : List UInt8} {k y : Nat} {x : UInt8} (h : l[k]? = some x) (hy : y = numQ (l.take k)) : bits BinOp.or IntKind.u64 (IntKind.u64.wrap ((y : Int) * 256)) (x.toNat : Int) = (numQ (l.take (k + 1)) : Int) := by
  have e : IntKind.u64.wrap ((y : Int) * 256) = ((y * 256 % 18446744073709551616 : Nat) : Int) := by rw [IntKind.wrap_u64]; omega
  have hx := x.toNat_lt
  rw [e, u64_or_nat _ _ (Nat.mod_lt _ (by decide)) (by omega), hy, numQ_or h]

set_option maxHeartbeats 400000 in
theorem number_rd (l : List UInt8) (at_ : Nat) (err : Int) (m : Nat) (g B : Nat) (w : World) (h : Rdr w B g l at_ err) :
    Calls Try.prog 131 #[.pointer (some ⟨g, 0, none⟩), .int .i64 m] w (U64Q w B g l at_ err m .u64 18446744073709551616) := by
  go_enter Try.func131, Try.ntmps131
  go_wp2_with fail
  refine (raw_any l at_ err m g B _ h).mono ?_
  rintro e w1 ⟨A, n, c, rfl, h1, h2⟩
  have hR := h1.rd
  have m1 : (n : Int) ≤ 9223372036854775807 := by have := hR.cap; have := hR.max; unfold maxLen at this; omega
  go_wp2_with fail
  go_loop [5, 12] (fun x i => ∃ k y : Nat, k ≤ n ∧ i = .int .i64 k ∧ y = numQ ((takeR l at_ err m).1.take k) ∧ x = .int .u64 (y : Int)) (fun _ i => n - (intOf i).toNat)
  case atStart => exact ⟨0, 0, Nat.zero_le _, rfl, rfl, rfl⟩
  case round =>
    obtain ⟨k, y, hk, rfl, hy, rfl⟩ := hrel
    have hyl : y < 18446744073709551616 := by rw [hy]; exact numQ_lt _
    have HY := Lib.hid hy; clear hy
    by_cases hlt : k < n
    · obtain ⟨a1, x1, rfl, -, hx1, hc1⟩ := hR.at_ hlt
      have hxb : x1.toNat < 256 := x1.toNat_lt
      have HO := Lib.hid (numQ_or_int hx1 HY.out)
      go_wp2
      go_round
      case rel => exact ⟨k + 1, numQ ((takeR l at_ err m).1.take (k + 1)), by omega, by go_num, rfl, by rw [HO.out]⟩
      case measure => simp [intOf]; omega
    · go_wp2
      go_ret
      have e1 : y = numQ (takeR l at_ err m).1 % 18446744073709551616 := by
        rw [HY.out, List.take_of_length_le (by rw [hR.len]; omega), Nat.mod_eq_of_lt (numQ_lt _)]
      exact ⟨by rw [← e1]; rfl, h2⟩

set_option maxHeartbeats 400000 in
theorem u8_rd (l : List UInt8) (at_ : Nat) (err : Int) (g B : Nat) (w : World) (h : Rdr w B g l at_ err) :
    Calls Try.prog 123 #[.pointer (some ⟨g, 0, none⟩)] w (U64Q w B g l at_ err 1 .u8 256) := by
  go_enter Try.func123, Try.ntmps123
  go_wp2_with fail
  refine (number_rd l at_ err 1 g B _ h).mono ?_
  rintro e w1 ⟨rfl, h2⟩
  rw [Nat.mod_eq_of_lt (numQ_lt _)]
  have hq := numQ_lt (takeR l at_ err (1 : Nat)).1
  generalize hQ : numQ (takeR l at_ err (1 : Nat)).1 = q at hq ⊢
  have HQ := Lib.hid hQ; clear hQ
  go_wp2_with fail
  go_ret
  exact ⟨by rw [show numQ (takeR l at_ err 1).1 = q from HQ.out]; congr 2, h2⟩

set_option maxHeartbeats 400000 in
theorem u16_rd (l : List UInt8) (at_ : Nat) (err : Int) (g B : Nat) (w : World) (h : Rdr w B g l at_ err) :
    Calls Try.prog 124 #[.pointer (some ⟨g, 0, none⟩)] w (U64Q w B g l at_ err 2 .u16 65536) := by
  go_enter Try.func124, Try.ntmps124
  go_wp2_with fail
  refine (number_rd l at_ err 2 g B _ h).mono ?_
  rintro e w1 ⟨rfl, h2⟩
  rw [Nat.mod_eq_of_lt (numQ_lt _)]
  have hq := numQ_lt (takeR l at_ err (2 : Nat)).1
  generalize hQ : numQ (takeR l at_ err (2 : Nat)).1 = q at hq ⊢
  have HQ := Lib.hid hQ; clear hQ
  go_wp2_with fail
  go_ret
  exact ⟨by rw [show numQ (takeR l at_ err 2).1 = q from HQ.out]; congr 2, h2⟩

set_option maxHeartbeats 400000 in
theorem u32_rd (l : List UInt8) (at_ : Nat) (err : Int) (g B : Nat) (w : World) (h : Rdr w B g l at_ err) :
    Calls Try.prog 121 #[.pointer (some ⟨g, 0, none⟩)] w (U64Q w B g l at_ err 4 .u32 4294967296) := by
  go_enter Try.func121, Try.ntmps121
  go_wp2_with fail
  refine (number_rd l at_ err 4 g B _ h).mono ?_
  rintro e w1 ⟨rfl, h2⟩
  rw [Nat.mod_eq_of_lt (numQ_lt _)]
  have hq := numQ_lt (takeR l at_ err (4 : Nat)).1
  generalize hQ : numQ (takeR l at_ err (4 : Nat)).1 = q at hq ⊢
  have HQ := Lib.hid hQ; clear hQ
  go_wp2_with fail
  go_ret
  exact ⟨by rw [show numQ (takeR l at_ err 4).1 = q from HQ.out]; congr 2, h2⟩

set_option maxHeartbeats 400000 in
theorem u64_rd (l : List UInt8) (at_ : Nat) (err : Int) (g B : Nat) (w : World) (h : Rdr w B g l at_ err) :
    Calls Try.prog 122 #[.pointer (some ⟨g, 0, none⟩)] w (U64Q w B g l at_ err 8 .u64 18446744073709551616) := by
  go_enter Try.func122, Try.ntmps122
  go_wp2_with fail
  refine (number_rd l at_ err 8 g B _ h).mono ?_
  rintro e w1 ⟨rfl, h2⟩
  rw [Nat.mod_eq_of_lt (numQ_lt _)]
  have hq := numQ_lt (takeR l at_ err (8 : Nat)).1
  generalize hQ : numQ (takeR l at_ err (8 : Nat)).1 = q at hq ⊢
  have HQ := Lib.hid hQ; clear hQ
  go_wp2_with fail
  go_ret
  exact ⟨by rw [show numQ (takeR l at_ err 8).1 = q from HQ.out, Nat.mod_eq_of_lt hq]; rfl, h2⟩

end Go.Proofs.Ytnghmgbmflcngaa

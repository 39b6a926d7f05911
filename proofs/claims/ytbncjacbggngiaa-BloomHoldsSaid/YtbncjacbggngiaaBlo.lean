/- Filters: bloom.New, Bits, Set, Add, May, Clear, Bytes. Conditions: typed in each theorem. -/
import Derived.Test.YtbncjacbggngiaaBlh
import Derived.Deep.RegionHeld3
namespace Go.Proofs.Ytbncjacbggngiaa
set_option linter.unusedVariables false
open Go.RowKit

/-- Only blocks from B to C, and what is new, have turned. -/
def OnlyIn (w w' : World) (B C : Nat) : Prop := w'.os = w.os ∧ w'.tape = w.tape ∧ w'.output = w.output ∧ w.heap.size ≤ w'.heap.size ∧ ∀ k, k < w.heap.size → ¬(B ≤ k ∧ k < C) → w'.heap[k]? = w.heap[k]?
section
variable {w w' w1 w2 : World} {B C : Nat}
theorem OnlyIn.refl (w : World) (B C : Nat) : OnlyIn w w B C := ⟨rfl, rfl, rfl, Nat.le_refl _, fun _ _ _ => rfl⟩
theorem OnlyIn.trans (h : OnlyIn w w1 B C) (h2 : OnlyIn w1 w2 B C) : OnlyIn w w2 B C :=
  ⟨h2.1.trans h.1, h2.2.1.trans h.2.1, h2.2.2.1.trans h.2.2.1, Nat.le_trans h.2.2.2.1 h2.2.2.2.1, fun k hk hn => (h2.2.2.2.2 k (Nat.lt_of_lt_of_le hk h.2.2.2.1) hn).trans (h.2.2.2.2 k hk hn)⟩
theorem OnlyIn.of_below (h : Below w.heap.size w w') (B C : Nat) : OnlyIn w w' B C := ⟨h.os, h.tape, h.output, h.size, fun k hk _ => h.block k hk⟩
theorem OnlyIn.size (h : OnlyIn w w' B C) : w.heap.size ≤ w'.heap.size := h.2.2.2.1
theorem OnlyIn.below {B0 : Nat} (h : OnlyIn w w' B C) (hB : B0 ≤ B) (hs : B0 ≤ w.heap.size) : Below B0 w w' :=
  ⟨h.1, h.2.1, h.2.2.1, h.2.2.2.1, fun k hk => h.2.2.2.2 k (Nat.lt_of_lt_of_le hk hs) (fun hh => by omega)⟩
theorem OnlyIn.drewN (h : OnlyIn w w' B C) (q : Nat) : OnlyIn w (w'.drewN q) B C := h
theorem OnlyIn.setCell (h : OnlyIn w w' B C) {p : Addr} (h1 : B ≤ p.block) (h2 : p.block < C) (v : Value) : OnlyIn w (w'.setCell p v) B C :=
  ⟨h.1, h.2.1, h.2.2.1, by simpa using h.2.2.2.1, fun k hk hn => (Below.heap_setCell w' p v k (fun e => by subst e; exact hn ⟨h1, h2⟩)).trans (h.2.2.2.2 k hk hn)⟩
theorem OnlyIn.setNew (h : OnlyIn w w' B C) {p : Addr} (h1 : w.heap.size ≤ p.block) (v : Value) : OnlyIn w (w'.setCell p v) B C :=
  ⟨h.1, h.2.1, h.2.2.1, by simpa using h.2.2.2.1, fun k hk hn => (Below.heap_setCell w' p v k (fun e => by subst e; omega)).trans (h.2.2.2.2 k hk hn)⟩
theorem OnlyIn.alloc (h : OnlyIn w w' B C) (o : Obj) : OnlyIn w (w'.alloc o) B C :=
  ⟨h.1, h.2.1, h.2.2.1, Nat.le_trans h.2.2.2.1 (by simp), fun k hk hn => (Below.heap_alloc w' o k (Nat.lt_of_lt_of_le hk h.2.2.2.1)).trans (h.2.2.2.2 k hk hn)⟩
end

/-- Own bytes at a row, while that block stays. -/
theorem Own.blk {w w' : World} {B k n c : Nat} {l : List UInt8} (h : Own w B (some ⟨k, 0, none⟩) n c l) (hk : w'.heap[k]? = w.heap[k]?) : Own w' B (some ⟨k, 0, none⟩) n c l := by
  refine ⟨h.1, ?_⟩
  rcases h.2 with ⟨hv, h0⟩ | ⟨g, cap, cur, hv, hg, hh, r⟩
  · injection hv with e; cases e
  · have e : k = g := by injection hv with e1; injection e1 with e2; injection e2
    subst e
    exact Or.inr ⟨k, cap, cur, hv, hg, hk.trans hh, r⟩
theorem Own.row {w : World} {B n c : Nat} {A : Option Addr} {l : List UInt8} (h : Own w B A n c l) (hn : 0 < n) : ∃ k, A = some ⟨k, 0, none⟩ ∧ B ≤ k ∧ k < w.heap.size := by
  rcases h.2 with ⟨hv, h0⟩ | ⟨g, cap, cur, hv, hg, hh, r⟩
  · omega
  · injection hv with e1
    exact ⟨g, e1, hg, (Array.getElem?_eq_some_iff.1 hh).1⟩
theorem Ov.kept {w w' : World} {B n c g : Nat} {e : TypeId} {A : Option Addr} {xs : List Value} (h : Ov w B e A n c xs) (hg : w.grownBy w' (some g)) (hlt : g < B) : Ov w' B e A n c xs := by
  refine World.ownsRow.kept h hg ?_
  by_cases hn : (Value.slice A n c).ownBlock = none
  · exact Or.inl hn
  · refine Or.inr fun e => ?_
    have := (World.ownsRow.lt h g e).1
    omega

/-- A filter: block g points to its bytes l, all in blocks from B to C. -/
def FltK (w : World) (B C g k n c : Nat) (l : List UInt8) : Prop :=
  Blk w g #[.slice (some ⟨k, 0, none⟩) n c] 56 ∧ Own w B (some ⟨k, 0, none⟩) n c l ∧ k ≠ g ∧ B ≤ g ∧ g < C ∧ k < C ∧ C ≤ w.heap.size ∧ 1 ≤ n ∧ n ≤ 8192
def Flt (w : World) (B C g : Nat) (l : List UInt8) : Prop := ∃ k n c, FltK w B C g k n c l
section
variable {w w' : World} {B C g k n c : Nat} {l : List UInt8}
theorem FltK.len (h : FltK w B C g k n c l) : l.length = n := h.2.1.len
theorem Flt.len (h : Flt w B C g l) : 1 ≤ l.length ∧ l.length ≤ 8192 := by
  obtain ⟨k, n, c, h⟩ := h
  have := h.len
  exact ⟨by have := h.2.2.2.2.2.2.2.1; omega, by have := h.2.2.2.2.2.2.2.2; omega⟩
theorem FltK.blks (h : FltK w B C g k n c l) (h1 : w'.heap[g]? = w.heap[g]?) (h2 : w'.heap[k]? = w.heap[k]?) (hs : w.heap.size ≤ w'.heap.size) : FltK w' B C g k n c l :=
  ⟨h1.trans h.1, h.2.1.blk h2, h.2.2.1, h.2.2.2.1, h.2.2.2.2.1, h.2.2.2.2.2.1, Nat.le_trans h.2.2.2.2.2.2.1 hs, h.2.2.2.2.2.2.2⟩
theorem FltK.kB (h : FltK w B C g k n c l) : B ≤ k := h.2.1.base.1
theorem Flt.far {B' C' : Nat} (h : Flt w B C g l) (ho : OnlyIn w w' B' C') (hd : C ≤ B' ∨ C' ≤ B) : Flt w' B C g l := by
  obtain ⟨k, n, c, h⟩ := h
  have h4 := h.2.2.2.1
  have h5 := h.2.2.2.2.1
  have h6 := h.2.2.2.2.2.1
  have h7 := h.2.2.2.2.2.2.1
  have h8 := h.kB
  exact ⟨k, n, c, h.blks (ho.2.2.2.2 g (by omega) (by omega)) (ho.2.2.2.2 k (by omega) (by omega)) ho.size⟩
theorem Flt.step (h : Flt w B C g l) (hb : Below w.heap.size w w') : Flt w' B C g l := h.far (OnlyIn.of_below hb 0 0) (Or.inr (Nat.zero_le _))
theorem FltK.step (h : FltK w B C g k n c l) (hb : Below w.heap.size w w') : FltK w' B C g k n c l := h.blks (hb.block g (by have := h.2.2.2.2.1; have := h.2.2.2.2.2.2.1; omega)) (hb.block k (by have := h.2.2.2.2.2.1; have := h.2.2.2.2.2.2.1; omega)) hb.size
theorem FltK.cell0 (h : FltK w B C g k n c l) : w.cell? ⟨g, 0, none⟩ = some (.slice (some ⟨k, 0, none⟩) n c) := box1 h.1
theorem Flt.ptr (h : Flt w B C g l) : g < w.heap.size := by
  obtain ⟨k, n, c, h⟩ := h
  have := h.2.2.2.2.1; have := h.2.2.2.2.2.2.1; omega
end

def NewOk (n : Nat) (w : World) (e : Ending) (w' : World) : Prop := ∃ g, e = .returned (.tuple #[.pointer (some ⟨g, 0, none⟩), .int .i64 0]) ∧ Flt w' w.heap.size w'.heap.size g (List.replicate n 0) ∧ Below w.heap.size w w'
theorem flt_new {w w1 : World} {n : Nat} (h1 : 1 ≤ n) (h2 : n ≤ 8192) (ho : Own w1 w.heap.size (some ⟨w.heap.size, 0, none⟩) n n (List.replicate n 0)) (hb : Below w.heap.size w w1) :
    Flt (w1.alloc (.cells #[.slice (some ⟨w.heap.size, 0, none⟩) n n] 56)) w.heap.size (w1.alloc (.cells #[.slice (some ⟨w.heap.size, 0, none⟩) n n] 56)).heap.size w1.heap.size (List.replicate n 0) := by
  have h := ho.base.2
  exact ⟨w.heap.size, n, n, Blk.new _ _ _, ho.alloc _, by omega, hb.size, by simp, by simp; omega, Nat.le_refl _, h1, h2⟩
set_option maxHeartbeats 400000 in
theorem new_ok (n : Nat) (h1 : 1 ≤ n) (h2 : n ≤ 8192) (b : Int) (hb : b = 8 * (n : Int)) (w : World) :
    Calls Try.prog 11 #[.int .i64 b] w (NewOk n w) := by
  have t0 : (8 * (n : Int) % 8 != 0) = false := by rw [bne_eq_false_iff_eq]; omega
  have t1 : 8 * (n : Int) / 8 = n := by omega
  subst hb
  go_enter Try.func11, Try.ntmps11
  go_wp2_with (at_make; refine wpList_mk8 _ rfl _ _ rfl w.heap.size n (by go_num) (by go_num) (by omega) (Nat.le_refl _) ?_)
  intro w1 ho hb
  go_wp2
  go_ret2
  exact ⟨_, rfl, flt_new h1 h2 ho hb, hb.alloc hb.size _⟩
theorem modI {b : Int} (h : b % 8 ≠ 0) : (b % 8 != 0) = true := by rw [bne_iff_ne]; exact h
set_option maxHeartbeats 400000 in
theorem new_no (b : Int) (hb : b < 8 ∨ 65536 < b ∨ b % 8 ≠ 0) (w : World) :
    Calls Try.prog 11 #[.int .i64 b] w fun e w' => e = .returned (.tuple #[.pointer none, .int .i64 2]) ∧ w = w' := by
  by_cases h1 : b < 8
  · clear hb
    go_enter Try.func11, Try.ntmps11
    go_wp2
    go_ret2
    exact ⟨rfl, rfl⟩
  by_cases h2 : 65536 < b
  · clear hb
    go_enter Try.func11, Try.ntmps11
    go_wp2
    go_ret2
    exact ⟨rfl, rfl⟩
  have t0 := modI (b := b) (by omega)
  clear hb
  go_enter Try.func11, Try.ntmps11
  go_wp2
  go_ret2
  exact ⟨rfl, rfl⟩

theorem bits_any (B C g : Nat) (l : List UInt8) (w : World) (h : Flt w B C g l) :
    Calls Try.prog 13 #[.pointer (some ⟨g, 0, none⟩)] w fun e w' => e = .returned (.int .i64 (8 * l.length : Nat)) ∧ w = w' := by
  obtain ⟨k, n, c, h⟩ := h
  have hl := h.len
  subst hl
  have c0 := h.cell0
  have h9 := h.2.2.2.2.2.2.2.2
  go_enter Try.func13, Try.ntmps13
  go_wp2
  go_ret
  exact ⟨ret_int (by push_cast; omega), rfl⟩
theorem bits_nil (w : World) : Calls Try.prog 13 #[.pointer none] w fun e w' => e = .returned (.int .i64 0) ∧ w = w' := by
  go_enter Try.func13, Try.ntmps13
  go_wp2
  go_ret
  exact ⟨rfl, rfl⟩

theorem and_pred (x : Nat) (hx : x < 256) (h0 : x ≠ 0) : bits .and .u8 (x : Int) ((x : Int) - 1) = ((x &&& (x - 1) : Nat) : Int) := by
  have := u8_and_nat x (x - 1) hx (by omega)
  rw [show ((x - 1 : Nat) : Int) = (x : Int) - 1 from by omega] at this
  exact this
theorem cntB_le : ∀ l : List UInt8, cntB l ≤ 8 * l.length
  | l => by rw [cntB_eq, ← length_bitsL]; exact cntL_le _
theorem cntB_step {l : List UInt8} {k : Nat} {x : UInt8} (h : l[k]? = some x) : cntB (l.take (k + 1)) = cntB (l.take k) + pc8 x := by
  rw [take_snoc_of h, cntB_append]; simp [cntB]
theorem cntB_take_le (l : List UInt8) (k : Nat) : cntB (l.take k) ≤ 8 * l.length := by
  have := cntB_le (l.take k); have := List.length_take_le k l; have := List.length_take (i := k) (l := l); omega
theorem ofNat_toNat (x : UInt8) : UInt8.ofNat x.toNat = x := by simp
theorem pc8_pos {x : UInt8} (h : pc8 x = 0) : x.toNat = 0 := by
  by_cases h0 : x.toNat = 0
  · exact h0
  · have := pc8_step x.toNat_lt h0
    rw [ofNat_toNat] at this; omega
set_option maxHeartbeats 1000000 in
theorem set_any (B C g : Nat) (l : List UInt8) (w : World) (h : Flt w B C g l) :
    Calls Try.prog 14 #[.pointer (some ⟨g, 0, none⟩)] w fun e w' => e = .returned (.int .i64 (cntB l : Nat)) ∧ w = w' := by
  obtain ⟨k, n, c, h⟩ := h
  have hl := h.len
  subst hl
  have c0 := h.cell0
  have h9 := h.2.2.2.2.2.2.2.2
  have hO := h.2.1
  go_enter Try.func14, Try.ntmps14
  go_wp2
  go_loop [3, 5, 13] (fun t x i => ∃ j m : Nat, j ≤ l.length ∧ m ≤ 65536 ∧ i = .int .i64 j ∧ t = .int .i64 m ∧ m = cntB (l.take j)) (fun _ _ i => l.length - (intOf i).toNat)
  case atStart => exact ⟨0, 0, Nat.zero_le _, by omega, rfl, rfl, rfl⟩
  case round =>
    obtain ⟨j, m, hj, hm, rfl, rfl, hmj⟩ := hrel
    by_cases hlt : j < l.length
    · obtain ⟨x, hx, hc⟩ := hO.cellAt hlt
      have hxb : x.toNat < 256 := x.toNat_lt
      have HS := Lib.hid (cntB_step hx)
      have HL := Lib.hid (cntB_take_le l (j + 1))
      have HM := Lib.hid hmj
      clear hmj hx
      go_wp2
      go_loop [3, 5] (fun t y => ∃ m' z : Nat, z < 256 ∧ m' ≤ 65536 ∧ y = .int .u8 (z : Int) ∧ t = .int .i64 m' ∧ m' + pc8 (UInt8.ofNat z) = cntB (l.take (j + 1))) (fun _ y => (intOf y).toNat)
      case atStart => exact ⟨m, x.toNat, hxb, hm, rfl, rfl, by rw [HS.out, HM.out, ofNat_toNat]⟩
      case round =>
        obtain ⟨m', z, hz, hm', rfl, rfl, hs⟩ := hrel
        have HZ := Lib.hid hs
        clear hs
        by_cases h0 : z = 0
        · subst h0
          go_wp2
          go_round
          case rel => exact ⟨j + 1, m', by omega, hm', by go_num, rfl, by have := HZ.out; rw [show pc8 (UInt8.ofNat 0) = 0 from pc8_zero] at this; omega⟩
          case measure => simp [intOf]; omega
        · have ha := and_pred z hz h0
          have hlt2 := and_pred_lt hz h0
          have hst := pc8_step hz h0
          have hm2 : m' < 65536 := by have := HZ.out; have := HL.out; omega
          have HST := Lib.hid hst
          clear hst
          have hzp : (0 : Int) < z := by omega
          go_wp2
          go_round
          case rel => exact ⟨m' + 1, z &&& (z - 1), by omega, by omega, rfl, by go_num, by have := HZ.out; have := HST.out; omega⟩
          case measure => simp [intOf]; omega
    · go_wp2
      go_ret
      obtain rfl : j = l.length := by omega
      exact ⟨by rw [List.take_length]; rfl, rfl⟩

def AddOk (B C g : Nat) (l : List UInt8) (w : World) (e : Ending) (w' : World) : Prop := e = .returned (.int .i64 0) ∧ Flt w' B C g l ∧ OnlyIn w w' B C
theorem take_snoc_setsB {l : List UInt8} {ps : List Nat} {j p : Nat} (h : ps[j]? = some p) : setsB l (ps.take (j + 1)) = setB (setsB l (ps.take j)) p := by
  rw [take_snoc_of h, setsB_snoc]
theorem ints_get {l : List Nat} {j : Nat} {u : Value} (h : (ints l)[j]? = some u) : ∃ p, l[j]? = some p ∧ u = .int .i64 (p : Int) := by
  unfold ints at h
  rw [List.getElem?_map] at h
  obtain ⟨p, hp, rfl⟩ := Option.map_eq_some_iff.1 h
  exact ⟨p, hp, rfl⟩
set_option maxHeartbeats 1000000 in
theorem add_any (B C g h : Nat) (l : List UInt8) (w : World) (hf : Flt w B C g l) (hh : h < 18446744073709551616) :
    Calls Try.prog 15 #[.pointer (some ⟨g, 0, none⟩), .int .u64 h] w (AddOk B C g (setsB l (prbs h (8 * l.length))) w) := by
  have hFl := hf
  have hlen := hf.len
  obtain ⟨k, n, c, hK⟩ := hf
  have hkC := hK.2.2.2.2.2.1
  have hCs := hK.2.2.2.2.2.2.1
  have hkB := hK.kB
  have HK := Lib.hid hK
  clear hK
  go_enter Try.func15, Try.ntmps15
  go_wp2_with fail
  refine (bits_any B C g l _ hFl).mono ?_
  rintro e w1 ⟨rfl, rfl⟩
  go_wp2_with fail
  refine (probes_any h (8 * l.length) hh (by omega) (by omega) _).mono ?_
  rintro e w1 ⟨A1, c1, rfl, o1, b1⟩
  generalize hps : prbs h (8 * l.length) = ps at o1
  have hpl : ∀ p ∈ ps, p < 8 * l.length := fun p hp => by rw [← hps] at hp; exact prbs_lt (by omega) hp
  have hp4 : ps.length = 4 := by rw [← hps]; rfl
  have HPS := Lib.hid hps
  have HPL := Lib.hid hpl
  have HP4 := Lib.hid hp4
  clear hps hpl hp4
  have K1 := HK.out.step b1
  have s1 := b1.size
  go_wp2_with fail
  go_loopw [6, 7, 8, 16] (fun x y z i wr => ∃ j : Nat, j ≤ 4 ∧ i = .int .i64 j ∧ FltK wr B C g k n c (setsB l (ps.take j)) ∧ Ov wr w.heap.size 3 A1 4 c1 (ints ps) ∧ OnlyIn w wr B C) (fun _ _ _ i _ => 4 - (intOf i).toNat)
  case atStart => exact ⟨0, by omega, rfl, K1, o1, OnlyIn.of_below b1 B C⟩
  case round =>
    obtain ⟨j, hj, rfl, Kj, oj, onj⟩ := hrel
    by_cases hlt : j < 4
    · obtain ⟨ad, u, rfl, -, hu, hc⟩ := (Ov.rv oj).some_ hlt
      obtain ⟨p, hp, rfl⟩ := ints_get hu
      have hpb := HPL.out p (List.mem_of_getElem? hp)
      have hlj := Kj.len
      have hll : (setsB l (ps.take j)).length = l.length := length_setsB _ _
      have hst := take_snoc_setsB (l := l) hp
      obtain ⟨x, hx, hcx⟩ := Kj.2.1.cellAt (j := p / 8) (by omega)
      have hfx := Kj.2.1.frozenAt (p / 8)
      rw [setB_of hx] at hst
      have HS := Lib.hid hst
      have c0 := Kj.cell0
      have hnn : p / 8 < n := by omega
      have hor := u8_or_nat x.toNat (one8 (p % 8)) x.toNat_lt (by unfold one8; exact Nat.lt_of_le_of_lt (Nat.pow_le_pow_right (by decide) (Nat.sub_le 7 _)) (by decide))
      have o2 := Own.stored Kj.2.1 (p / 8) (UInt8.ofNat (x.toNat ||| one8 (p % 8)))
      have e2 : cb (UInt8.ofNat (x.toNat ||| one8 (p % 8))) = .int .u8 ((x.toNat ||| one8 (p % 8) : Nat) : Int) := by
        unfold cb
        rw [UInt8.toNat_ofNat', Nat.mod_eq_of_lt]
        exact Nat.or_lt_two_pow (n := 8) x.toNat_lt (by unfold one8; exact Nat.lt_of_le_of_lt (Nat.pow_le_pow_right (by decide) (Nat.sub_le 7 _)) (by decide))
      rw [e2] at o2
      have K2 : FltK (wr.setCell ⟨k, p / 8, none⟩ (.int .u8 ((x.toNat ||| one8 (p % 8) : Nat) : Int))) B C g k n c (setsB l (ps.take (j + 1))) := by
        rw [HS.out]
        exact ⟨Kj.1.far (Ne.symm Kj.2.2.1) _, o2, Kj.2.2.1, Kj.2.2.2.1, Kj.2.2.2.2.1, Kj.2.2.2.2.2.1, by simpa using Kj.2.2.2.2.2.2.1, Kj.2.2.2.2.2.2.2⟩
      have oj2 : Ov (wr.setCell ⟨k, p / 8, none⟩ (.int .u8 ((x.toNat ||| one8 (p % 8) : Nat) : Int))) w.heap.size 3 (some ad) 4 c1 (ints ps) := oj.kept (rdr_grown_set wr k (p / 8) _) (by omega)
      have on2 := onj.setCell (p := ⟨k, p / 8, none⟩) hkB hkC (.int .u8 ((x.toNat ||| one8 (p % 8) : Nat) : Int))
      clear hst hx hu hlj hll e2 o2 hp
      go_wp2_with fail
      refine (at_any p (by omega) _).mono ?_
      rintro e w3 ⟨rfl, q, rfl⟩
      go_wp2_with fail
      go_roundw
      case rel => exact ⟨j + 1, by omega, by go_num, K2, oj2, on2⟩
      case measure => simp [intOf]; omega
    · go_wp2
      go_ret
      obtain rfl : j = 4 := by omega
      rw [List.take_of_length_le (by rw [HP4.out]; omega)] at Kj
      exact ⟨rfl, by rw [HPS.out]; exact ⟨k, n, c, Kj⟩, onj⟩
end Go.Proofs.Ytbncjacbggngiaa

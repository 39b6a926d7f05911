/- record.head. Conditions: typed in each theorem. -/
import Derived.Test.YtkdkmdjfimnkaaaRef
import Derived.Test.YtkdkmdjfimnkaaaOctr
namespace Go.Proofs.Ytkdkmdjfimnkaaa
set_option linter.unusedVariables false
open Go.RowKit

theorem blk_set6 {w : World} {g : Nat} {T : TypeId} {c0 c1 c2 c3 c4 c5 : Value} (h : Blk w g #[c0, c1, c2, c3, c4, c5] T) (v0 v1 v2 v3 v4 v5 : Value) : Blk ((((((w.setCell ⟨g, 0, none⟩ v0).setCell ⟨g, 1, none⟩ v1).setCell ⟨g, 2, none⟩ v2).setCell ⟨g, 3, none⟩ v3).setCell ⟨g, 4, none⟩ v4).setCell ⟨g, 5, none⟩ v5) g #[v0, v1, v2, v3, v4, v5] T := by
  have h0 : Blk _ g #[v0, c1, c2, c3, c4, c5] T := h.set_ 0 v0
  have h1 : Blk _ g #[v0, v1, c2, c3, c4, c5] T := h0.set_ 1 v1
  have h2 : Blk _ g #[v0, v1, v2, c3, c4, c5] T := h1.set_ 2 v2
  have h3 : Blk _ g #[v0, v1, v2, v3, c4, c5] T := h2.set_ 3 v3
  have h4 : Blk _ g #[v0, v1, v2, v3, v4, c5] T := h3.set_ 4 v4
  have h5 : Blk _ g #[v0, v1, v2, v3, v4, v5] T := h4.set_ 5 v5
  exact h5
theorem grown_set6 (w : World) (g : Nat) (v0 v1 v2 v3 v4 v5 : Value) : w.grownBy ((((((w.setCell ⟨g, 0, none⟩ v0).setCell ⟨g, 1, none⟩ v1).setCell ⟨g, 2, none⟩ v2).setCell ⟨g, 3, none⟩ v3).setCell ⟨g, 4, none⟩ v4).setCell ⟨g, 5, none⟩ v5) (some g) := grown_trans (grown_trans (grown_trans (grown_trans (grown_trans (rdr_grown_set w g 0 v0) (rdr_grown_set _ g 1 v1)) (rdr_grown_set _ g 2 v2)) (rdr_grown_set _ g 3 v3)) (rdr_grown_set _ g 4 v4)) (rdr_grown_set _ g 5 v5)
/-- A number of k bytes from o on. -/
def fld (l : List UInt8) (o k : Nat) : Nat := numB ((l.drop o).take k)
theorem fld_lt (l : List UInt8) (o k : Nat) : fld l o k < 256 ^ k := by
  unfold fld
  refine Nat.lt_of_lt_of_le (numB_lt _ _ rfl) (Nat.pow_le_pow_right (by decide) ?_)
  rw [List.length_take]; exact Nat.min_le_left _ _
theorem takeR_in {l : List UInt8} {at_ k : Nat} (h : at_ + k ≤ l.length) : takeR l at_ 0 (k : Int) = ((l.drop at_).take k, at_ + k, 0) := by
  unfold takeR
  rw [if_neg (by decide), if_neg (by omega), if_neg (by omega)]
  simp
theorem num_in {l : List UInt8} {at_ k m : Nat} (hk : k ≤ 8) (hm : 256 ^ k ≤ m) : numQ ((l.drop at_).take k) % m = fld l at_ k := by
  rw [numQ_small (by rw [List.length_take]; omega)]
  exact Nat.mod_eq_of_lt (Nat.lt_of_lt_of_le (fld_lt l at_ k) hm)
theorem fld_take {l : List UInt8} {o k n : Nat} (h : o + k ≤ n) : fld (l.take n) o k = fld l o k := by
  unfold fld
  rw [List.drop_take, List.take_take, Nat.min_eq_left (by omega)]
theorem rd_pre {w : World} {B n c m : Nat} {A : Option Addr} {l : List UInt8} (h : Rd w B A n c l) (hm : m ≤ n) : Rd w B A m c (l.take m) := by
  obtain ⟨h1, h2, h3, h4, h5, h6⟩ := h
  refine ⟨?_, by omega, h3, h4, fun ad hA hm0 => h5 ad hA (by omega), fun ad i u hA hu => ?_⟩
  · rw [length_cbs] at *; rw [List.length_take]; omega
  · unfold cbs at hu h6
    rw [List.map_take, List.getElem?_take] at hu
    split at hu
    · exact h6 ad i u hA hu
    · cases hu
theorem u8_at (l : List UInt8) (at_ v : Nat) (hv : v = fld l at_ 1) (g B : Nat) (w : World) (h : Rdr w B g l at_ 0) (hl : at_ + 1 ≤ l.length) :
    Calls Try.prog 39 #[.pointer (some ⟨g, 0, none⟩)] w fun e w' => e = .returned (.int .u8 (v : Int)) ∧ Rdr w' B g l (at_ + 1) 0 ∧ w.grownBy w' (some g) := by
  refine (u8_rd l at_ 0 g B w h).mono ?_
  rintro e w' ⟨rfl, h2, g2⟩
  have e1 : takeR l at_ 0 1 = ((l.drop at_).take 1, at_ + 1, 0) := takeR_in (k := 1) hl
  have e2 : numQ ((l.drop at_).take 1) % 256 = v := by rw [hv]; exact num_in (by omega) (by decide)
  rw [e1] at h2
  refine ⟨?_, h2, g2⟩
  rw [e1, e2]
theorem u16_at (l : List UInt8) (at_ v : Nat) (hv : v = fld l at_ 2) (g B : Nat) (w : World) (h : Rdr w B g l at_ 0) (hl : at_ + 2 ≤ l.length) :
    Calls Try.prog 42 #[.pointer (some ⟨g, 0, none⟩)] w fun e w' => e = .returned (.int .u16 (v : Int)) ∧ Rdr w' B g l (at_ + 2) 0 ∧ w.grownBy w' (some g) := by
  refine (u16_rd l at_ 0 g B w h).mono ?_
  rintro e w' ⟨rfl, h2, g2⟩
  have e1 : takeR l at_ 0 2 = ((l.drop at_).take 2, at_ + 2, 0) := takeR_in (k := 2) hl
  have e2 : numQ ((l.drop at_).take 2) % 65536 = v := by rw [hv]; exact num_in (by omega) (by decide)
  rw [e1] at h2
  refine ⟨?_, h2, g2⟩
  rw [e1, e2]
theorem u32_at (l : List UInt8) (at_ v : Nat) (hv : v = fld l at_ 4) (g B : Nat) (w : World) (h : Rdr w B g l at_ 0) (hl : at_ + 4 ≤ l.length) :
    Calls Try.prog 40 #[.pointer (some ⟨g, 0, none⟩)] w fun e w' => e = .returned (.int .u32 (v : Int)) ∧ Rdr w' B g l (at_ + 4) 0 ∧ w.grownBy w' (some g) := by
  refine (u32_rd l at_ 0 g B w h).mono ?_
  rintro e w' ⟨rfl, h2, g2⟩
  have e1 : takeR l at_ 0 4 = ((l.drop at_).take 4, at_ + 4, 0) := takeR_in (k := 4) hl
  have e2 : numQ ((l.drop at_).take 4) % 4294967296 = v := by rw [hv]; exact num_in (by omega) (by decide)
  rw [e1] at h2
  refine ⟨?_, h2, g2⟩
  rw [e1, e2]
theorem u64_at (l : List UInt8) (at_ v : Nat) (hv : v = fld l at_ 8) (g B : Nat) (w : World) (h : Rdr w B g l at_ 0) (hl : at_ + 8 ≤ l.length) :
    Calls Try.prog 41 #[.pointer (some ⟨g, 0, none⟩)] w fun e w' => e = .returned (.int .u64 (v : Int)) ∧ Rdr w' B g l (at_ + 8) 0 ∧ w.grownBy w' (some g) := by
  refine (u64_rd l at_ 0 g B w h).mono ?_
  rintro e w' ⟨rfl, h2, g2⟩
  have e1 : takeR l at_ 0 8 = ((l.drop at_).take 8, at_ + 8, 0) := takeR_in (k := 8) hl
  have e2 : numQ ((l.drop at_).take 8) % 18446744073709551616 = v := by rw [hv]; exact num_in (by omega) (by decide)
  rw [e1] at h2
  refine ⟨?_, h2, g2⟩
  rw [e1, e2]


def zeroRec : Value := .agg #[.int .i64 0, .int .u32 0, .int .u32 0, .int .u64 0, .slice none 0 0, .slice none 0 0]
def HeadNo (err : Int) (w : World) (e : Ending) (w' : World) : Prop := e = .returned (.tuple #[zeroRec, .int .i64 0, .int .i64 0, .int .i64 err]) ∧ Below w.heap.size w w'
def HeadOk (kd fl ex sq k v : Nat) (w : World) (e : Ending) (w' : World) : Prop := e = .returned (.tuple #[recV (kd : Nat) fl ex sq (.slice none 0 0) (.slice none 0 0), .int .i64 (k : Nat), .int .i64 (v : Nat), .int .i64 0]) ∧ Below w.heap.size w w'
set_option maxHeartbeats 1000000 in
theorem head_short (A : Option Addr) (n c : Nat) (hn : n < 21) (w : World) : Calls Try.prog 30 #[.slice A n c] w (HeadNo 9 w) := by
  have k0 := Blk.new w #[.int .i64 0, .int .u32 0, .int .u32 0, .int .u64 0, .slice none 0 0, .slice none 0 0] 26
  have b0 : Below w.heap.size w (w.alloc (.cells #[.int .i64 0, .int .u32 0, .int .u32 0, .int .u64 0, .slice none 0 0, .slice none 0 0] 26)) := below_a1' (Below.refl _ _) _
  go_enter Try.func30, Try.ntmps30
  go_wp2_with fail
  generalize w.alloc (.cells #[.int .i64 0, .int .u32 0, .int .u32 0, .int .u64 0, .slice none 0 0, .slice none 0 0] 26) = W0 at k0 b0 ⊢
  obtain ⟨z0, z1, z2, z3, z4, z5⟩ := box6 k0
  have y0 := k0.frozen 0
  have y1 := k0.frozen 1
  have y2 := k0.frozen 2
  have y3 := k0.frozen 3
  have y4 := k0.frozen 4
  have y5 := k0.frozen 5
  go_wp2_with fail
  refine bodyPost_ret (v := .tuple #[.agg #[.int .i64 0, .int .u32 0, .int .u32 0, .int .u64 0, .slice none 0 0, .slice none 0 0], .int .i64 0, .int .i64 0, .int .i64 9]) (by simp [results, Try.results30, go_sem, z0, z1, z2, z3, z4, z5]) rfl ?_
  exact ⟨rfl, b0⟩
set_option maxRecDepth 20000 in
set_option maxHeartbeats 4000000 in
theorem head_ok (A : Option Addr) (n c : Nat) (l : List UInt8) (w : World) (h : Rd w w.heap.size A n c l) (hn : 21 ≤ n) (hn2 : n ≤ 281474976710656) (hm : rightR (fld l 0 1 : Nat) (fld l 1 4) (fld l 5 4) (fld l 9 8) (fld l 17 2) (fld l 19 2) = true) :
    Calls Try.prog 30 #[.slice A n c] w (HeadOk (fld l 0 1) (fld l 1 4) (fld l 5 4) (fld l 9 8) (fld l 17 2) (fld l 19 2) w) := by
  have hcap := h.cap
  have hmax := h.max
  have hlen := h.len
  unfold maxLen at hmax
  have fkd := fld_lt l 0 1
  have ffl := fld_lt l 1 4
  have fex := fld_lt l 5 4
  have fsq := fld_lt l 9 8
  have fk := fld_lt l 17 2
  have fv := fld_lt l 19 2
  generalize hkd : fld l 0 1 = kd at fkd hm ⊢
  generalize hfl : fld l 1 4 = fl at ffl hm ⊢
  generalize hex : fld l 5 4 = ex at fex hm ⊢
  generalize hsq : fld l 9 8 = sq at fsq hm ⊢
  generalize hk : fld l 17 2 = k at fk hm ⊢
  generalize hv : fld l 19 2 = v at fv hm ⊢
  have Hkd := Lib.hid hkd.symm
  have Hfl := Lib.hid hfl.symm
  have Hex := Lib.hid hex.symm
  have Hsq := Lib.hid hsq.symm
  have Hk := Lib.hid hk.symm
  have Hv := Lib.hid hv.symm
  clear hkd hfl hex hsq hk hv
  have HL := Lib.hid hlen
  have HM := Lib.hid hm
  clear hlen hm
  have k0 := Blk.new w #[.int .i64 0, .int .u32 0, .int .u32 0, .int .u64 0, .slice none 0 0, .slice none 0 0] 26
  have b0 : Below w.heap.size w (w.alloc (.cells #[.int .i64 0, .int .u32 0, .int .u32 0, .int .u64 0, .slice none 0 0, .slice none 0 0] 26)) := below_a1' (Below.refl _ _) _
  have hz : (w.alloc (.cells #[.int .i64 0, .int .u32 0, .int .u32 0, .int .u64 0, .slice none 0 0, .slice none 0 0] 26)).heap.size = w.heap.size + 1 := by simp
  go_enter Try.func30, Try.ntmps30
  go_wp2_with fail
  generalize w.alloc (.cells #[.int .i64 0, .int .u32 0, .int .u32 0, .int .u64 0, .slice none 0 0, .slice none 0 0] 26) = W0 at k0 b0 hz ⊢
  have hz' : w.heap.size < W0.heap.size := by omega
  have HZ := Lib.hid hz'
  clear hz hz'
  refine (read_any A n c _ l W0 ((h.below b0).more b0.size) (Nat.le_refl _) hn2).mono ?_
  rintro e w1 ⟨g, rfl, h0, bb⟩
  go_wp2_with fail
  refine (u8_at l 0 kd Hkd.out g _ _ h0 (by rw [HL.out]; omega)).mono ?_
  rintro e w2 ⟨rfl, h1, g0⟩
  replace bb := bb.trans (below_grown g0 h0.ge h0.lt)
  clear g0 h0
  go_wp2_with fail
  refine (u32_at l 1 fl Hfl.out g _ _ h1 (by rw [HL.out]; omega)).mono ?_
  rintro e w3 ⟨rfl, h2, g1⟩
  replace bb := bb.trans (below_grown g1 h1.ge h1.lt)
  clear g1 h1
  go_wp2_with fail
  refine (u32_at l 5 ex Hex.out g _ _ h2 (by rw [HL.out]; omega)).mono ?_
  rintro e w4 ⟨rfl, h3, g2⟩
  replace bb := bb.trans (below_grown g2 h2.ge h2.lt)
  clear g2 h2
  go_wp2_with fail
  refine (u64_at l 9 sq Hsq.out g _ _ h3 (by rw [HL.out]; omega)).mono ?_
  rintro e w5 ⟨rfl, h4, g3⟩
  replace bb := bb.trans (below_grown g3 h3.ge h3.lt)
  clear g3 h3
  have kx : Blk w5 w.heap.size #[.int .i64 0, .int .u32 0, .int .u32 0, .int .u64 0, .slice none 0 0, .slice none 0 0] 26 := (bb.block _ k0.lt).trans k0
  obtain ⟨z0, z1, z2, z3, z4, z5⟩ := box6 kx
  have y0 := kx.frozen 0
  have y1 := kx.frozen 1
  have y2 := kx.frozen 2
  have y3 := kx.frozen 3
  have y4 := kx.frozen 4
  have y5 := kx.frozen 5
  have kf := blk_set6 kx (.int .i64 (kd : Nat)) (.int .u32 (fl : Nat)) (.int .u32 (ex : Nat)) (.int .u64 (sq : Nat)) (.slice none 0 0) (.slice none 0 0)
  have hg := grown_set6 w5 w.heap.size (.int .i64 (kd : Nat)) (.int .u32 (fl : Nat)) (.int .u32 (ex : Nat)) (.int .u64 (sq : Nat)) (.slice none 0 0) (.slice none 0 0)
  have h5 := h4.kept hg HZ.out
  have bf := (b0.trans (bb.mono b0.size)).trans (below_grown hg (Nat.le_refl _) kx.lt)
  clear kx k0 bb h4
  go_wp2_with fail
  generalize (((((w5.setCell ⟨w.heap.size, 0, none⟩ (.int .i64 (kd : Nat))).setCell ⟨w.heap.size, 1, none⟩ (.int .u32 (fl : Nat))).setCell ⟨w.heap.size, 2, none⟩ (.int .u32 (ex : Nat))).setCell ⟨w.heap.size, 3, none⟩ (.int .u64 (sq : Nat))).setCell ⟨w.heap.size, 4, none⟩ (.slice none 0 0)).setCell ⟨w.heap.size, 5, none⟩ (.slice none 0 0) = W5 at kf h5 bf ⊢
  clear z0 z1 z2 z3 z4 z5 y0 y1 y2 y3 y4 y5 hg
  refine (u16_at l 17 k Hk.out g _ _ h5 (by rw [HL.out]; omega)).mono ?_
  rintro e w6 ⟨rfl, h6, g0⟩
  replace kf : Blk w6 w.heap.size _ _ := (g0.block _ kf.lt (fun e => by injection e with e; have := h5.ge; have := HZ.out; omega)).trans kf
  replace bf := bf.trans (below_grown g0 (by have := h5.ge; have := HZ.out; omega) h5.lt)
  clear g0 h5
  go_wp2_with fail
  refine (u16_at l 19 v Hv.out g _ _ h6 (by rw [HL.out]; omega)).mono ?_
  rintro e w7 ⟨rfl, h7, g1⟩
  replace kf : Blk w7 w.heap.size _ _ := (g1.block _ kf.lt (fun e => by injection e with e; have := h6.ge; have := HZ.out; omega)).trans kf
  replace bf := bf.trans (below_grown g1 (by have := h6.ge; have := HZ.out; omega) h6.lt)
  clear g1 h6
  clear h7
  obtain ⟨z0, z1, z2, z3, z4, z5⟩ := box6 kf
  have HR := Lib.hid (fun W => right_any (kd : Int) fl ex sq k v none none 0 0 0 0 W)
  unfold recV at HR
  go_wp2_with fail
  refine (HR.out _).mono ?_
  rintro e w8 ⟨rfl, b8⟩
  rw [HM.out]
  replace kf : Blk w8 w.heap.size _ _ := kf.step b8
  replace bf := below_step bf b8
  clear z0 z1 z2 z3 z4 z5 b8 HR
  obtain ⟨z0, z1, z2, z3, z4, z5⟩ := box6 kf
  have y0 := kf.frozen 0
  have y1 := kf.frozen 1
  have y2 := kf.frozen 2
  have y3 := kf.frozen 3
  have y4 := kf.frozen 4
  have y5 := kf.frozen 5
  have ke := blk_set6 kf (.int .i64 (kd : Nat)) (.int .u32 (fl : Nat)) (.int .u32 (ex : Nat)) (.int .u64 (sq : Nat)) (.slice none 0 0) (.slice none 0 0)
  have he := grown_set6 w8 w.heap.size (.int .i64 (kd : Nat)) (.int .u32 (fl : Nat)) (.int .u32 (ex : Nat)) (.int .u64 (sq : Nat)) (.slice none 0 0) (.slice none 0 0)
  have be := bf.trans (below_grown he (Nat.le_refl _) kf.lt)
  obtain ⟨t0, t1, t2, t3, t4, t5⟩ := box6 ke
  clear he ke kf bf
  go_wp2_with fail
  refine bodyPost_ret (v := .tuple #[.agg #[.int .i64 (kd : Nat), .int .u32 (fl : Nat), .int .u32 (ex : Nat), .int .u64 (sq : Nat), .slice none 0 0, .slice none 0 0], .int .i64 (k : Nat), .int .i64 (v : Nat), .int .i64 0]) (by simp [results, Try.results30, go_sem, t0, t1, t2, t3, t4, t5]) rfl ?_
  exact ⟨rfl, be⟩
set_option maxRecDepth 20000 in
set_option maxHeartbeats 4000000 in
theorem head_bad (A : Option Addr) (n c : Nat) (l : List UInt8) (w : World) (h : Rd w w.heap.size A n c l) (hn : 21 ≤ n) (hn2 : n ≤ 281474976710656) (hm : rightR (fld l 0 1 : Nat) (fld l 1 4) (fld l 5 4) (fld l 9 8) (fld l 17 2) (fld l 19 2) = false) :
    Calls Try.prog 30 #[.slice A n c] w (HeadNo 160 w) := by
  have hcap := h.cap
  have hmax := h.max
  have hlen := h.len
  unfold maxLen at hmax
  have fkd := fld_lt l 0 1
  have ffl := fld_lt l 1 4
  have fex := fld_lt l 5 4
  have fsq := fld_lt l 9 8
  have fk := fld_lt l 17 2
  have fv := fld_lt l 19 2
  generalize hkd : fld l 0 1 = kd at fkd hm
  generalize hfl : fld l 1 4 = fl at ffl hm
  generalize hex : fld l 5 4 = ex at fex hm
  generalize hsq : fld l 9 8 = sq at fsq hm
  generalize hk : fld l 17 2 = k at fk hm
  generalize hv : fld l 19 2 = v at fv hm
  have Hkd := Lib.hid hkd.symm
  have Hfl := Lib.hid hfl.symm
  have Hex := Lib.hid hex.symm
  have Hsq := Lib.hid hsq.symm
  have Hk := Lib.hid hk.symm
  have Hv := Lib.hid hv.symm
  clear hkd hfl hex hsq hk hv
  have HL := Lib.hid hlen
  have HM := Lib.hid hm
  clear hlen hm
  have k0 := Blk.new w #[.int .i64 0, .int .u32 0, .int .u32 0, .int .u64 0, .slice none 0 0, .slice none 0 0] 26
  have b0 : Below w.heap.size w (w.alloc (.cells #[.int .i64 0, .int .u32 0, .int .u32 0, .int .u64 0, .slice none 0 0, .slice none 0 0] 26)) := below_a1' (Below.refl _ _) _
  have hz : (w.alloc (.cells #[.int .i64 0, .int .u32 0, .int .u32 0, .int .u64 0, .slice none 0 0, .slice none 0 0] 26)).heap.size = w.heap.size + 1 := by simp
  go_enter Try.func30, Try.ntmps30
  go_wp2_with fail
  generalize w.alloc (.cells #[.int .i64 0, .int .u32 0, .int .u32 0, .int .u64 0, .slice none 0 0, .slice none 0 0] 26) = W0 at k0 b0 hz ⊢
  have hz' : w.heap.size < W0.heap.size := by omega
  have HZ := Lib.hid hz'
  clear hz hz'
  refine (read_any A n c _ l W0 ((h.below b0).more b0.size) (Nat.le_refl _) hn2).mono ?_
  rintro e w1 ⟨g, rfl, h0, bb⟩
  go_wp2_with fail
  refine (u8_at l 0 kd Hkd.out g _ _ h0 (by rw [HL.out]; omega)).mono ?_
  rintro e w2 ⟨rfl, h1, g0⟩
  replace bb := bb.trans (below_grown g0 h0.ge h0.lt)
  clear g0 h0
  go_wp2_with fail
  refine (u32_at l 1 fl Hfl.out g _ _ h1 (by rw [HL.out]; omega)).mono ?_
  rintro e w3 ⟨rfl, h2, g1⟩
  replace bb := bb.trans (below_grown g1 h1.ge h1.lt)
  clear g1 h1
  go_wp2_with fail
  refine (u32_at l 5 ex Hex.out g _ _ h2 (by rw [HL.out]; omega)).mono ?_
  rintro e w4 ⟨rfl, h3, g2⟩
  replace bb := bb.trans (below_grown g2 h2.ge h2.lt)
  clear g2 h2
  go_wp2_with fail
  refine (u64_at l 9 sq Hsq.out g _ _ h3 (by rw [HL.out]; omega)).mono ?_
  rintro e w5 ⟨rfl, h4, g3⟩
  replace bb := bb.trans (below_grown g3 h3.ge h3.lt)
  clear g3 h3
  have kx : Blk w5 w.heap.size #[.int .i64 0, .int .u32 0, .int .u32 0, .int .u64 0, .slice none 0 0, .slice none 0 0] 26 := (bb.block _ k0.lt).trans k0
  obtain ⟨z0, z1, z2, z3, z4, z5⟩ := box6 kx
  have y0 := kx.frozen 0
  have y1 := kx.frozen 1
  have y2 := kx.frozen 2
  have y3 := kx.frozen 3
  have y4 := kx.frozen 4
  have y5 := kx.frozen 5
  have kf := blk_set6 kx (.int .i64 (kd : Nat)) (.int .u32 (fl : Nat)) (.int .u32 (ex : Nat)) (.int .u64 (sq : Nat)) (.slice none 0 0) (.slice none 0 0)
  have hg := grown_set6 w5 w.heap.size (.int .i64 (kd : Nat)) (.int .u32 (fl : Nat)) (.int .u32 (ex : Nat)) (.int .u64 (sq : Nat)) (.slice none 0 0) (.slice none 0 0)
  have h5 := h4.kept hg HZ.out
  have bf := (b0.trans (bb.mono b0.size)).trans (below_grown hg (Nat.le_refl _) kx.lt)
  clear kx k0 bb h4
  go_wp2_with fail
  generalize (((((w5.setCell ⟨w.heap.size, 0, none⟩ (.int .i64 (kd : Nat))).setCell ⟨w.heap.size, 1, none⟩ (.int .u32 (fl : Nat))).setCell ⟨w.heap.size, 2, none⟩ (.int .u32 (ex : Nat))).setCell ⟨w.heap.size, 3, none⟩ (.int .u64 (sq : Nat))).setCell ⟨w.heap.size, 4, none⟩ (.slice none 0 0)).setCell ⟨w.heap.size, 5, none⟩ (.slice none 0 0) = W5 at kf h5 bf ⊢
  clear z0 z1 z2 z3 z4 z5 y0 y1 y2 y3 y4 y5 hg
  refine (u16_at l 17 k Hk.out g _ _ h5 (by rw [HL.out]; omega)).mono ?_
  rintro e w6 ⟨rfl, h6, g0⟩
  replace kf : Blk w6 w.heap.size _ _ := (g0.block _ kf.lt (fun e => by injection e with e; have := h5.ge; have := HZ.out; omega)).trans kf
  replace bf := bf.trans (below_grown g0 (by have := h5.ge; have := HZ.out; omega) h5.lt)
  clear g0 h5
  go_wp2_with fail
  refine (u16_at l 19 v Hv.out g _ _ h6 (by rw [HL.out]; omega)).mono ?_
  rintro e w7 ⟨rfl, h7, g1⟩
  replace kf : Blk w7 w.heap.size _ _ := (g1.block _ kf.lt (fun e => by injection e with e; have := h6.ge; have := HZ.out; omega)).trans kf
  replace bf := bf.trans (below_grown g1 (by have := h6.ge; have := HZ.out; omega) h6.lt)
  clear g1 h6
  clear h7
  obtain ⟨z0, z1, z2, z3, z4, z5⟩ := box6 kf
  have HR := Lib.hid (fun W => right_any (kd : Int) fl ex sq k v none none 0 0 0 0 W)
  unfold recV at HR
  go_wp2_with fail
  refine (HR.out _).mono ?_
  rintro e w8 ⟨rfl, b8⟩
  rw [HM.out]
  replace kf : Blk w8 w.heap.size _ _ := kf.step b8
  replace bf := below_step bf b8
  clear z0 z1 z2 z3 z4 z5 b8 HR
  obtain ⟨z0, z1, z2, z3, z4, z5⟩ := box6 kf
  have y0 := kf.frozen 0
  have y1 := kf.frozen 1
  have y2 := kf.frozen 2
  have y3 := kf.frozen 3
  have y4 := kf.frozen 4
  have y5 := kf.frozen 5
  have ke := blk_set6 kf (.int .i64 0) (.int .u32 0) (.int .u32 0) (.int .u64 0) (.slice none 0 0) (.slice none 0 0)
  have he := grown_set6 w8 w.heap.size (.int .i64 0) (.int .u32 0) (.int .u32 0) (.int .u64 0) (.slice none 0 0) (.slice none 0 0)
  have be := bf.trans (below_grown he (Nat.le_refl _) kf.lt)
  obtain ⟨t0, t1, t2, t3, t4, t5⟩ := box6 ke
  clear he ke kf bf
  go_wp2_with fail
  refine bodyPost_ret (v := .tuple #[.agg #[.int .i64 0, .int .u32 0, .int .u32 0, .int .u64 0, .slice none 0 0, .slice none 0 0], .int .i64 0, .int .i64 0, .int .i64 160]) (by simp [results, Try.results30, go_sem, t0, t1, t2, t3, t4, t5]) rfl ?_
  exact ⟨rfl, be⟩
end Go.Proofs.Ytkdkmdjfimnkaaa

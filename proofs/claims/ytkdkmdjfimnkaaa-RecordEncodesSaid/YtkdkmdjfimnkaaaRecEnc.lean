/- RecordEncodes: which records may be, their bytes, and how many sectors they fill, for every record. Conditions: those of the given row alone. -/
import Derived.Test.YtkdkmdjfimnkaaaWho
namespace Go.Proofs.Ytkdkmdjfimnkaaa
set_option linter.unusedVariables false
open Go.ChangeShapes Go.WideShapes Go.ChangeAt Go.RowKit

theorem rd_drew {w : World} {A : Option Addr} {n c : Nat} {l : List UInt8} (h : Rd w w.heap.size A n c l) : Rd w.drew w.drew.heap.size A n c l := h
def EncsQ (w : World) (e : Ending) (w' : World) : Prop := e = .returned (.bool true) ∧ Below w.heap.size w w'
set_option maxRecDepth 20000 in
set_option maxHeartbeats 8000000 in
theorem encs_no (kind : Int) (fl ex sq : Nat) (AK : Option Addr) (nk ck : Nat) (lk : List UInt8) (AV : Option Addr) (nv cv : Nat) (lv : List UInt8) (mk mv : Nat) (mlk mlv : List UInt8) (w : World) (rk : Rd w w.heap.size AK nk ck lk) (rv : Rd w w.heap.size AV nv cv lv)
    (hSh : ∀ W, Rd W W.heap.size AK nk ck lk → Rd W W.heap.size AV nv cv lv → Calls Try.prog 11 #[.agg #[.int .i64 kind, .int .u32 (fl : Nat), .int .u32 (ex : Nat), .int .u64 (sq : Nat), .slice AK nk ck, .slice AV nv cv]] W fun e w' => ∃ g1 c1 g2 c2, e = .returned (.agg #[.int .i64 kind, .int .u32 (fl : Nat), .int .u32 (ex : Nat), .int .u64 (sq : Nat), .slice (some ⟨g1, 0, none⟩) mk c1, .slice (some ⟨g2, 0, none⟩) mv c2]) ∧ g1 ≠ g2 ∧
      Own w' W.heap.size (some ⟨g1, 0, none⟩) (mk + 1) c1 (mlk ++ [7]) ∧ Own w' W.heap.size (some ⟨g2, 0, none⟩) (mv + 1) c2 (mlv ++ [7]) ∧ Below W.heap.size W w')
    (hCo : ∀ g1 c1 g2 c2 W, Rd W W.heap.size (some ⟨g1, 0, none⟩) mk c1 mlk → Rd W W.heap.size (some ⟨g2, 0, none⟩) mv c2 mlv → Calls Try.prog 14 #[.agg #[.int .i64 kind, .int .u32 (fl : Nat), .int .u32 (ex : Nat), .int .u64 (sq : Nat), .slice (some ⟨g1, 0, none⟩) mk c1, .slice (some ⟨g2, 0, none⟩) mv c2]] W fun e w' => ∃ A1 a1 A2 a2, e = .returned (.agg #[.int .i64 kind, .int .u32 (fl : Nat), .int .u32 (ex : Nat), .int .u64 (sq : Nat), .slice A1 mk a1, .slice A2 mv a2]) ∧ Own w' W.heap.size A1 mk a1 mlk ∧ Own w' W.heap.size A2 mv a2 mlv ∧ Below W.heap.size W w')
    (hEn : ∀ g1 c1 g2 c2 W, Rd W W.heap.size (some ⟨g1, 0, none⟩) mk c1 mlk → Rd W W.heap.size (some ⟨g2, 0, none⟩) mv c2 mlv → Calls Try.prog 16 #[.agg #[.int .i64 kind, .int .u32 (fl : Nat), .int .u32 (ex : Nat), .int .u64 (sq : Nat), .slice (some ⟨g1, 0, none⟩) mk c1, .slice (some ⟨g2, 0, none⟩) mv c2]] W fun e w' => e = .returned (.tuple #[.slice none 0 0, .int .i64 160]) ∧ Below W.heap.size W w')
    (hSz : ∀ g1 c1 g2 c2 W, Calls Try.prog 21 #[.agg #[.int .i64 kind, .int .u32 (fl : Nat), .int .u32 (ex : Nat), .int .u64 (sq : Nat), .slice (some ⟨g1, 0, none⟩) mk c1, .slice (some ⟨g2, 0, none⟩) mv c2]] W fun e w' => e = .returned (.int .i64 0) ∧ Below W.heap.size W w')
    (hSc : ∀ g1 c1 g2 c2 W, Calls Try.prog 22 #[.agg #[.int .i64 kind, .int .u32 (fl : Nat), .int .u32 (ex : Nat), .int .u64 (sq : Nat), .slice (some ⟨g1, 0, none⟩) mk c1, .slice (some ⟨g2, 0, none⟩) mv c2]] W fun e w' => e = .returned (.int .i64 0) ∧ Below W.heap.size W w')
    (hCh : ∀ g1 c1 g2 c2 W, Calls Try.prog 18 #[.agg #[.int .i64 kind, .int .u32 (fl : Nat), .int .u32 (ex : Nat), .int .u64 (sq : Nat), .slice (some ⟨g1, 0, none⟩) mk c1, .slice (some ⟨g2, 0, none⟩) mv c2]] W fun e w' => e = .returned (.int .i64 160) ∧ Below W.heap.size W w')
    (hRi : ∀ g1 c1 g2 c2 W, Calls Try.prog 20 #[.agg #[.int .i64 kind, .int .u32 (fl : Nat), .int .u32 (ex : Nat), .int .u64 (sq : Nat), .slice (some ⟨g1, 0, none⟩) mk c1, .slice (some ⟨g2, 0, none⟩) mv c2]] W fun e w' => e = .returned (.bool false) ∧ Below W.heap.size W w')
    (hWh : ∀ g1 c1 g2 c2 A1 a1 A2 a2 W, Rd W W.heap.size (some ⟨g1, 0, none⟩) (mk + 1) c1 (mlk ++ [7]) → Rd W W.heap.size (some ⟨g2, 0, none⟩) (mv + 1) c2 (mlv ++ [7]) → Rd W W.heap.size A1 mk a1 mlk → Rd W W.heap.size A2 mv a2 mlv → Calls Try.prog 24 #[.agg #[.int .i64 kind, .int .u32 (fl : Nat), .int .u32 (ex : Nat), .int .u64 (sq : Nat), .slice (some ⟨g1, 0, none⟩) mk c1, .slice (some ⟨g2, 0, none⟩) mv c2], .agg #[.int .i64 kind, .int .u32 (fl : Nat), .int .u32 (ex : Nat), .int .u64 (sq : Nat), .slice A1 mk a1, .slice A2 mv a2]] W fun e w' => e = .returned (.bool true) ∧ Below W.heap.size W w') :
    Calls Try.prog 8 #[recV kind fl ex sq (.slice AK nk ck) (.slice AV nv cv)] w (EncsQ w) := by
  have HSh := Lib.hid hSh
  have HCo := Lib.hid hCo
  have HEn := Lib.hid hEn
  have HSz := Lib.hid hSz
  have HSc := Lib.hid hSc
  have HCh := Lib.hid hCh
  have HRi := Lib.hid hRi
  have HWh := Lib.hid hWh
  clear hSh hCo hEn hSz hSc hCh hRi hWh
  have k1 := Blk.new w #[.int .i64 kind, .int .u32 (fl : Nat), .int .u32 (ex : Nat), .int .u64 (sq : Nat), .slice AK nk ck, .slice AV nv cv] 26
  have b : Below w.heap.size w (w.alloc (.cells #[.int .i64 kind, .int .u32 (fl : Nat), .int .u32 (ex : Nat), .int .u64 (sq : Nat), .slice AK nk ck, .slice AV nv cv] 26)) := below_a1' (Below.refl _ _) _
  unfold recV
  go_enter Try.func8, Try.ntmps8
  go_wp2_with fail
  generalize w.alloc (.cells #[.int .i64 kind, .int .u32 (fl : Nat), .int .u32 (ex : Nat), .int .u64 (sq : Nat), .slice AK nk ck, .slice AV nv cv] 26) = W0 at k1 b ⊢
  refine (wakes06 _).mono ?_
  rintro e w1 ⟨rfl, b1⟩
  replace k1 := k1.step b1
  replace b := below_step b b1
  have hlt := k1.lt
  obtain ⟨q0, q1, q2, q3, q4, q5⟩ := box6 k1
  clear b1
  go_wp2_with fail
  refine (HSh.out _ ((rk.below b).more b.size) ((rv.below b).more b.size)).mono ?_
  rintro e w2 ⟨g1, c1, g2, c2, rfl, hne, oK, oV, b2⟩
  replace k1 := k1.step b2
  replace b := below_step b b2
  clear q0 q1 q2 q3 q4 q5 b2
  obtain ⟨q0, q1, q2, q3, q4, q5⟩ := box6 k1
  have x0 := k1.frozen 0
  have x1 := k1.frozen 1
  have x2 := k1.frozen 2
  have x3 := k1.frozen 3
  have x4 := k1.frozen 4
  have x5 := k1.frozen 5
  have kf := blk_set6 k1 (.int .i64 kind) (.int .u32 (fl : Nat)) (.int .u32 (ex : Nat)) (.int .u64 (sq : Nat)) (.slice (some ⟨g1, 0, none⟩) mk c1) (.slice (some ⟨g2, 0, none⟩) mv c2)
  have hg := grown_set6 w2 w.heap.size (.int .i64 kind) (.int .u32 (fl : Nat)) (.int .u32 (ex : Nat)) (.int .u64 (sq : Nat)) (.slice (some ⟨g1, 0, none⟩) mk c1) (.slice (some ⟨g2, 0, none⟩) mv c2)
  have bf := b.trans (below_grown hg (Nat.le_refl _) k1.lt)
  have p1 := (oK.kept hg hlt).rd
  have p2 := (oV.kept hg hlt).rd
  have HCW := Lib.hid (HCo.out g1 c1 g2 c2 _ (rd_fore7 p1) (rd_fore7 p2))
  obtain ⟨t0, t1, t2, t3, t4, t5⟩ := box6 kf
  clear hg b oK oV k1 hlt HSh HCo
  go_wp2_with fail
  refine HCW.out.mono ?_
  clear t0 t1 t2 t3 t4 t5 x0 x1 x2 x3 x4 x5 q0 q1 q2 q3 q4 q5 HCW
  generalize (((((w2.setCell ⟨w.heap.size, 0, none⟩ (.int .i64 kind)).setCell ⟨w.heap.size, 1, none⟩ (.int .u32 (fl : Nat))).setCell ⟨w.heap.size, 2, none⟩ (.int .u32 (ex : Nat))).setCell ⟨w.heap.size, 3, none⟩ (.int .u64 (sq : Nat))).setCell ⟨w.heap.size, 4, none⟩ (.slice (some ⟨g1, 0, none⟩) mk c1)).setCell ⟨w.heap.size, 5, none⟩ (.slice (some ⟨g2, 0, none⟩) mv c2) = w3 at kf bf p1 p2 ⊢
  rintro e w4 ⟨A1, a1, A2, a2, rfl, oA, oB, b4⟩
  have p3 := oA.rd
  have p4 := oB.rd
  have k1 := kf.step b4
  have b := below_step bf b4
  replace p1 := (p1.below b4).more b4.size
  replace p2 := (p2.below b4).more b4.size
  have ba := below_a1' (Below.refl w4.heap.size w4) (.cells #[.int .i64 kind, .int .u32 (fl : Nat), .int .u32 (ex : Nat), .int .u64 (sq : Nat), .slice A1 mk a1, .slice A2 mv a2] 26)
  have k2 := Blk.new w4 #[.int .i64 kind, .int .u32 (fl : Nat), .int .u32 (ex : Nat), .int .u64 (sq : Nat), .slice A1 mk a1, .slice A2 mv a2] 26
  clear kf bf b4 oA oB
  replace p1 := (p1.below ba).more ba.size
  replace p2 := (p2.below ba).more ba.size
  replace p3 := (p3.below ba).more ba.size
  replace p4 := (p4.below ba).more ba.size
  replace k1 := k1.step ba
  replace b := below_step b ba
  have HEW := Lib.hid (HEn.out g1 c1 g2 c2 _ (rd_fore7 p1) (rd_fore7 p2))
  obtain ⟨q0, q1, q2, q3, q4, q5⟩ := box6 k1
  obtain ⟨y0, y1, y2, y3, y4, y5⟩ := box6 k2
  clear HEn
  go_wp2_with fail
  generalize w4.alloc (.cells #[.int .i64 kind, .int .u32 (fl : Nat), .int .u32 (ex : Nat), .int .u64 (sq : Nat), .slice A1 mk a1, .slice A2 mv a2] 26) = w5 at k1 k2 b p1 p2 p3 p4 HEW ⊢
  clear ba
  refine HEW.out.mono ?_
  clear HEW
  rintro e w6 ⟨rfl, b6⟩
  clear q0 q1 q2 q3 q4 q5 y0 y1 y2 y3 y4 y5
  replace p1 := (p1.below b6).more b6.size
  replace p2 := (p2.below b6).more b6.size
  replace p3 := (p3.below b6).more b6.size
  replace p4 := (p4.below b6).more b6.size
  replace k1 := k1.step b6
  replace k2 := k2.step b6
  replace b := below_step b b6
  obtain ⟨q0, q1, q2, q3, q4, q5⟩ := box6 k1
  obtain ⟨y0, y1, y2, y3, y4, y5⟩ := box6 k2
  go_wp2_with fail
  replace k1 : Blk w6.drew w.heap.size #[.int .i64 kind, .int .u32 (fl : Nat), .int .u32 (ex : Nat), .int .u64 (sq : Nat), .slice (some ⟨g1, 0, none⟩) mk c1, .slice (some ⟨g2, 0, none⟩) mv c2] 26 := k1
  replace k2 : Blk w6.drew w4.heap.size #[.int .i64 kind, .int .u32 (fl : Nat), .int .u32 (ex : Nat), .int .u64 (sq : Nat), .slice A1 mk a1, .slice A2 mv a2] 26 := k2
  replace b : Below w.heap.size w w6.drew := b.drew
  replace p1 := rd_drew p1
  replace p2 := rd_drew p2
  replace p3 := rd_drew p3
  replace p4 := rd_drew p4
  clear q0 q1 q2 q3 q4 q5 y0 y1 y2 y3 y4 y5
  obtain ⟨q0, q1, q2, q3, q4, q5⟩ := box6 k1
  obtain ⟨y0, y1, y2, y3, y4, y5⟩ := box6 k2
  go_region_held3 (fun w' => w'.cell? ⟨w.heap.size, 0, none⟩ = some (.int .i64 kind) ∧ w'.cell? ⟨w.heap.size, 1, none⟩ = some (.int .u32 (fl : Nat)) ∧ w'.cell? ⟨w.heap.size, 2, none⟩ = some (.int .u32 (ex : Nat)) ∧ w'.cell? ⟨w.heap.size, 3, none⟩ = some (.int .u64 (sq : Nat)) ∧ w'.cell? ⟨w.heap.size, 4, none⟩ = some (.slice (some ⟨g1, 0, none⟩) mk c1) ∧ w'.cell? ⟨w.heap.size, 5, none⟩ = some (.slice (some ⟨g2, 0, none⟩) mv c2)) (first | with_reducible exact ⟨q0, q1, q2, q3, q4, q5⟩ | fail)
    (first
      | (go_at_call 21
         with_reducible refine (HSz.out g1 c1 g2 c2 _).mono ?_
         rintro e w7 ⟨rfl, b7⟩
         replace p1 := (p1.below b7).more b7.size
         replace p2 := (p2.below b7).more b7.size
         replace p3 := (p3.below b7).more b7.size
         replace p4 := (p4.below b7).more b7.size
         replace k1 := k1.step b7
         replace k2 := k2.step b7
         replace b := below_step b b7
         clear q0 q1 q2 q3 q4 q5 y0 y1 y2 y3 y4 y5
         obtain ⟨q0, q1, q2, q3, q4, q5⟩ := box6 k1
         obtain ⟨y0, y1, y2, y3, y4, y5⟩ := box6 k2)
      | (go_at_call 22
         with_reducible refine (HSc.out g1 c1 g2 c2 _).mono ?_
         rintro e w8 ⟨rfl, b8⟩
         replace p1 := (p1.below b8).more b8.size
         replace p2 := (p2.below b8).more b8.size
         replace p3 := (p3.below b8).more b8.size
         replace p4 := (p4.below b8).more b8.size
         replace k1 := k1.step b8
         replace k2 := k2.step b8
         replace b := below_step b b8
         clear q0 q1 q2 q3 q4 q5 y0 y1 y2 y3 y4 y5
         obtain ⟨q0, q1, q2, q3, q4, q5⟩ := box6 k1
         obtain ⟨y0, y1, y2, y3, y4, y5⟩ := box6 k2)
      | (go_at_call 18
         with_reducible refine (HCh.out g1 c1 g2 c2 _).mono ?_
         rintro e w9 ⟨rfl, b9⟩
         replace p1 := (p1.below b9).more b9.size
         replace p2 := (p2.below b9).more b9.size
         replace p3 := (p3.below b9).more b9.size
         replace p4 := (p4.below b9).more b9.size
         replace k1 := k1.step b9
         replace k2 := k2.step b9
         replace b := below_step b b9
         clear q0 q1 q2 q3 q4 q5 y0 y1 y2 y3 y4 y5
         obtain ⟨q0, q1, q2, q3, q4, q5⟩ := box6 k1
         obtain ⟨y0, y1, y2, y3, y4, y5⟩ := box6 k2)
      | fail)
  go_wp2_with fail
  refine (HWh.out g1 c1 g2 c2 A1 a1 A2 a2 _ p1 p2 p3 p4).mono ?_
  rintro e w10 ⟨rfl, b10⟩
  clear q0 q1 q2 q3 q4 q5 y0 y1 y2 y3 y4 y5
  replace p1 := (p1.below b10).more b10.size
  replace p2 := (p2.below b10).more b10.size
  replace p3 := (p3.below b10).more b10.size
  replace p4 := (p4.below b10).more b10.size
  replace k1 := k1.step b10
  replace k2 := k2.step b10
  replace b := below_step b b10
  obtain ⟨q0, q1, q2, q3, q4, q5⟩ := box6 k1
  obtain ⟨y0, y1, y2, y3, y4, y5⟩ := box6 k2
  go_wp2_with fail
  refine (HRi.out g1 c1 g2 c2 _).mono ?_
  rintro e w11 ⟨rfl, b11⟩
  clear q0 q1 q2 q3 q4 q5 y0 y1 y2 y3 y4 y5
  replace p1 := (p1.below b11).more b11.size
  replace p2 := (p2.below b11).more b11.size
  replace p3 := (p3.below b11).more b11.size
  replace p4 := (p4.below b11).more b11.size
  replace k1 := k1.step b11
  replace k2 := k2.step b11
  replace b := below_step b b11
  obtain ⟨q0, q1, q2, q3, q4, q5⟩ := box6 k1
  obtain ⟨y0, y1, y2, y3, y4, y5⟩ := box6 k2
  go_wp2_with fail
  go_ret
  exact ⟨rfl, b⟩
theorem own_pos {w : World} {B n c : Nat} {A : Option Addr} {l : List UInt8} (h : Own w B A n c l) (hn : 0 < n) : ∃ k, A = some ⟨k, 0, none⟩ ∧ B ≤ k ∧ k < w.heap.size := by
  obtain ⟨m, rfl⟩ : ∃ m, n = m + 1 := ⟨n - 1, by omega⟩
  exact own_row h
set_option maxRecDepth 20000 in
set_option maxHeartbeats 8000000 in
theorem encs_ok (kd N : Nat) (fl ex sq : Nat) (AK : Option Addr) (nk ck : Nat) (lk : List UInt8) (AV : Option Addr) (nv cv : Nat) (lv : List UInt8) (mk mv : Nat) (mlk mlv : List UInt8) (w : World) (rk : Rd w w.heap.size AK nk ck lk) (rv : Rd w w.heap.size AV nv cv lv) (L : List UInt8) (hN1 : 21 ≤ N) (hN2 : N ≤ 1000)
    (hSh : ∀ W, Rd W W.heap.size AK nk ck lk → Rd W W.heap.size AV nv cv lv → Calls Try.prog 11 #[.agg #[.int .i64 (kd : Nat), .int .u32 (fl : Nat), .int .u32 (ex : Nat), .int .u64 (sq : Nat), .slice AK nk ck, .slice AV nv cv]] W fun e w' => ∃ g1 c1 g2 c2, e = .returned (.agg #[.int .i64 (kd : Nat), .int .u32 (fl : Nat), .int .u32 (ex : Nat), .int .u64 (sq : Nat), .slice (some ⟨g1, 0, none⟩) mk c1, .slice (some ⟨g2, 0, none⟩) mv c2]) ∧ g1 ≠ g2 ∧
      Own w' W.heap.size (some ⟨g1, 0, none⟩) (mk + 1) c1 (mlk ++ [7]) ∧ Own w' W.heap.size (some ⟨g2, 0, none⟩) (mv + 1) c2 (mlv ++ [7]) ∧ Below W.heap.size W w')
    (hCo : ∀ g1 c1 g2 c2 W, Rd W W.heap.size (some ⟨g1, 0, none⟩) mk c1 mlk → Rd W W.heap.size (some ⟨g2, 0, none⟩) mv c2 mlv → Calls Try.prog 14 #[.agg #[.int .i64 (kd : Nat), .int .u32 (fl : Nat), .int .u32 (ex : Nat), .int .u64 (sq : Nat), .slice (some ⟨g1, 0, none⟩) mk c1, .slice (some ⟨g2, 0, none⟩) mv c2]] W fun e w' => ∃ A1 a1 A2 a2, e = .returned (.agg #[.int .i64 (kd : Nat), .int .u32 (fl : Nat), .int .u32 (ex : Nat), .int .u64 (sq : Nat), .slice A1 mk a1, .slice A2 mv a2]) ∧ Own w' W.heap.size A1 mk a1 mlk ∧ Own w' W.heap.size A2 mv a2 mlv ∧ Below W.heap.size W w')
    (hEn : ∀ g1 c1 g2 c2 W, Rd W W.heap.size (some ⟨g1, 0, none⟩) mk c1 mlk → Rd W W.heap.size (some ⟨g2, 0, none⟩) mv c2 mlv → Calls Try.prog 16 #[.agg #[.int .i64 (kd : Nat), .int .u32 (fl : Nat), .int .u32 (ex : Nat), .int .u64 (sq : Nat), .slice (some ⟨g1, 0, none⟩) mk c1, .slice (some ⟨g2, 0, none⟩) mv c2]] W (EncQ N L W))
    (hSz : ∀ g1 c1 g2 c2 W, Calls Try.prog 21 #[.agg #[.int .i64 (kd : Nat), .int .u32 (fl : Nat), .int .u32 (ex : Nat), .int .u64 (sq : Nat), .slice (some ⟨g1, 0, none⟩) mk c1, .slice (some ⟨g2, 0, none⟩) mv c2]] W fun e w' => e = .returned (.int .i64 (N : Nat)) ∧ Below W.heap.size W w')
    (hSc : ∀ g1 c1 g2 c2 W, Calls Try.prog 22 #[.agg #[.int .i64 (kd : Nat), .int .u32 (fl : Nat), .int .u32 (ex : Nat), .int .u64 (sq : Nat), .slice (some ⟨g1, 0, none⟩) mk c1, .slice (some ⟨g2, 0, none⟩) mv c2]] W fun e w' => e = .returned (.int .i64 ((N + 47) / 48 : Nat)) ∧ Below W.heap.size W w')
    (hCh : ∀ g1 c1 g2 c2 W, Calls Try.prog 18 #[.agg #[.int .i64 (kd : Nat), .int .u32 (fl : Nat), .int .u32 (ex : Nat), .int .u64 (sq : Nat), .slice (some ⟨g1, 0, none⟩) mk c1, .slice (some ⟨g2, 0, none⟩) mv c2]] W fun e w' => e = .returned (.int .i64 0) ∧ Below W.heap.size W w')
    (hRi : ∀ g1 c1 g2 c2 W, Calls Try.prog 20 #[.agg #[.int .i64 (kd : Nat), .int .u32 (fl : Nat), .int .u32 (ex : Nat), .int .u64 (sq : Nat), .slice (some ⟨g1, 0, none⟩) mk c1, .slice (some ⟨g2, 0, none⟩) mv c2]] W fun e w' => e = .returned (.bool true) ∧ Below W.heap.size W w')
    (hWh : ∀ g1 c1 g2 c2 A1 a1 A2 a2 W, Rd W W.heap.size (some ⟨g1, 0, none⟩) (mk + 1) c1 (mlk ++ [7]) → Rd W W.heap.size (some ⟨g2, 0, none⟩) (mv + 1) c2 (mlv ++ [7]) → Rd W W.heap.size A1 mk a1 mlk → Rd W W.heap.size A2 mv a2 mlv → Calls Try.prog 24 #[.agg #[.int .i64 (kd : Nat), .int .u32 (fl : Nat), .int .u32 (ex : Nat), .int .u64 (sq : Nat), .slice (some ⟨g1, 0, none⟩) mk c1, .slice (some ⟨g2, 0, none⟩) mv c2], .agg #[.int .i64 (kd : Nat), .int .u32 (fl : Nat), .int .u32 (ex : Nat), .int .u64 (sq : Nat), .slice A1 mk a1, .slice A2 mv a2]] W fun e w' => e = .returned (.bool true) ∧ Below W.heap.size W w')
    (hBy : ∀ g1 c1 g2 c2 W, Rd W W.heap.size (some ⟨g1, 0, none⟩) mk c1 mlk → Rd W W.heap.size (some ⟨g2, 0, none⟩) mv c2 mlv → Calls Try.prog 25 #[.agg #[.int .i64 (kd : Nat), .int .u32 (fl : Nat), .int .u32 (ex : Nat), .int .u64 (sq : Nat), .slice (some ⟨g1, 0, none⟩) mk c1, .slice (some ⟨g2, 0, none⟩) mv c2]] W (RecBytes N L W)) :
    Calls Try.prog 8 #[recV (kd : Nat) fl ex sq (.slice AK nk ck) (.slice AV nv cv)] w (EncsQ w) := by
  have HSh := Lib.hid hSh
  have HCo := Lib.hid hCo
  have HEn := Lib.hid hEn
  have HSz := Lib.hid hSz
  have HSc := Lib.hid hSc
  have HCh := Lib.hid hCh
  have HRi := Lib.hid hRi
  have HWh := Lib.hid hWh
  clear hSh hCo hEn hSz hSc hCh hRi hWh
  have HBy := Lib.hid hBy
  clear hBy
  have k1 := Blk.new w #[.int .i64 (kd : Nat), .int .u32 (fl : Nat), .int .u32 (ex : Nat), .int .u64 (sq : Nat), .slice AK nk ck, .slice AV nv cv] 26
  have b : Below w.heap.size w (w.alloc (.cells #[.int .i64 (kd : Nat), .int .u32 (fl : Nat), .int .u32 (ex : Nat), .int .u64 (sq : Nat), .slice AK nk ck, .slice AV nv cv] 26)) := below_a1' (Below.refl _ _) _
  unfold recV
  go_enter Try.func8, Try.ntmps8
  go_wp2_with fail
  generalize w.alloc (.cells #[.int .i64 (kd : Nat), .int .u32 (fl : Nat), .int .u32 (ex : Nat), .int .u64 (sq : Nat), .slice AK nk ck, .slice AV nv cv] 26) = W0 at k1 b ⊢
  refine (wakes06 _).mono ?_
  rintro e w1 ⟨rfl, b1⟩
  replace k1 := k1.step b1
  replace b := below_step b b1
  have hlt := k1.lt
  obtain ⟨q0, q1, q2, q3, q4, q5⟩ := box6 k1
  clear b1
  go_wp2_with fail
  refine (HSh.out _ ((rk.below b).more b.size) ((rv.below b).more b.size)).mono ?_
  rintro e w2 ⟨g1, c1, g2, c2, rfl, hne, oK, oV, b2⟩
  replace k1 := k1.step b2
  replace b := below_step b b2
  clear q0 q1 q2 q3 q4 q5 b2
  obtain ⟨q0, q1, q2, q3, q4, q5⟩ := box6 k1
  have x0 := k1.frozen 0
  have x1 := k1.frozen 1
  have x2 := k1.frozen 2
  have x3 := k1.frozen 3
  have x4 := k1.frozen 4
  have x5 := k1.frozen 5
  have kf := blk_set6 k1 (.int .i64 (kd : Nat)) (.int .u32 (fl : Nat)) (.int .u32 (ex : Nat)) (.int .u64 (sq : Nat)) (.slice (some ⟨g1, 0, none⟩) mk c1) (.slice (some ⟨g2, 0, none⟩) mv c2)
  have hg := grown_set6 w2 w.heap.size (.int .i64 (kd : Nat)) (.int .u32 (fl : Nat)) (.int .u32 (ex : Nat)) (.int .u64 (sq : Nat)) (.slice (some ⟨g1, 0, none⟩) mk c1) (.slice (some ⟨g2, 0, none⟩) mv c2)
  have bf := b.trans (below_grown hg (Nat.le_refl _) k1.lt)
  have p1 := (oK.kept hg hlt).rd
  have p2 := (oV.kept hg hlt).rd
  have HCW := Lib.hid (HCo.out g1 c1 g2 c2 _ (rd_fore7 p1) (rd_fore7 p2))
  obtain ⟨t0, t1, t2, t3, t4, t5⟩ := box6 kf
  clear hg b oK oV k1 hlt HSh HCo
  go_wp2_with fail
  refine HCW.out.mono ?_
  clear t0 t1 t2 t3 t4 t5 x0 x1 x2 x3 x4 x5 q0 q1 q2 q3 q4 q5 HCW
  generalize (((((w2.setCell ⟨w.heap.size, 0, none⟩ (.int .i64 (kd : Nat))).setCell ⟨w.heap.size, 1, none⟩ (.int .u32 (fl : Nat))).setCell ⟨w.heap.size, 2, none⟩ (.int .u32 (ex : Nat))).setCell ⟨w.heap.size, 3, none⟩ (.int .u64 (sq : Nat))).setCell ⟨w.heap.size, 4, none⟩ (.slice (some ⟨g1, 0, none⟩) mk c1)).setCell ⟨w.heap.size, 5, none⟩ (.slice (some ⟨g2, 0, none⟩) mv c2) = w3 at kf bf p1 p2 ⊢
  rintro e w4 ⟨A1, a1, A2, a2, rfl, oA, oB, b4⟩
  have p3 := oA.rd
  have p4 := oB.rd
  have k1 := kf.step b4
  have b := below_step bf b4
  replace p1 := (p1.below b4).more b4.size
  replace p2 := (p2.below b4).more b4.size
  have ba := below_a1' (Below.refl w4.heap.size w4) (.cells #[.int .i64 (kd : Nat), .int .u32 (fl : Nat), .int .u32 (ex : Nat), .int .u64 (sq : Nat), .slice A1 mk a1, .slice A2 mv a2] 26)
  have k2 := Blk.new w4 #[.int .i64 (kd : Nat), .int .u32 (fl : Nat), .int .u32 (ex : Nat), .int .u64 (sq : Nat), .slice A1 mk a1, .slice A2 mv a2] 26
  clear kf bf b4 oA oB
  replace p1 := (p1.below ba).more ba.size
  replace p2 := (p2.below ba).more ba.size
  replace p3 := (p3.below ba).more ba.size
  replace p4 := (p4.below ba).more ba.size
  replace k1 := k1.step ba
  replace b := below_step b ba
  have HEW := Lib.hid (HEn.out g1 c1 g2 c2 _ (rd_fore7 p1) (rd_fore7 p2))
  obtain ⟨q0, q1, q2, q3, q4, q5⟩ := box6 k1
  obtain ⟨y0, y1, y2, y3, y4, y5⟩ := box6 k2
  clear HEn
  go_wp2_with fail
  generalize w4.alloc (.cells #[.int .i64 (kd : Nat), .int .u32 (fl : Nat), .int .u32 (ex : Nat), .int .u64 (sq : Nat), .slice A1 mk a1, .slice A2 mv a2] 26) = w5 at k1 k2 b p1 p2 p3 p4 HEW ⊢
  clear ba
  refine HEW.out.mono ?_
  clear HEW
  have P1 := p1
  have P2 := p2
  have P3 := p3
  have P4 := p4
  have K1 := k1
  have K2 := k2
  have b5 := b
  clear p1 p2 p3 p4 k1 k2 b
  rintro e w6 ⟨C, cc, rfl, oC, b6⟩
  have bb := below_step (Below.refl w5.heap.size w5) b6
  clear b6 q0 q1 q2 q3 q4 q5 y0 y1 y2 y3 y4 y5
  obtain ⟨gC, rfl, hgB, -⟩ := own_pos oC (by omega)
  go_wp2_with fail
  replace bb : Below w5.heap.size w5 w6.drew := bb.drew
  replace oC : Own w6.drew w5.heap.size (some ⟨gC, 0, none⟩) N cc L := oC
  obtain ⟨q0, q1, q2, q3, q4, q5⟩ := box6 (K1.step bb)
  go_region_held3 (fun w' => w'.cell? ⟨w.heap.size, 0, none⟩ = some (.int .i64 (kd : Nat)) ∧ w'.cell? ⟨w.heap.size, 1, none⟩ = some (.int .u32 (fl : Nat)) ∧ w'.cell? ⟨w.heap.size, 2, none⟩ = some (.int .u32 (ex : Nat)) ∧ w'.cell? ⟨w.heap.size, 3, none⟩ = some (.int .u64 (sq : Nat)) ∧ w'.cell? ⟨w.heap.size, 4, none⟩ = some (.slice (some ⟨g1, 0, none⟩) mk c1) ∧ w'.cell? ⟨w.heap.size, 5, none⟩ = some (.slice (some ⟨g2, 0, none⟩) mv c2)) (first | with_reducible exact ⟨q0, q1, q2, q3, q4, q5⟩ | fail)
    (first
      | (go_at_call 21
         with_reducible refine (HSz.out g1 c1 g2 c2 _).mono ?_
         rintro e w7 ⟨rfl, b7⟩
         replace bb := below_step bb b7
         replace oC := oC.below b7
         clear q0 q1 q2 q3 q4 q5
         obtain ⟨q0, q1, q2, q3, q4, q5⟩ := box6 (K1.step bb))
      | (go_at_call 22
         with_reducible refine (HSc.out g1 c1 g2 c2 _).mono ?_
         rintro e w8 ⟨rfl, b8⟩
         replace bb := below_step bb b8
         replace oC := oC.below b8
         clear q0 q1 q2 q3 q4 q5
         obtain ⟨q0, q1, q2, q3, q4, q5⟩ := box6 (K1.step bb))
      | (go_at_call 18
         with_reducible refine (HCh.out g1 c1 g2 c2 _).mono ?_
         rintro e w9 ⟨rfl, b9⟩
         replace bb := below_step bb b9
         replace oC := oC.below b9
         clear q0 q1 q2 q3 q4 q5
         obtain ⟨q0, q1, q2, q3, q4, q5⟩ := box6 (K1.step bb))
      | fail)
  obtain ⟨y0, y1, y2, y3, y4, y5⟩ := box6 (K2.step bb)
  go_wp2_with fail
  refine (HWh.out g1 c1 g2 c2 A1 a1 A2 a2 _ ((P1.below bb).more bb.size) ((P2.below bb).more bb.size) ((P3.below bb).more bb.size) ((P4.below bb).more bb.size)).mono ?_
  rintro e w10 ⟨rfl, b10⟩
  replace bb := below_step bb b10
  replace oC := oC.below b10
  clear b10 q0 q1 q2 q3 q4 q5 y0 y1 y2 y3 y4 y5
  obtain ⟨q0, q1, q2, q3, q4, q5⟩ := box6 (K1.step bb)
  obtain ⟨y0, y1, y2, y3, y4, y5⟩ := box6 (K2.step bb)
  go_wp2_with fail
  refine (HRi.out g1 c1 g2 c2 _).mono ?_
  rintro e w11 ⟨rfl, b11⟩
  replace bb := below_step bb b11
  replace oC := oC.below b11
  clear b11 q0 q1 q2 q3 q4 q5 y0 y1 y2 y3 y4 y5
  obtain ⟨q0, q1, q2, q3, q4, q5⟩ := box6 (K1.step bb)
  obtain ⟨y0, y1, y2, y3, y4, y5⟩ := box6 (K2.step bb)
  go_wp2_with fail
  refine (HBy.out g1 c1 g2 c2 _ (rd_fore7 ((P1.below bb).more bb.size)) (rd_fore7 ((P2.below bb).more bb.size))).mono ?_
  rintro e w12 ⟨D, dc, rfl, oD, b12⟩
  replace bb := below_step bb b12
  replace oC := oC.below b12
  clear b12 q0 q1 q2 q3 q4 q5 y0 y1 y2 y3 y4 y5
  obtain ⟨q0, q1, q2, q3, q4, q5⟩ := box6 (K1.step bb)
  obtain ⟨y0, y1, y2, y3, y4, y5⟩ := box6 (K2.step bb)
  have HB := Lib.hid (bequal_gen (some ⟨gC, 0, none⟩) D N cc N dc _ _ L L w12 oC.rd oD.rd)
  rw [eqB_rfl] at HB
  clear oD
  go_wp2_with fail
  refine HB.out.mono ?_
  rintro e w13 ⟨rfl, hw⟩
  subst hw
  go_wp2_with fail
  refine (sec06_any N (by omega) _).mono ?_
  rintro e w14 ⟨rfl, hw⟩
  subst hw
  clear HB HSz HSc HCh HRi HBy
  go_wp2_with fail
  go_loopw [83] (fun i wr => ∃ (k : Nat) (l' : List UInt8), k ≤ N ∧ i = .int .i64 k ∧ Own wr w5.heap.size (some ⟨gC, 0, none⟩) N cc l' ∧ Below w5.heap.size w5 wr) (fun i _ => N - (intOf i).toNat)
  case atStart => exact ⟨0, L, Nat.zero_le _, rfl, oC, bb⟩
  case round =>
    obtain ⟨k, l', hk, rfl, ho2, hb2⟩ := hrel
    clear q0 q1 q2 q3 q4 q5 y0 y1 y2 y3 y4 y5 oC bb
    by_cases hlt : k < N
    · obtain ⟨x1, hx1, hc1⟩ := ho2.cellAt (j := k) hlt
      have hf := ho2.frozenAt k
      clear hx1
      have ho3 : Own (wr.setCell ⟨gC, k, none⟩ (.int .u8 238)) w5.heap.size (some ⟨gC, 0, none⟩) N cc (l'.set k 238) := ho2.stored k 238
      have hb3 := hb2.setCell (p := ⟨gC, k, none⟩) hgB (.int .u8 238)
      go_wp2
      go_roundw
      case rel => exact ⟨k + 1, _, by omega, by go_num, ho3, hb3⟩
      case measure => simp [intOf]; omega
    · have bb := hb2
      obtain ⟨q0, q1, q2, q3, q4, q5⟩ := box6 (K1.step bb)
      obtain ⟨y0, y1, y2, y3, y4, y5⟩ := box6 (K2.step bb)
      go_wp2_with fail
      refine (HWh.out g1 c1 g2 c2 A1 a1 A2 a2 _ ((P1.below bb).more bb.size) ((P2.below bb).more bb.size) ((P3.below bb).more bb.size) ((P4.below bb).more bb.size)).mono ?_
      rintro e w15 ⟨rfl, b15⟩
      replace bb := below_step bb b15
      go_wp2_with fail
      go_ret
      exact ⟨rfl, b5.trans (bb.mono b5.size)⟩
theorem walk_recordEncodes (kind : Int) (fl ex sq : Nat) (AK : Option Addr) (nk ck : Nat) (lk : List UInt8) (AV : Option Addr) (nv cv : Nat) (lv : List UInt8) (w : World) (r0 : Rcd w w.heap.size kind fl ex sq AK nk ck lk AV nv cv lv) (z0 : ck ≤ 140737488351232 ∧ cv ≤ 140737488351232) :
    Calls Try.prog 8 #[recV kind fl ex sq (.slice AK nk ck) (.slice AV nv cv)] w fun e w' => e = .returned (.bool true) ∧ Below w.heap.size w w' := by
  obtain ⟨rk, rv, b1, b2, b3⟩ := r0
  have hlk := rk.len
  have hlv := rv.len
  have m1 := Nat.min_le_right nk 600
  have m2 := Nat.min_le_right nv 600
  have hCo : ∀ g1 c1 g2 c2 W, Rd W W.heap.size (some ⟨g1, 0, none⟩) (min nk 600) c1 (lk.take (min nk 600)) → Rd W W.heap.size (some ⟨g2, 0, none⟩) (min nv 600) c2 (lv.take (min nv 600)) → Calls Try.prog 14 #[.agg #[.int .i64 kind, .int .u32 (fl : Nat), .int .u32 (ex : Nat), .int .u64 (sq : Nat), .slice (some ⟨g1, 0, none⟩) (min nk 600) c1, .slice (some ⟨g2, 0, none⟩) (min nv 600) c2]] W fun e w' => ∃ A1 a1 A2 a2, e = .returned (.agg #[.int .i64 kind, .int .u32 (fl : Nat), .int .u32 (ex : Nat), .int .u64 (sq : Nat), .slice A1 (min nk 600) a1, .slice A2 (min nv 600) a2]) ∧ Own w' W.heap.size A1 (min nk 600) a1 (lk.take (min nk 600)) ∧ Own w' W.heap.size A2 (min nv 600) a2 (lv.take (min nv 600)) ∧ Below W.heap.size W w' :=
    fun g1 c1 g2 c2 W r r' => copied_any kind fl ex sq _ _ _ c1 _ c2 _ _ W r r' (by omega) (by omega)
  have hSh := fun W r r' => short_any kind fl ex sq AK AV nk ck nv cv lk lv W r r'
  have hCh := fun g1 c1 g2 c2 W => check_any kind fl ex sq (some ⟨g1, 0, none⟩) (some ⟨g2, 0, none⟩) (min nk 600) c1 (min nv 600) c2 W
  have hSz := fun g1 c1 g2 c2 W => size_any kind fl ex sq (some ⟨g1, 0, none⟩) (some ⟨g2, 0, none⟩) (min nk 600) c1 (min nv 600) c2 W
  have hSc := fun g1 c1 g2 c2 W => sectors_any kind fl ex sq (some ⟨g1, 0, none⟩) (some ⟨g2, 0, none⟩) (min nk 600) c1 (min nv 600) c2 W
  have hRi := fun g1 c1 g2 c2 W => rright_any kind fl ex sq (some ⟨g1, 0, none⟩) (some ⟨g2, 0, none⟩) (min nk 600) c1 (min nv 600) c2 W
  have hWh := fun g1 c1 g2 c2 A1 a1 A2 a2 W r1 r2 r3 r4 => whole_any kind fl ex sq g1 c1 g2 c2 (min nk 600) (min nv 600) A1 A2 a1 a2 (lk.take (min nk 600)) (lv.take (min nv 600)) W r1 r2 r3 r4 (by omega) (by omega)
  unfold recV at hCh hSz hSc hRi
  cases hr : rightR kind fl ex sq (min nk 600) (min nv 600)
  · rw [checkR_no hr] at hCh
    rw [hr] at hRi
    have ez : sizeR kind fl ex sq (min nk 600) (min nv 600) = 0 := by unfold sizeR; rw [hr]; rfl
    rw [show secR kind fl ex sq (min nk 600) (min nv 600) = 0 from by unfold secR; rw [ez]] at hSc
    rw [ez] at hSz
    exact encs_no kind fl ex sq AK nk ck lk AV nv cv lv (min nk 600) (min nv 600) (lk.take (min nk 600)) (lv.take (min nv 600)) w rk rv hSh hCo (fun g1 c1 g2 c2 W r r' => enc_no kind fl ex sq _ _ _ c1 _ c2 W hr) hSz hSc hCh hRi hWh
  · obtain ⟨kd, rfl, hkd, hmk, hmv⟩ := right_kd hr
    rw [checkR_yes hr] at hCh
    rw [hr] at hRi
    have ez : sizeR (kd : Int) fl ex sq (min nk 600) (min nv 600) = 21 + min nk 600 + min nv 600 := by unfold sizeR; rw [hr]; rfl
    rw [show secR (kd : Int) fl ex sq (min nk 600) (min nv 600) = (21 + min nk 600 + min nv 600 + 47) / 48 from by unfold secR; rw [ez]] at hSc
    rw [ez] at hSz
    exact encs_ok kd (21 + min nk 600 + min nv 600) fl ex sq AK nk ck lk AV nv cv lv (min nk 600) (min nv 600) (lk.take (min nk 600)) (lv.take (min nv 600)) w rk rv (recB kd fl ex sq (lk.take (min nk 600)) (lv.take (min nv 600))) (by omega) (by omega) hSh hCo
      (fun g1 c1 g2 c2 W r r' => enc_ok kd fl ex sq hkd (by omega) (by omega) (by omega) _ _ _ c1 _ c2 _ _ W r r' hr) hSz hSc hCh hRi hWh
      (fun g1 c1 g2 c2 W r r' => rbytes06 kd fl ex sq hkd (by omega) (by omega) (by omega) _ _ _ c1 _ c2 (by omega) (by omega) _ _ W r r')


set_option maxRecDepth 100000 in
theorem lifted_recordEncodes (os : Os) (started : os.Started) (H : Type) (enc : TypeId × Value → H) :
    ReturnsInHanded {} Try.checked os 8 .any (Rows.recordEncodesSpec.pre6 enc Try.prog Try.f8 Rows.recordEncodesRow.domain false) (Rows.recordEncodesSpec.post enc Try.prog Try.f8 false true false false) := by
  refine returnsInHanded_of_change_sized (C := Try.checked) own started (by kernel_rfl) Try.func8
    (ChangeSpec.witness6 (enc := enc) (C := Try.checked) false ⟨#[], #[.agg #[.int .i64 0, .int .u32 0, .int .u32 0, .int .u64 0, .slice none 0 0, .slice none 0 0]], []⟩ 8 (by kernel_rfl) (by kernel_rfl) (by kernel_rfl) (by kernel_rfl)) ?_
  intro W base args ds gs before hval0 hW hcnd hsz0 _
  have hval : ∀ (j : Nat) t v, Try.f8.params[j]? = some t → args[j]? = some v → Value.okWide Try.prog W .any base t v := hval0
  have hsz : (DataW.weightsEach Try.prog (Try.f8.params.toList ++ Rows.recordEncodesSpec.plain.varTypes Try.prog) (ds ++ gs)).all (· ≤ reachBytes) = true := hsz0
  have hW' := hW
  obtain ⟨p, q, hA0, hV, rfl, hfz, hnd⟩ := hW
  have hA : DataW.TrodAll enc Try.prog W 0 (fun _ => true) true Try.f8.params.toList args.toList ds p := hA0
  rw [Try.params8] at hA hval hsz
  obtain ⟨v0, vs0, d0, ds0, p0, q0, hargs, rfl, rfl, h0, t0⟩ := trodAll_cons hA
  obtain ⟨rfl, rfl, rfl⟩ := trodAll_nil t0
  obtain rfl : args = #[v0] := by cases args; simp_all
  obtain ⟨rfl, rfl⟩ := trodVars_none hV
  have k0 := h0
  obtain ⟨kind0, fl0, ex0, sq0, AK0, nk0, ck0, lk0, AV0, nv0, cv0, lv0, rfl, r0, y0⟩ := open_rec (hval 0 26 v0 rfl rfl) h0
  have s0 := y0 (weights_of hsz (j := 0) rfl rfl)
  clear hA0 hval0
  refine (walk_recordEncodes kind0 fl0 ex0 sq0 AK0 nk0 ck0 lk0 AV0 nv0 cv0 lv0 W r0 s0).mono fun e W' ⟨he, bel⟩ => ?_
  subst he
  exact ⟨_, rfl, _, _, _, [], _, [], hW', trodAll_mk1 (shut_bool Try.underlying4 _), (trodAll_cons_mk (Below.trod laidOut (by kernel_rfl) (of_decide_eq_true (by kernel_rfl)) k0 bel (trod_places k0)) trodAll_mk0), rfl, bel.frame _, fun h => by cases h⟩

theorem over_recordEncodes : Rows.recordEncodesRow.holds Try.pinned (OpenSpec.ofChange Rows.recordEncodesSpec) :=
  OpenClaim.holds_of_wide 8 Try.f8 rfl rfl rfl rfl rfl rfl rfl ⟨rfl, rfl, rfl, rfl, rfl⟩ rfl rfl rfl rfl rfl (by kernel_rfl) Try.func8 (by kernel_rfl)
    (of_decide_eq_true (by kernel_rfl)) (by unfold Func.isWrapper; first | (rw [if_pos (by decide +kernel)]; kernel_rfl) | (rw [if_neg (by decide +kernel)]; exact ⟨rfl, rfl⟩))
    (fun os started H enc _ => lifted_recordEncodes os started H enc)

/-- The statement. -/
theorem recordEncodes_holds : Rows.RecordEncodesSaid := over_recordEncodes
#print axioms recordEncodes_holds

end Go.Proofs.Ytkdkmdjfimnkaaa

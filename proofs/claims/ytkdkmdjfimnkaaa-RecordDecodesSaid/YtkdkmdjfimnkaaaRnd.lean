/- icehouseref06.Need. Conditions: typed in each theorem. -/
import Derived.Test.YtkdkmdjfimnkaaaWho
import Derived.StillTailTactics
namespace Go.Proofs.Ytkdkmdjfimnkaaa
set_option linter.unusedVariables false
open Go.RowKit

theorem fld_one {l : List UInt8} {o : Nat} {x : UInt8} (h : l[o]? = some x) : fld l o 1 = x.toNat := by
  unfold fld
  obtain ⟨h1, h2⟩ := List.getElem?_eq_some_iff.1 h
  rw [List.drop_eq_getElem_cons h1, h2]
  simp [numB]
theorem rd_byte {w : World} {B n c : Nat} {a : Addr} {l : List UInt8} (h : Rd w B (some a) n c l) (o : Nat) (ho : o < n) : w.cell? (a.add o) = some (.int .u8 (fld l o 1 : Nat)) := by
  obtain ⟨ad, x, e, -, hx, hc⟩ := h.at_ ho
  obtain rfl : a = ad := by injection e
  rw [hc, fld_one hx]
theorem num06_fld (A : Option Addr) (k c : Nat) (l : List UInt8) (o : Nat) (hk : k ≤ 8) (hl : o + k ≤ l.length) (w : World) {B : Nat} (h : Rd w B A k c ((l.take (o + k)).drop o)) :
    Calls Try.prog 37 #[.slice A k c] w fun e w' => e = .returned (.int .u64 (fld l o k : Nat)) ∧ w = w' := by
  have e : (l.take (o + k)).drop o = (l.drop o).take k := by rw [List.drop_take, Nat.add_sub_cancel_left]
  rw [e] at h
  have := num06_any A k c B _ w h
  rw [numQ_small (by rw [List.length_take]; omega)] at this
  exact this
/-- make([]byte, m), m an uint64 -/
theorem wpList_mk8u (w : World) {ops : Array Oper} {rest : List Oper} {o : Oper} {a : Act} {Q : Exit → Act → World → Prop}
    (hg : o.guard = none) (l c : Operand) (hop : o.op = Op.makeSlice 24 l c) (B m : Nat)
    (hl : a.eval l = .int .u64 (m : Int)) (hc : a.eval c = .int .u64 (m : Int)) (hm : m ≤ 281474976710656) (hB : B ≤ w.heap.size)
    (hK : ∀ w', w.grownBy w' none → wpList Try.prog ops Q rest (a.put o.dst (.slice (some ⟨w.heap.size, 0, none⟩) m m)) w') :
    wpList Try.prog ops Q (o :: rest) a w := by
  obtain ⟨i0, hi0, hz0, hz1, hz2⟩ := info_parts u8info
  refine wpList_make_full w hg l c _ hop B 5 i0 _ 1 Try.underlying24 hi0 hz0 hz1 .u64 .u64 _ _ m hl hc rfl rfl (by rw [hz2]; omega) (by unfold maxLen; omega) hB ?_
  intro w' h1 h2
  exact hK w' h2
theorem rneed06_short (A : Option Addr) (n c : Nat) (w : World) (hn : n < 21) : Calls Try.prog 28 #[.slice A n c] w (NeedQ 0 9 w) := by
  go_enter Try.func28, Try.ntmps28
  go_wp2_with fail
  go_ret2
  exact ⟨rfl, Below.refl _ _⟩
set_option maxRecDepth 20000 in
set_option maxHeartbeats 4000000 in
theorem rneed06_yes (A : Option Addr) (n c : Nat) (l : List UInt8) (w : World) (h : Rd w w.heap.size A n c l) (hn : 21 ≤ n) (hr : rightR (fld l 0 1 : Nat) (fld l 1 4) (fld l 5 4) (fld l 9 8) (fld l 17 2) (fld l 19 2) = true) :
    Calls Try.prog 28 #[.slice A n c] w (NeedQ (21 + (fld l 17 2 : Nat) + (fld l 19 2 : Nat)) 0 w) := by
  have fkd := fld_lt l 0 1
  have ffl := fld_lt l 1 4
  have fex := fld_lt l 5 4
  have fsq := fld_lt l 9 8
  have fk := fld_lt l 17 2
  have fv := fld_lt l 19 2
  obtain ⟨Xfl, cfl, HXfl, rXfl⟩ := slc_lh h 1 5 1 5 rfl rfl (by omega) (by omega)
  rw [show 5 - 1 = 4 from rfl] at HXfl rXfl
  have hNfl := fun W r => num06_fld Xfl 4 cfl l 1 (by omega) (by rw [h.len]; omega) W (rXfl W w.heap.size r)
  obtain ⟨Xex, cex, HXex, rXex⟩ := slc_lh h 5 9 5 9 rfl rfl (by omega) (by omega)
  rw [show 9 - 5 = 4 from rfl] at HXex rXex
  have hNex := fun W r => num06_fld Xex 4 cex l 5 (by omega) (by rw [h.len]; omega) W (rXex W w.heap.size r)
  obtain ⟨Xsq, csq, HXsq, rXsq⟩ := slc_lh h 9 17 9 17 rfl rfl (by omega) (by omega)
  rw [show 17 - 9 = 8 from rfl] at HXsq rXsq
  have hNsq := fun W r => num06_fld Xsq 8 csq l 9 (by omega) (by rw [h.len]; omega) W (rXsq W w.heap.size r)
  obtain ⟨Xk, ck, HXk, rXk⟩ := slc_lh h 17 19 17 19 rfl rfl (by omega) (by omega)
  rw [show 19 - 17 = 2 from rfl] at HXk rXk
  have hNk := fun W r => num06_fld Xk 2 ck l 17 (by omega) (by rw [h.len]; omega) W (rXk W w.heap.size r)
  obtain ⟨Xv, cv, HXv, rXv⟩ := slc_lh h 19 21 19 21 rfl rfl (by omega) (by omega)
  rw [show 21 - 19 = 2 from rfl] at HXv rXv
  have hNv := fun W r => num06_fld Xv 2 cv l 19 (by omega) (by rw [h.len]; omega) W (rXv W w.heap.size r)
  obtain ⟨a, x, rfl, halt, -, -⟩ := h.at_ (i := 0) (by omega)
  have q0 := rd_byte h 0 (by omega)
  have hcap := h.cap
  generalize fld l 0 1 = kd at hr q0 fkd
  generalize fld l 1 4 = fl at hr hNfl ffl
  generalize fld l 5 4 = ex at hr hNex fex
  generalize fld l 9 8 = sq at hr hNsq fsq
  generalize fld l 17 2 = k at hr hNk fk ⊢
  generalize fld l 19 2 = v at hr hNv fv ⊢
  have HR := Lib.hid hr
  have Hfl := Lib.hid hNfl
  have Hex := Lib.hid hNex
  have Hsq := Lib.hid hNsq
  have Hk := Lib.hid hNk
  have Hv := Lib.hid hNv
  clear hr hNfl rXfl hNex rXex hNsq rXsq hNk rXk hNv rXv
  have Wkd : IntKind.i64.wrap (kd : Int) = (kd : Int) := IntWalk.i64_in _ (by omega)
  have Wfl : IntKind.u32.wrap (fl : Int) = (fl : Int) := IntWalk.u32_in _ (by omega)
  have Wex : IntKind.u32.wrap (ex : Int) = (ex : Int) := IntWalk.u32_in _ (by omega)
  have i0 : (0 : Int) < (n : Int) := by omega
  have j0 : 0 < n := by omega
  replace q0 : w.cell? a = some (.int .u8 (kd : Nat)) := q0
  go_enter Try.func28, Try.ntmps28
  go_upto_region 3 with fail
  go_cut [4] (fun s wx => s = .pointer (some ⟨w.heap.size, 0, none⟩) ∧ Blk wx w.heap.size #[.int .i64 (kd : Nat), .int .u32 (fl : Nat), .int .u32 (ex : Nat), .int .u64 (sq : Nat), .slice none 0 0, .slice none 0 0] 26 ∧ Below w.heap.size w wx)
  case first =>
    have q1 : w.drew.cell? a = some (.int .u8 (kd : Nat)) := q0
    have q2 : ∀ o : Obj, (w.alloc o).drew.cell? a = some (.int .u8 (kd : Nat)) := fun o => (World.cell?_alloc_lt w o a halt).trans q0
    have r1 : Rd w.drew w.heap.size (some a) n c l := h.drewN 1
    have r2 : ∀ o : Obj, Rd (w.alloc o).drew w.heap.size (some a) n c l := fun o => (h.alloc (Nat.le_refl _) o).drewN 1
    go_region_held3 (fun w' => w'.cell? a = some (.int .u8 (kd : Nat))) (first | with_reducible exact q1 | with_reducible exact q2 _ | go_keep)
      (first
        | (go_at_call 37
           first
             | with_reducible refine (Hfl.out _ r1).mono ?_
             | with_reducible refine (Hfl.out _ (r2 _)).mono ?_
             | with_reducible refine (Hex.out _ r1).mono ?_
             | with_reducible refine (Hex.out _ (r2 _)).mono ?_
             | with_reducible refine (Hsq.out _ r1).mono ?_
             | with_reducible refine (Hsq.out _ (r2 _)).mono ?_
             | fail
           rintro e w2 ⟨rfl, hw⟩
           subst hw)
        | fail)
    all_goals go_wp2_with fail
    all_goals go_meet
    all_goals exact ⟨rfl, Blk.new w #[.int .i64 (kd : Nat), .int .u32 (fl : Nat), .int .u32 (ex : Nat), .int .u64 (sq : Nat), .slice none 0 0, .slice none 0 0] 26, (below_a1' (Below.refl _ _) _).drew⟩
  case rest =>
    obtain ⟨rfl, k4, b⟩ := hcut
    clear Hfl Hex Hsq HXfl HXex HXsq q0
    have C1 := Lib.hid (Hk.out _ (h.below b))
    go_wp2_with fail
    refine C1.out.mono ?_
    rintro e w2 ⟨rfl, hw⟩
    subst hw
    have y4 := k4.frozen 4
    have z4 := (box6 k4).2.2.2.2.1
    go_wp2_with (at_make; refine wpList_mk8u _ rfl _ _ rfl 0 k rfl rfl (by omega) (Nat.zero_le _) ?_)
    intro w3 g3
    have k4' : Blk w3 w.heap.size _ _ := (g3.block _ k4.lt (by simp)).trans k4
    have b3 := b.trans (below_of_grown0 g3 b.size)
    have y4' := k4'.frozen 4
    have z4' := (box6 k4').2.2.2.2.1
    have k5 : Blk (w3.setCell ⟨w.heap.size, 4, none⟩ (.slice (some ⟨wc.heap.size, 0, none⟩) k k)) w.heap.size #[.int .i64 (kd : Nat), .int .u32 (fl : Nat), .int .u32 (ex : Nat), .int .u64 (sq : Nat), .slice (some ⟨wc.heap.size, 0, none⟩) k k, .slice none 0 0] 26 := k4'.set_ 4 _
    have b4 := b3.trans (below_grown (rdr_grown_set w3 w.heap.size 4 (.slice (some ⟨wc.heap.size, 0, none⟩) k k)) (Nat.le_refl _) k4'.lt)
    clear y4 z4 k4 b b3 g3 C1 k4'
    go_wp2_with fail
    generalize w3.setCell ⟨w.heap.size, 4, none⟩ (.slice (some ⟨wc.heap.size, 0, none⟩) k k) = w4 at k5 b4 ⊢
    generalize wc.heap.size = gk at k5 ⊢
    clear y4' z4'
    refine (Hv.out _ (h.below b4)).mono ?_
    rintro e w5 ⟨rfl, hw⟩
    subst hw
    have y5 := k5.frozen 5
    have z5 := (box6 k5).2.2.2.2.2
    go_wp2_with (at_make; refine wpList_mk8u _ rfl _ _ rfl 0 v rfl rfl (by omega) (Nat.zero_le _) ?_)
    intro w6 g6
    have k5' : Blk w6 w.heap.size _ _ := (g6.block _ k5.lt (by simp)).trans k5
    have b6 := b4.trans (below_of_grown0 g6 b4.size)
    have y5' := k5'.frozen 5
    have z5' := (box6 k5').2.2.2.2.2
    have k7 : Blk (w6.setCell ⟨w.heap.size, 5, none⟩ (.slice (some ⟨w4.heap.size, 0, none⟩) v v)) w.heap.size #[.int .i64 (kd : Nat), .int .u32 (fl : Nat), .int .u32 (ex : Nat), .int .u64 (sq : Nat), .slice (some ⟨gk, 0, none⟩) k k, .slice (some ⟨w4.heap.size, 0, none⟩) v v] 26 := k5'.set_ 5 _
    have b7 := b6.trans (below_grown (rdr_grown_set w6 w.heap.size 5 (.slice (some ⟨w4.heap.size, 0, none⟩) v v)) (Nat.le_refl _) k5'.lt)
    have HRR := Lib.hid (fun W => rright_any (kd : Int) fl ex sq (some ⟨gk, 0, none⟩) (some ⟨w4.heap.size, 0, none⟩) k k v v W)
    unfold recV at HRR
    obtain ⟨q0, q1, q2, q3, q4, q5⟩ := box6 k7
    clear y5 z5 k5 b4 b6 g6 k5'
    go_wp2_with fail
    refine (HRR.out _).mono ?_
    rintro e w8 ⟨rfl, b8⟩
    rw [HR.out]
    replace k7 := k7.step b8
    replace b7 := below_step b7 b8
    clear q0 q1 q2 q3 q4 q5 HRR b8 y5' z5'
    obtain ⟨q0, q1, q2, q3, q4, q5⟩ := box6 k7
    go_wp2_with fail
    go_ret2
    exact ⟨rfl, b7⟩
set_option maxRecDepth 20000 in
set_option maxHeartbeats 4000000 in
theorem rneed06_bad (A : Option Addr) (n c : Nat) (l : List UInt8) (w : World) (h : Rd w w.heap.size A n c l) (hn : 21 ≤ n) (hr : rightR (fld l 0 1 : Nat) (fld l 1 4) (fld l 5 4) (fld l 9 8) (fld l 17 2) (fld l 19 2) = false) :
    Calls Try.prog 28 #[.slice A n c] w (NeedQ 0 160 w) := by
  have fkd := fld_lt l 0 1
  have ffl := fld_lt l 1 4
  have fex := fld_lt l 5 4
  have fsq := fld_lt l 9 8
  have fk := fld_lt l 17 2
  have fv := fld_lt l 19 2
  obtain ⟨Xfl, cfl, HXfl, rXfl⟩ := slc_lh h 1 5 1 5 rfl rfl (by omega) (by omega)
  rw [show 5 - 1 = 4 from rfl] at HXfl rXfl
  have hNfl := fun W r => num06_fld Xfl 4 cfl l 1 (by omega) (by rw [h.len]; omega) W (rXfl W w.heap.size r)
  obtain ⟨Xex, cex, HXex, rXex⟩ := slc_lh h 5 9 5 9 rfl rfl (by omega) (by omega)
  rw [show 9 - 5 = 4 from rfl] at HXex rXex
  have hNex := fun W r => num06_fld Xex 4 cex l 5 (by omega) (by rw [h.len]; omega) W (rXex W w.heap.size r)
  obtain ⟨Xsq, csq, HXsq, rXsq⟩ := slc_lh h 9 17 9 17 rfl rfl (by omega) (by omega)
  rw [show 17 - 9 = 8 from rfl] at HXsq rXsq
  have hNsq := fun W r => num06_fld Xsq 8 csq l 9 (by omega) (by rw [h.len]; omega) W (rXsq W w.heap.size r)
  obtain ⟨Xk, ck, HXk, rXk⟩ := slc_lh h 17 19 17 19 rfl rfl (by omega) (by omega)
  rw [show 19 - 17 = 2 from rfl] at HXk rXk
  have hNk := fun W r => num06_fld Xk 2 ck l 17 (by omega) (by rw [h.len]; omega) W (rXk W w.heap.size r)
  obtain ⟨Xv, cv, HXv, rXv⟩ := slc_lh h 19 21 19 21 rfl rfl (by omega) (by omega)
  rw [show 21 - 19 = 2 from rfl] at HXv rXv
  have hNv := fun W r => num06_fld Xv 2 cv l 19 (by omega) (by rw [h.len]; omega) W (rXv W w.heap.size r)
  obtain ⟨a, x, rfl, halt, -, -⟩ := h.at_ (i := 0) (by omega)
  have q0 := rd_byte h 0 (by omega)
  have hcap := h.cap
  generalize fld l 0 1 = kd at hr q0 fkd
  generalize fld l 1 4 = fl at hr hNfl ffl
  generalize fld l 5 4 = ex at hr hNex fex
  generalize fld l 9 8 = sq at hr hNsq fsq
  generalize fld l 17 2 = k at hr hNk fk
  generalize fld l 19 2 = v at hr hNv fv
  have HR := Lib.hid hr
  have Hfl := Lib.hid hNfl
  have Hex := Lib.hid hNex
  have Hsq := Lib.hid hNsq
  have Hk := Lib.hid hNk
  have Hv := Lib.hid hNv
  clear hr hNfl rXfl hNex rXex hNsq rXsq hNk rXk hNv rXv
  have Wkd : IntKind.i64.wrap (kd : Int) = (kd : Int) := IntWalk.i64_in _ (by omega)
  have Wfl : IntKind.u32.wrap (fl : Int) = (fl : Int) := IntWalk.u32_in _ (by omega)
  have Wex : IntKind.u32.wrap (ex : Int) = (ex : Int) := IntWalk.u32_in _ (by omega)
  have i0 : (0 : Int) < (n : Int) := by omega
  have j0 : 0 < n := by omega
  replace q0 : w.cell? a = some (.int .u8 (kd : Nat)) := q0
  go_enter Try.func28, Try.ntmps28
  go_upto_region 3 with fail
  go_cut [4] (fun s wx => s = .pointer (some ⟨w.heap.size, 0, none⟩) ∧ Blk wx w.heap.size #[.int .i64 (kd : Nat), .int .u32 (fl : Nat), .int .u32 (ex : Nat), .int .u64 (sq : Nat), .slice none 0 0, .slice none 0 0] 26 ∧ Below w.heap.size w wx)
  case first =>
    have q1 : w.drew.cell? a = some (.int .u8 (kd : Nat)) := q0
    have q2 : ∀ o : Obj, (w.alloc o).drew.cell? a = some (.int .u8 (kd : Nat)) := fun o => (World.cell?_alloc_lt w o a halt).trans q0
    have r1 : Rd w.drew w.heap.size (some a) n c l := h.drewN 1
    have r2 : ∀ o : Obj, Rd (w.alloc o).drew w.heap.size (some a) n c l := fun o => (h.alloc (Nat.le_refl _) o).drewN 1
    go_region_held3 (fun w' => w'.cell? a = some (.int .u8 (kd : Nat))) (first | with_reducible exact q1 | with_reducible exact q2 _ | go_keep)
      (first
        | (go_at_call 37
           first
             | with_reducible refine (Hfl.out _ r1).mono ?_
             | with_reducible refine (Hfl.out _ (r2 _)).mono ?_
             | with_reducible refine (Hex.out _ r1).mono ?_
             | with_reducible refine (Hex.out _ (r2 _)).mono ?_
             | with_reducible refine (Hsq.out _ r1).mono ?_
             | with_reducible refine (Hsq.out _ (r2 _)).mono ?_
             | fail
           rintro e w2 ⟨rfl, hw⟩
           subst hw)
        | fail)
    all_goals go_wp2_with fail
    all_goals go_meet
    all_goals exact ⟨rfl, Blk.new w #[.int .i64 (kd : Nat), .int .u32 (fl : Nat), .int .u32 (ex : Nat), .int .u64 (sq : Nat), .slice none 0 0, .slice none 0 0] 26, (below_a1' (Below.refl _ _) _).drew⟩
  case rest =>
    obtain ⟨rfl, k4, b⟩ := hcut
    clear Hfl Hex Hsq HXfl HXex HXsq q0
    have C1 := Lib.hid (Hk.out _ (h.below b))
    go_wp2_with fail
    refine C1.out.mono ?_
    rintro e w2 ⟨rfl, hw⟩
    subst hw
    have y4 := k4.frozen 4
    have z4 := (box6 k4).2.2.2.2.1
    go_wp2_with (at_make; refine wpList_mk8u _ rfl _ _ rfl 0 k rfl rfl (by omega) (Nat.zero_le _) ?_)
    intro w3 g3
    have k4' : Blk w3 w.heap.size _ _ := (g3.block _ k4.lt (by simp)).trans k4
    have b3 := b.trans (below_of_grown0 g3 b.size)
    have y4' := k4'.frozen 4
    have z4' := (box6 k4').2.2.2.2.1
    have k5 : Blk (w3.setCell ⟨w.heap.size, 4, none⟩ (.slice (some ⟨wc.heap.size, 0, none⟩) k k)) w.heap.size #[.int .i64 (kd : Nat), .int .u32 (fl : Nat), .int .u32 (ex : Nat), .int .u64 (sq : Nat), .slice (some ⟨wc.heap.size, 0, none⟩) k k, .slice none 0 0] 26 := k4'.set_ 4 _
    have b4 := b3.trans (below_grown (rdr_grown_set w3 w.heap.size 4 (.slice (some ⟨wc.heap.size, 0, none⟩) k k)) (Nat.le_refl _) k4'.lt)
    clear y4 z4 k4 b b3 g3 C1 k4'
    go_wp2_with fail
    generalize w3.setCell ⟨w.heap.size, 4, none⟩ (.slice (some ⟨wc.heap.size, 0, none⟩) k k) = w4 at k5 b4 ⊢
    generalize wc.heap.size = gk at k5 ⊢
    clear y4' z4'
    refine (Hv.out _ (h.below b4)).mono ?_
    rintro e w5 ⟨rfl, hw⟩
    subst hw
    have y5 := k5.frozen 5
    have z5 := (box6 k5).2.2.2.2.2
    go_wp2_with (at_make; refine wpList_mk8u _ rfl _ _ rfl 0 v rfl rfl (by omega) (Nat.zero_le _) ?_)
    intro w6 g6
    have k5' : Blk w6 w.heap.size _ _ := (g6.block _ k5.lt (by simp)).trans k5
    have b6 := b4.trans (below_of_grown0 g6 b4.size)
    have y5' := k5'.frozen 5
    have z5' := (box6 k5').2.2.2.2.2
    have k7 : Blk (w6.setCell ⟨w.heap.size, 5, none⟩ (.slice (some ⟨w4.heap.size, 0, none⟩) v v)) w.heap.size #[.int .i64 (kd : Nat), .int .u32 (fl : Nat), .int .u32 (ex : Nat), .int .u64 (sq : Nat), .slice (some ⟨gk, 0, none⟩) k k, .slice (some ⟨w4.heap.size, 0, none⟩) v v] 26 := k5'.set_ 5 _
    have b7 := b6.trans (below_grown (rdr_grown_set w6 w.heap.size 5 (.slice (some ⟨w4.heap.size, 0, none⟩) v v)) (Nat.le_refl _) k5'.lt)
    have HRR := Lib.hid (fun W => rright_any (kd : Int) fl ex sq (some ⟨gk, 0, none⟩) (some ⟨w4.heap.size, 0, none⟩) k k v v W)
    unfold recV at HRR
    obtain ⟨q0, q1, q2, q3, q4, q5⟩ := box6 k7
    clear y5 z5 k5 b4 b6 g6 k5'
    go_wp2_with fail
    refine (HRR.out _).mono ?_
    rintro e w8 ⟨rfl, b8⟩
    rw [HR.out]
    replace k7 := k7.step b8
    replace b7 := below_step b7 b8
    clear q0 q1 q2 q3 q4 q5 HRR b8 y5' z5'
    obtain ⟨q0, q1, q2, q3, q4, q5⟩ := box6 k7
    go_wp2_with fail
    go_ret2
    exact ⟨rfl, b7⟩
theorem rneed06_any (A : Option Addr) (n c : Nat) (l : List UInt8) (w : World) (h : Rd w w.heap.size A n c l) :
    (headE l = 0 → Calls Try.prog 28 #[.slice A n c] w (NeedQ (21 + (fld l 17 2 : Nat) + (fld l 19 2 : Nat)) 0 w)) ∧ (headE l ≠ 0 → Calls Try.prog 28 #[.slice A n c] w (NeedQ 0 (headE l) w)) := by
  have hl := h.len
  constructor
  · intro he
    obtain ⟨h21, hr⟩ := head_0 he
    exact rneed06_yes A n c l w h (by omega) hr
  · intro he
    by_cases hn : n < 21
    · have e1 : headE l = 9 := by unfold headE; rw [if_pos (by omega)]
      rw [e1]
      exact rneed06_short A n c w hn
    · by_cases hr : rightR (fld l 0 1 : Nat) (fld l 1 4) (fld l 5 4) (fld l 9 8) (fld l 17 2) (fld l 19 2) = true
      · exact absurd (by unfold headE; rw [if_neg (by omega), if_pos hr]) he
      · have e1 : headE l = 160 := by unfold headE; rw [if_neg (by omega), if_neg hr]
        rw [e1]
        exact rneed06_bad A n c l w h (by omega) (by simpa using hr)
end Go.Proofs.Ytkdkmdjfimnkaaa

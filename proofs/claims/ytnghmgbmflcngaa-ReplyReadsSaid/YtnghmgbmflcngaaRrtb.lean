/- icehouseref21.Right, cases. Conditions: typed in each theorem. -/
import Derived.Test.YtnghmgbmflcngaaRrtp
import Derived.Deep.DeepCutAuto
import Derived.BigGuardPart
namespace Go.Proofs.Ytnghmgbmflcngaa
set_option linter.unusedVariables false
open Go.RowKit

set_option maxRecDepth 100000 in
set_option maxHeartbeats 16000000 in
theorem rr_z3 (op : Int) (qt fu : Bool) (bad : Int) (oq : Nat) (KQ VQ : Value) (fl ex cs dl ini : Nat) (st : Int) (VA : Option Addr) (nv cv af ac an : Nat) (SA : Option Addr) (ns sc : Nat) (cl : Bool) (SL : List (ByteArray × ByteArray)) (w : World) (rS : Rz w w.heap.size 2 SA ns sc (SL.map stCells).flatten) (hns : ns ≤ 9223372036854775800) (hsl : SL.length = ns) (hst : st = 0) (h1 : 0 < nv) (h2 : isRead op = false) (h3 : op = 11) : Calls Try.prog 24 #[reqV op qt fu bad oq KQ VQ fl ex cs dl ini, ansV st (.slice VA nv cv) af ac an (.slice SA ns sc) cl] w (fun e w' => e = .returned (.bool (!wrongA st op nv af ac an ns SL)) ∧ Below w.heap.size w w') := by
  have H_hst := Lib.hid hst
  have H_h1 := Lib.hid h1
  have H_h2 := Lib.hid h2
  have H_h3 := Lib.hid h3
  clear hst h1 h2 h3
  have HRS := Lib.hid rS
  have HNS := Lib.hid hns
  obtain ⟨Wv, hW⟩ : ∃ x, x = wrongA st op nv af ac an ns SL := ⟨_, rfl⟩
  rw [← hW]
  have kq := (Blk.new w #[.int .i64 op, .bool qt, .bool fu, .int .i64 bad, .int .u32 (oq : Nat), KQ, VQ, .int .u32 (fl : Nat), .int .u32 (ex : Nat), .int .u64 (cs : Nat), .int .u64 (dl : Nat), .int .u64 (ini : Nat)] 26).alloc (.cells #[.int .i64 st, .slice VA nv cv, .int .u32 (af : Nat), .int .u64 (ac : Nat), .int .u64 (an : Nat), .slice SA ns sc, .bool cl] 29)
  have ka := Blk.new (w.alloc (.cells #[.int .i64 op, .bool qt, .bool fu, .int .i64 bad, .int .u32 (oq : Nat), KQ, VQ, .int .u32 (fl : Nat), .int .u32 (ex : Nat), .int .u64 (cs : Nat), .int .u64 (dl : Nat), .int .u64 (ini : Nat)] 26)) #[.int .i64 st, .slice VA nv cv, .int .u32 (af : Nat), .int .u64 (ac : Nat), .int .u64 (an : Nat), .slice SA ns sc, .bool cl] 29
  have b := below_a1' (below_a1' (Below.refl w.heap.size w) (.cells #[.int .i64 op, .bool qt, .bool fu, .int .i64 bad, .int .u32 (oq : Nat), KQ, VQ, .int .u32 (fl : Nat), .int .u32 (ex : Nat), .int .u64 (cs : Nat), .int .u64 (dl : Nat), .int .u64 (ini : Nat)] 26)) (.cells #[.int .i64 st, .slice VA nv cv, .int .u32 (af : Nat), .int .u64 (ac : Nat), .int .u64 (an : Nat), .slice SA ns sc, .bool cl] 29)
  rw [World.size_alloc] at ka
  unfold reqV ansV
  go_enter Try.func24, Try.ntmps24
  go_upto_region 1 with fail
  generalize (w.alloc (.cells #[.int .i64 op, .bool qt, .bool fu, .int .i64 bad, .int .u32 (oq : Nat), KQ, VQ, .int .u32 (fl : Nat), .int .u32 (ex : Nat), .int .u64 (cs : Nat), .int .u64 (dl : Nat), .int .u64 (ini : Nat)] 26)).alloc (.cells #[.int .i64 st, .slice VA nv cv, .int .u32 (af : Nat), .int .u64 (ac : Nat), .int .u64 (an : Nat), .slice SA ns sc, .bool cl] 29) = W0 at kq ka b ⊢
  go_upto_region 1 with fail
  go_cut [5] (fun s wx => s = .bool (isRead op) ∧ Blk wx w.heap.size #[.int .i64 op, .bool qt, .bool fu, .int .i64 bad, .int .u32 (oq : Nat), KQ, VQ, .int .u32 (fl : Nat), .int .u32 (ex : Nat), .int .u64 (cs : Nat), .int .u64 (dl : Nat), .int .u64 (ini : Nat)] 26 ∧ Blk wx (w.heap.size + 1) #[.int .i64 st, .slice VA nv cv, .int .u32 (af : Nat), .int .u64 (ac : Nat), .int .u64 (an : Nat), .slice SA ns sc, .bool cl] 29 ∧ Below w.heap.size w wx)
  case first =>
    obtain ⟨p0, p1, p2, p3, p4, p5, p6, p7, p8, p9, p10, p11⟩ := box12 kq
    obtain ⟨q0, q1, q2, q3, q4, q5, q6⟩ := box7 ka
    by_cases h1 : op = 0
    · have f1 : (op == 0) = true := beq_iff_eq.2 h1
      have hv : isRead op = true := by unfold isRead; rw [f1]; rfl
      clear h1
      go_wp2_with fail
      go_meet
      exact ⟨by rw [hv], kq, ka, b⟩
    · have f1 : (op == 0) = false := beq_eq_false_iff_ne.2 h1
      by_cases h2 : op = 29
      · have f2 : (op == 29) = true := beq_iff_eq.2 h2
        have hv : isRead op = true := by unfold isRead; rw [f1, f2]; rfl
        clear h1 h2
        go_wp2_with fail
        go_meet
        exact ⟨by rw [hv], kq, ka, b⟩
      · have f2 : (op == 29) = false := beq_eq_false_iff_ne.2 h2
        have hv : isRead op = false := by unfold isRead; rw [f1, f2]; rfl
        clear h1 h2
        go_wp2_with fail
        go_meet
        exact ⟨by rw [hv], kq, ka, b⟩
  case rest =>
    obtain ⟨rfl, kq, ka, b⟩ := hcut
    go_upto_region 2 with fail
    go_cut [6] (fun s wx => s = .bool (isCount op) ∧ Blk wx w.heap.size #[.int .i64 op, .bool qt, .bool fu, .int .i64 bad, .int .u32 (oq : Nat), KQ, VQ, .int .u32 (fl : Nat), .int .u32 (ex : Nat), .int .u64 (cs : Nat), .int .u64 (dl : Nat), .int .u64 (ini : Nat)] 26 ∧ Blk wx (w.heap.size + 1) #[.int .i64 st, .slice VA nv cv, .int .u32 (af : Nat), .int .u64 (ac : Nat), .int .u64 (an : Nat), .slice SA ns sc, .bool cl] 29 ∧ Below w.heap.size w wx)
    case first =>
      obtain ⟨p0, p1, p2, p3, p4, p5, p6, p7, p8, p9, p10, p11⟩ := box12 kq
      obtain ⟨q0, q1, q2, q3, q4, q5, q6⟩ := box7 ka
      by_cases h1 : op = 5
      · have f1 : (op == 5) = true := beq_iff_eq.2 h1
        have hv : isCount op = true := by unfold isCount; rw [f1]; rfl
        clear h1
        go_wp2_with fail
        go_meet
        exact ⟨by rw [hv], kq, ka, b⟩
      · have f1 : (op == 5) = false := beq_eq_false_iff_ne.2 h1
        by_cases h2 : op = 6
        · have f2 : (op == 6) = true := beq_iff_eq.2 h2
          have hv : isCount op = true := by unfold isCount; rw [f1, f2]; rfl
          clear h1 h2
          go_wp2_with fail
          go_meet
          exact ⟨by rw [hv], kq, ka, b⟩
        · have f2 : (op == 6) = false := beq_eq_false_iff_ne.2 h2
          have hv : isCount op = false := by unfold isCount; rw [f1, f2]; rfl
          clear h1 h2
          go_wp2_with fail
          go_meet
          exact ⟨by rw [hv], kq, ka, b⟩
    case rest =>
      obtain ⟨rfl, kq, ka, b⟩ := hcut
      have hst := H_hst.out
      have h1 := H_h1.out
      have h2 := H_h2.out
      have h3 := H_h3.out
      clear H_hst H_h1 H_h2 H_h3
      have fst : (st != 0) = false := bne_eq_false_iff_eq.2 hst
      have HW5 : Hid (x5 (decide ((0 : Int) < (nv : Int))) (isRead op) (op == 11) ((af : Int) != 0) ((an : Int) != 0) (isCount op) (decide ((0 : Int) < (ns : Int))) (op == 16) = true → Wv = true) := Lib.hid (by subst hW; exact wr_5 hst)
      have HW7 : Hid (x7 ((ac : Int) != 0) (op == 11) (op == 16) (decide ((512 : Int) < (nv : Int))) (decide ((16 : Int) < (ns : Int))) = true → Wv = true) := Lib.hid (by subst hW; exact wr_7 hst)
      have HWF : Hid (x5 (decide ((0 : Int) < (nv : Int))) (isRead op) (op == 11) ((af : Int) != 0) ((an : Int) != 0) (isCount op) (decide ((0 : Int) < (ns : Int))) (op == 16) = false → x7 ((ac : Int) != 0) (op == 11) (op == 16) (decide ((512 : Int) < (nv : Int))) (decide ((16 : Int) < (ns : Int))) = false → Wv = SL.any badStat) := Lib.hid (by subst hW; exact wr_f hst)
      have HWA : Hid (∀ p ∈ SL, badStat p = true → Wv = true) := Lib.hid (by subst hW; exact fun p hp hb => wr_any hp hb)
      clear hW hst
      rw [h2] at HW5 HWF ⊢
      generalize isCount op = c at HW5 HWF ⊢
      obtain ⟨p0, p1, p2, p3, p4, p5, p6, p7, p8, p9, p10, p11⟩ := box12 kq
      obtain ⟨q0, q1, q2, q3, q4, q5, q6⟩ := box7 ka
      go_upto_region 5 with fail
      clear p0 p1 p2 p3 p4 p5 p6 p7 p8 p9 p10 p11 q0 q1 q2 q3 q4 q5 q6
      go_cut [99] (fun s99 wx => s99 = .bool (x5 (decide ((0 : Int) < (nv : Int))) false (op == 11) ((af : Int) != 0) ((an : Int) != 0) c (decide ((0 : Int) < (ns : Int))) (op == 16)) ∧ Blk wx w.heap.size #[.int .i64 op, .bool qt, .bool fu, .int .i64 bad, .int .u32 (oq : Nat), KQ, VQ, .int .u32 (fl : Nat), .int .u32 (ex : Nat), .int .u64 (cs : Nat), .int .u64 (dl : Nat), .int .u64 (ini : Nat)] 26 ∧ Blk wx (w.heap.size + 1) #[.int .i64 st, .slice VA nv cv, .int .u32 (af : Nat), .int .u64 (ac : Nat), .int .u64 (an : Nat), .slice SA ns sc, .bool cl] 29 ∧ Below w.heap.size w wx)
      case first =>
        obtain ⟨p0, p1, p2, p3, p4, p5, p6, p7, p8, p9, p10, p11⟩ := box12 kq
        obtain ⟨q0, q1, q2, q3, q4, q5, q6⟩ := box7 ka
        clear HWF HW7 HWA
        have g_a : (0 < nv) = True := eq_true h1
        have g_11 : (op != 11) = false := bne_eq_false_iff_eq.2 h3
        clear h1 h2 h3
        go_wp2_with fail
        all_goals (go_meet; exact ⟨congrArg Value.bool (by simp [x5, bne, *] <;> first | omega | (intros; omega) | (simp_all; done)), kq, ka, b⟩)
      case rest =>
        obtain ⟨rfl, kq, ka, b⟩ := hcut
        clear h1 h2 h3
        cases hx5 : x5 (decide ((0 : Int) < (nv : Int))) false (op == 11) ((af : Int) != 0) ((an : Int) != 0) c (decide ((0 : Int) < (ns : Int))) (op == 16) with
        | true =>
          have HZ := Lib.hid (HW5.out hx5)
          clear HW5 HWF HW7 HWA hx5
          go_wp2_with fail
          go_ret
          exact ⟨by rw [HZ.out]; rfl, b⟩
        | false =>
          have HWG := Lib.hid (HWF.out hx5)
          clear hx5 HW5 HWF
          go_upto_region 7 with fail
          go_cut [124] (fun s99 wx => s99 = .bool (x7 ((ac : Int) != 0) (op == 11) (op == 16) (decide ((512 : Int) < (nv : Int))) (decide ((16 : Int) < (ns : Int)))) ∧ Blk wx w.heap.size #[.int .i64 op, .bool qt, .bool fu, .int .i64 bad, .int .u32 (oq : Nat), KQ, VQ, .int .u32 (fl : Nat), .int .u32 (ex : Nat), .int .u64 (cs : Nat), .int .u64 (dl : Nat), .int .u64 (ini : Nat)] 26 ∧ Blk wx (w.heap.size + 1) #[.int .i64 st, .slice VA nv cv, .int .u32 (af : Nat), .int .u64 (ac : Nat), .int .u64 (an : Nat), .slice SA ns sc, .bool cl] 29 ∧ Below w.heap.size w wx)
          case first =>
            obtain ⟨p0, p1, p2, p3, p4, p5, p6, p7, p8, p9, p10, p11⟩ := box12 kq
            obtain ⟨q0, q1, q2, q3, q4, q5, q6⟩ := box7 ka
            clear HWG HWA
            cases g_k : ((ac : Int) != 0) with
            | true =>
              go_wp2_with fail
              all_goals (go_meet; exact ⟨congrArg Value.bool (by (have z_k : ¬ ac = 0 := by simpa using g_k); simp [x7, bne, *] <;> first | omega | (intros; omega) | (simp_all; done)), kq, ka, b⟩)
            | false =>
              go_wp2_with fail
              all_goals (go_meet; exact ⟨congrArg Value.bool (by (have z_k : ac = 0 := by simpa using g_k); simp [x7, bne, *] <;> first | omega | (intros; omega) | (simp_all; done)), kq, ka, b⟩)
          case rest =>
            obtain ⟨rfl, kq, ka, b⟩ := hcut
            cases hx7 : x7 ((ac : Int) != 0) (op == 11) (op == 16) (decide ((512 : Int) < (nv : Int))) (decide ((16 : Int) < (ns : Int))) with
            | true =>
              have HZ := Lib.hid (HW7.out hx7)
              clear HW7 HWG HWA hx7
              go_wp2_with fail
              go_ret
              exact ⟨by rw [HZ.out]; rfl, b⟩
            | false =>
              have HWF2 := Lib.hid (HWG.out hx7)
              clear hx7 HW7 HWG
              go_wp2_with fail
              have hI0 : Blk wc w.heap.size #[.int .i64 op, .bool qt, .bool fu, .int .i64 bad, .int .u32 (oq : Nat), KQ, VQ, .int .u32 (fl : Nat), .int .u32 (ex : Nat), .int .u64 (cs : Nat), .int .u64 (dl : Nat), .int .u64 (ini : Nat)] 26 ∧ Blk wc (w.heap.size + 1) #[.int .i64 st, .slice VA nv cv, .int .u32 (af : Nat), .int .u64 (ac : Nat), .int .u64 (an : Nat), .slice SA ns sc, .bool cl] 29 ∧ Below w.heap.size w wc := ⟨kq, ka, b⟩
              clear kq ka b
              go_loopw [7] (fun s7 wr => ∃ j : Nat, j ≤ ns ∧ s7 = .int .i64 (j : Nat) ∧ (∀ i p, i < j → SL[i]? = some p → badStat p = false) ∧ Blk wr w.heap.size #[.int .i64 op, .bool qt, .bool fu, .int .i64 bad, .int .u32 (oq : Nat), KQ, VQ, .int .u32 (fl : Nat), .int .u32 (ex : Nat), .int .u64 (cs : Nat), .int .u64 (dl : Nat), .int .u64 (ini : Nat)] 26 ∧ Blk wr (w.heap.size + 1) #[.int .i64 st, .slice VA nv cv, .int .u32 (af : Nat), .int .u64 (ac : Nat), .int .u64 (an : Nat), .slice SA ns sc, .bool cl] 29 ∧ Below w.heap.size w wr) (fun s7 _ => ns - (intOf s7).toNat)
              case atStart => exact ⟨0, Nat.zero_le _, rfl, fun i p h => absurd h (Nat.not_lt_zero _), hI0⟩
              case round =>
                clear hI0
                obtain ⟨j, hj, rfl, hg, kq, ka, b⟩ := hrel
                have HG := Lib.hid hg
                clear hg
                obtain ⟨q0, q1, q2, q3, q4, q5, q6⟩ := box7 ka
                by_cases hlt : j < ns
                · obtain ⟨ad, p, hA, hp, h0, h1⟩ := stat_at (HRS.out.below b) (j := j) hlt
                  subst hA
                  have HLT : Hid (j + 1 ≤ ns) := Lib.hid (by omega)
                  have hJP : IntKind.i64.wrap ((j : Int) + 1) = (j : Int) + 1 := IntWalk.i64_in _ (by have := HNS.out; omega)
                  have hlt' : ((j : Int) < (ns : Int)) = True := eq_true (by omega)
                  have HP := Lib.hid hp
                  obtain ⟨s1, s2⟩ := p
                  have h0 : wr.cell? (ad.add (j * 2)) = some (.string s1) := h0
                  have h1 : wr.cell? {block := (ad.add (j * 2)).block, off := (ad.add (j * 2)).off + 1} = some (.string s2) := h1
                  have HBT : Hid (badStat (s1, s2) = true → Wv = true) := Lib.hid (fun h => HWA.out _ (List.mem_of_getElem? HP.out) h)
                  have HG2 : Hid (badStat (s1, s2) = false → ∀ i p, i < j + 1 → SL[i]? = some p → badStat p = false) := Lib.hid (fun hb i p hi hq => by rcases Nat.lt_succ_iff_lt_or_eq.1 hi with h | h; exact HG.out i p h hq; subst h; rw [HP.out] at hq; injection hq with hq; subst hq; exact hb)
                  have HKK := Lib.hid (And.intro kq (And.intro ka b))
                  clear hlt hj hp
                  go_wp2_with fail
                  all_goals first | (go_ret; exact ⟨by rw [HBT.out (by unfold badStat; simp only [Bool.or_eq_true, decide_eq_true_eq]; omega)]; rfl, b⟩) | (go_roundw <;> first | exact ⟨j + 1, HLT.out, by first | rfl | go_num, HG2.out (by unfold badStat; simp only [Bool.or_eq_false_iff, decide_eq_false_iff_not]; omega), HKK.out⟩ | (have := HLT.out; simp [intOf]; omega))
                · obtain rfl : j = ns := by omega
                  have hlt' : ((j : Int) < (j : Int)) = False := eq_false (by omega)
                  have HWE : Hid (Wv = false) := Lib.hid (by rw [HWF2.out, List.any_eq_false]; intro p hp; obtain ⟨i, hi, rfl⟩ := List.getElem_of_mem hp; have h := HG.out i _ (by omega) (List.getElem?_eq_getElem hi); rw [h]; decide)
                  clear hlt hj
                  go_wp2_with fail
                  go_ret
                  exact ⟨by rw [HWE.out]; rfl, b⟩
set_option maxRecDepth 100000 in
set_option maxHeartbeats 16000000 in
theorem rr_z4 (op : Int) (qt fu : Bool) (bad : Int) (oq : Nat) (KQ VQ : Value) (fl ex cs dl ini : Nat) (st : Int) (VA : Option Addr) (nv cv af ac an : Nat) (SA : Option Addr) (ns sc : Nat) (cl : Bool) (SL : List (ByteArray × ByteArray)) (w : World) (rS : Rz w w.heap.size 2 SA ns sc (SL.map stCells).flatten) (hns : ns ≤ 9223372036854775800) (hsl : SL.length = ns) (hst : st = 0) (h1 : 0 < nv) (h2 : isRead op = false) (h3 : op ≠ 11) : Calls Try.prog 24 #[reqV op qt fu bad oq KQ VQ fl ex cs dl ini, ansV st (.slice VA nv cv) af ac an (.slice SA ns sc) cl] w (fun e w' => e = .returned (.bool (!wrongA st op nv af ac an ns SL)) ∧ Below w.heap.size w w') := by
  have H_hst := Lib.hid hst
  have H_h1 := Lib.hid h1
  have H_h2 := Lib.hid h2
  have H_h3 := Lib.hid h3
  clear hst h1 h2 h3
  have HRS := Lib.hid rS
  have HNS := Lib.hid hns
  obtain ⟨Wv, hW⟩ : ∃ x, x = wrongA st op nv af ac an ns SL := ⟨_, rfl⟩
  rw [← hW]
  have kq := (Blk.new w #[.int .i64 op, .bool qt, .bool fu, .int .i64 bad, .int .u32 (oq : Nat), KQ, VQ, .int .u32 (fl : Nat), .int .u32 (ex : Nat), .int .u64 (cs : Nat), .int .u64 (dl : Nat), .int .u64 (ini : Nat)] 26).alloc (.cells #[.int .i64 st, .slice VA nv cv, .int .u32 (af : Nat), .int .u64 (ac : Nat), .int .u64 (an : Nat), .slice SA ns sc, .bool cl] 29)
  have ka := Blk.new (w.alloc (.cells #[.int .i64 op, .bool qt, .bool fu, .int .i64 bad, .int .u32 (oq : Nat), KQ, VQ, .int .u32 (fl : Nat), .int .u32 (ex : Nat), .int .u64 (cs : Nat), .int .u64 (dl : Nat), .int .u64 (ini : Nat)] 26)) #[.int .i64 st, .slice VA nv cv, .int .u32 (af : Nat), .int .u64 (ac : Nat), .int .u64 (an : Nat), .slice SA ns sc, .bool cl] 29
  have b := below_a1' (below_a1' (Below.refl w.heap.size w) (.cells #[.int .i64 op, .bool qt, .bool fu, .int .i64 bad, .int .u32 (oq : Nat), KQ, VQ, .int .u32 (fl : Nat), .int .u32 (ex : Nat), .int .u64 (cs : Nat), .int .u64 (dl : Nat), .int .u64 (ini : Nat)] 26)) (.cells #[.int .i64 st, .slice VA nv cv, .int .u32 (af : Nat), .int .u64 (ac : Nat), .int .u64 (an : Nat), .slice SA ns sc, .bool cl] 29)
  rw [World.size_alloc] at ka
  unfold reqV ansV
  go_enter Try.func24, Try.ntmps24
  go_upto_region 1 with fail
  generalize (w.alloc (.cells #[.int .i64 op, .bool qt, .bool fu, .int .i64 bad, .int .u32 (oq : Nat), KQ, VQ, .int .u32 (fl : Nat), .int .u32 (ex : Nat), .int .u64 (cs : Nat), .int .u64 (dl : Nat), .int .u64 (ini : Nat)] 26)).alloc (.cells #[.int .i64 st, .slice VA nv cv, .int .u32 (af : Nat), .int .u64 (ac : Nat), .int .u64 (an : Nat), .slice SA ns sc, .bool cl] 29) = W0 at kq ka b ⊢
  go_upto_region 1 with fail
  go_cut [5] (fun s wx => s = .bool (isRead op) ∧ Blk wx w.heap.size #[.int .i64 op, .bool qt, .bool fu, .int .i64 bad, .int .u32 (oq : Nat), KQ, VQ, .int .u32 (fl : Nat), .int .u32 (ex : Nat), .int .u64 (cs : Nat), .int .u64 (dl : Nat), .int .u64 (ini : Nat)] 26 ∧ Blk wx (w.heap.size + 1) #[.int .i64 st, .slice VA nv cv, .int .u32 (af : Nat), .int .u64 (ac : Nat), .int .u64 (an : Nat), .slice SA ns sc, .bool cl] 29 ∧ Below w.heap.size w wx)
  case first =>
    obtain ⟨p0, p1, p2, p3, p4, p5, p6, p7, p8, p9, p10, p11⟩ := box12 kq
    obtain ⟨q0, q1, q2, q3, q4, q5, q6⟩ := box7 ka
    by_cases h1 : op = 0
    · have f1 : (op == 0) = true := beq_iff_eq.2 h1
      have hv : isRead op = true := by unfold isRead; rw [f1]; rfl
      clear h1
      go_wp2_with fail
      go_meet
      exact ⟨by rw [hv], kq, ka, b⟩
    · have f1 : (op == 0) = false := beq_eq_false_iff_ne.2 h1
      by_cases h2 : op = 29
      · have f2 : (op == 29) = true := beq_iff_eq.2 h2
        have hv : isRead op = true := by unfold isRead; rw [f1, f2]; rfl
        clear h1 h2
        go_wp2_with fail
        go_meet
        exact ⟨by rw [hv], kq, ka, b⟩
      · have f2 : (op == 29) = false := beq_eq_false_iff_ne.2 h2
        have hv : isRead op = false := by unfold isRead; rw [f1, f2]; rfl
        clear h1 h2
        go_wp2_with fail
        go_meet
        exact ⟨by rw [hv], kq, ka, b⟩
  case rest =>
    obtain ⟨rfl, kq, ka, b⟩ := hcut
    go_upto_region 2 with fail
    go_cut [6] (fun s wx => s = .bool (isCount op) ∧ Blk wx w.heap.size #[.int .i64 op, .bool qt, .bool fu, .int .i64 bad, .int .u32 (oq : Nat), KQ, VQ, .int .u32 (fl : Nat), .int .u32 (ex : Nat), .int .u64 (cs : Nat), .int .u64 (dl : Nat), .int .u64 (ini : Nat)] 26 ∧ Blk wx (w.heap.size + 1) #[.int .i64 st, .slice VA nv cv, .int .u32 (af : Nat), .int .u64 (ac : Nat), .int .u64 (an : Nat), .slice SA ns sc, .bool cl] 29 ∧ Below w.heap.size w wx)
    case first =>
      obtain ⟨p0, p1, p2, p3, p4, p5, p6, p7, p8, p9, p10, p11⟩ := box12 kq
      obtain ⟨q0, q1, q2, q3, q4, q5, q6⟩ := box7 ka
      by_cases h1 : op = 5
      · have f1 : (op == 5) = true := beq_iff_eq.2 h1
        have hv : isCount op = true := by unfold isCount; rw [f1]; rfl
        clear h1
        go_wp2_with fail
        go_meet
        exact ⟨by rw [hv], kq, ka, b⟩
      · have f1 : (op == 5) = false := beq_eq_false_iff_ne.2 h1
        by_cases h2 : op = 6
        · have f2 : (op == 6) = true := beq_iff_eq.2 h2
          have hv : isCount op = true := by unfold isCount; rw [f1, f2]; rfl
          clear h1 h2
          go_wp2_with fail
          go_meet
          exact ⟨by rw [hv], kq, ka, b⟩
        · have f2 : (op == 6) = false := beq_eq_false_iff_ne.2 h2
          have hv : isCount op = false := by unfold isCount; rw [f1, f2]; rfl
          clear h1 h2
          go_wp2_with fail
          go_meet
          exact ⟨by rw [hv], kq, ka, b⟩
    case rest =>
      obtain ⟨rfl, kq, ka, b⟩ := hcut
      have hst := H_hst.out
      have h1 := H_h1.out
      have h2 := H_h2.out
      have h3 := H_h3.out
      clear H_hst H_h1 H_h2 H_h3
      have fst : (st != 0) = false := bne_eq_false_iff_eq.2 hst
      have HW5 : Hid (x5 (decide ((0 : Int) < (nv : Int))) (isRead op) (op == 11) ((af : Int) != 0) ((an : Int) != 0) (isCount op) (decide ((0 : Int) < (ns : Int))) (op == 16) = true → Wv = true) := Lib.hid (by subst hW; exact wr_5 hst)
      have HW7 : Hid (x7 ((ac : Int) != 0) (op == 11) (op == 16) (decide ((512 : Int) < (nv : Int))) (decide ((16 : Int) < (ns : Int))) = true → Wv = true) := Lib.hid (by subst hW; exact wr_7 hst)
      have HWF : Hid (x5 (decide ((0 : Int) < (nv : Int))) (isRead op) (op == 11) ((af : Int) != 0) ((an : Int) != 0) (isCount op) (decide ((0 : Int) < (ns : Int))) (op == 16) = false → x7 ((ac : Int) != 0) (op == 11) (op == 16) (decide ((512 : Int) < (nv : Int))) (decide ((16 : Int) < (ns : Int))) = false → Wv = SL.any badStat) := Lib.hid (by subst hW; exact wr_f hst)
      have HWA : Hid (∀ p ∈ SL, badStat p = true → Wv = true) := Lib.hid (by subst hW; exact fun p hp hb => wr_any hp hb)
      clear hW hst
      rw [h2] at HW5 HWF ⊢
      generalize isCount op = c at HW5 HWF ⊢
      obtain ⟨p0, p1, p2, p3, p4, p5, p6, p7, p8, p9, p10, p11⟩ := box12 kq
      obtain ⟨q0, q1, q2, q3, q4, q5, q6⟩ := box7 ka
      go_upto_region 5 with fail
      clear p0 p1 p2 p3 p4 p5 p6 p7 p8 p9 p10 p11 q0 q1 q2 q3 q4 q5 q6
      go_cut [99] (fun s99 wx => s99 = .bool (x5 (decide ((0 : Int) < (nv : Int))) false (op == 11) ((af : Int) != 0) ((an : Int) != 0) c (decide ((0 : Int) < (ns : Int))) (op == 16)) ∧ Blk wx w.heap.size #[.int .i64 op, .bool qt, .bool fu, .int .i64 bad, .int .u32 (oq : Nat), KQ, VQ, .int .u32 (fl : Nat), .int .u32 (ex : Nat), .int .u64 (cs : Nat), .int .u64 (dl : Nat), .int .u64 (ini : Nat)] 26 ∧ Blk wx (w.heap.size + 1) #[.int .i64 st, .slice VA nv cv, .int .u32 (af : Nat), .int .u64 (ac : Nat), .int .u64 (an : Nat), .slice SA ns sc, .bool cl] 29 ∧ Below w.heap.size w wx)
      case first =>
        obtain ⟨p0, p1, p2, p3, p4, p5, p6, p7, p8, p9, p10, p11⟩ := box12 kq
        obtain ⟨q0, q1, q2, q3, q4, q5, q6⟩ := box7 ka
        clear HWF HW7 HWA
        have g_a : (0 < nv) = True := eq_true h1
        have g_11 : (op != 11) = true := bne_iff_ne.2 h3
        clear h1 h2 h3
        go_wp2_with fail
        all_goals (go_meet; exact ⟨congrArg Value.bool (by simp [x5, bne, *] <;> first | omega | (intros; omega) | (simp_all; done)), kq, ka, b⟩)
      case rest =>
        obtain ⟨rfl, kq, ka, b⟩ := hcut
        clear h1 h2 h3
        cases hx5 : x5 (decide ((0 : Int) < (nv : Int))) false (op == 11) ((af : Int) != 0) ((an : Int) != 0) c (decide ((0 : Int) < (ns : Int))) (op == 16) with
        | true =>
          have HZ := Lib.hid (HW5.out hx5)
          clear HW5 HWF HW7 HWA hx5
          go_wp2_with fail
          go_ret
          exact ⟨by rw [HZ.out]; rfl, b⟩
        | false =>
          have HWG := Lib.hid (HWF.out hx5)
          clear hx5 HW5 HWF
          go_upto_region 7 with fail
          go_cut [124] (fun s99 wx => s99 = .bool (x7 ((ac : Int) != 0) (op == 11) (op == 16) (decide ((512 : Int) < (nv : Int))) (decide ((16 : Int) < (ns : Int)))) ∧ Blk wx w.heap.size #[.int .i64 op, .bool qt, .bool fu, .int .i64 bad, .int .u32 (oq : Nat), KQ, VQ, .int .u32 (fl : Nat), .int .u32 (ex : Nat), .int .u64 (cs : Nat), .int .u64 (dl : Nat), .int .u64 (ini : Nat)] 26 ∧ Blk wx (w.heap.size + 1) #[.int .i64 st, .slice VA nv cv, .int .u32 (af : Nat), .int .u64 (ac : Nat), .int .u64 (an : Nat), .slice SA ns sc, .bool cl] 29 ∧ Below w.heap.size w wx)
          case first =>
            obtain ⟨p0, p1, p2, p3, p4, p5, p6, p7, p8, p9, p10, p11⟩ := box12 kq
            obtain ⟨q0, q1, q2, q3, q4, q5, q6⟩ := box7 ka
            clear HWG HWA
            cases g_k : ((ac : Int) != 0) with
            | true =>
              go_wp2_with fail
              all_goals (go_meet; exact ⟨congrArg Value.bool (by (have z_k : ¬ ac = 0 := by simpa using g_k); simp [x7, bne, *] <;> first | omega | (intros; omega) | (simp_all; done)), kq, ka, b⟩)
            | false =>
              go_wp2_with fail
              all_goals (go_meet; exact ⟨congrArg Value.bool (by (have z_k : ac = 0 := by simpa using g_k); simp [x7, bne, *] <;> first | omega | (intros; omega) | (simp_all; done)), kq, ka, b⟩)
          case rest =>
            obtain ⟨rfl, kq, ka, b⟩ := hcut
            cases hx7 : x7 ((ac : Int) != 0) (op == 11) (op == 16) (decide ((512 : Int) < (nv : Int))) (decide ((16 : Int) < (ns : Int))) with
            | true =>
              have HZ := Lib.hid (HW7.out hx7)
              clear HW7 HWG HWA hx7
              go_wp2_with fail
              go_ret
              exact ⟨by rw [HZ.out]; rfl, b⟩
            | false =>
              have HWF2 := Lib.hid (HWG.out hx7)
              clear hx7 HW7 HWG
              go_wp2_with fail
              have hI0 : Blk wc w.heap.size #[.int .i64 op, .bool qt, .bool fu, .int .i64 bad, .int .u32 (oq : Nat), KQ, VQ, .int .u32 (fl : Nat), .int .u32 (ex : Nat), .int .u64 (cs : Nat), .int .u64 (dl : Nat), .int .u64 (ini : Nat)] 26 ∧ Blk wc (w.heap.size + 1) #[.int .i64 st, .slice VA nv cv, .int .u32 (af : Nat), .int .u64 (ac : Nat), .int .u64 (an : Nat), .slice SA ns sc, .bool cl] 29 ∧ Below w.heap.size w wc := ⟨kq, ka, b⟩
              clear kq ka b
              go_loopw [7] (fun s7 wr => ∃ j : Nat, j ≤ ns ∧ s7 = .int .i64 (j : Nat) ∧ (∀ i p, i < j → SL[i]? = some p → badStat p = false) ∧ Blk wr w.heap.size #[.int .i64 op, .bool qt, .bool fu, .int .i64 bad, .int .u32 (oq : Nat), KQ, VQ, .int .u32 (fl : Nat), .int .u32 (ex : Nat), .int .u64 (cs : Nat), .int .u64 (dl : Nat), .int .u64 (ini : Nat)] 26 ∧ Blk wr (w.heap.size + 1) #[.int .i64 st, .slice VA nv cv, .int .u32 (af : Nat), .int .u64 (ac : Nat), .int .u64 (an : Nat), .slice SA ns sc, .bool cl] 29 ∧ Below w.heap.size w wr) (fun s7 _ => ns - (intOf s7).toNat)
              case atStart => exact ⟨0, Nat.zero_le _, rfl, fun i p h => absurd h (Nat.not_lt_zero _), hI0⟩
              case round =>
                clear hI0
                obtain ⟨j, hj, rfl, hg, kq, ka, b⟩ := hrel
                have HG := Lib.hid hg
                clear hg
                obtain ⟨q0, q1, q2, q3, q4, q5, q6⟩ := box7 ka
                by_cases hlt : j < ns
                · obtain ⟨ad, p, hA, hp, h0, h1⟩ := stat_at (HRS.out.below b) (j := j) hlt
                  subst hA
                  have HLT : Hid (j + 1 ≤ ns) := Lib.hid (by omega)
                  have hJP : IntKind.i64.wrap ((j : Int) + 1) = (j : Int) + 1 := IntWalk.i64_in _ (by have := HNS.out; omega)
                  have hlt' : ((j : Int) < (ns : Int)) = True := eq_true (by omega)
                  have HP := Lib.hid hp
                  obtain ⟨s1, s2⟩ := p
                  have h0 : wr.cell? (ad.add (j * 2)) = some (.string s1) := h0
                  have h1 : wr.cell? {block := (ad.add (j * 2)).block, off := (ad.add (j * 2)).off + 1} = some (.string s2) := h1
                  have HBT : Hid (badStat (s1, s2) = true → Wv = true) := Lib.hid (fun h => HWA.out _ (List.mem_of_getElem? HP.out) h)
                  have HG2 : Hid (badStat (s1, s2) = false → ∀ i p, i < j + 1 → SL[i]? = some p → badStat p = false) := Lib.hid (fun hb i p hi hq => by rcases Nat.lt_succ_iff_lt_or_eq.1 hi with h | h; exact HG.out i p h hq; subst h; rw [HP.out] at hq; injection hq with hq; subst hq; exact hb)
                  have HKK := Lib.hid (And.intro kq (And.intro ka b))
                  clear hlt hj hp
                  go_wp2_with fail
                  all_goals first | (go_ret; exact ⟨by rw [HBT.out (by unfold badStat; simp only [Bool.or_eq_true, decide_eq_true_eq]; omega)]; rfl, b⟩) | (go_roundw <;> first | exact ⟨j + 1, HLT.out, by first | rfl | go_num, HG2.out (by unfold badStat; simp only [Bool.or_eq_false_iff, decide_eq_false_iff_not]; omega), HKK.out⟩ | (have := HLT.out; simp [intOf]; omega))
                · obtain rfl : j = ns := by omega
                  have hlt' : ((j : Int) < (j : Int)) = False := eq_false (by omega)
                  have HWE : Hid (Wv = false) := Lib.hid (by rw [HWF2.out, List.any_eq_false]; intro p hp; obtain ⟨i, hi, rfl⟩ := List.getElem_of_mem hp; have h := HG.out i _ (by omega) (List.getElem?_eq_getElem hi); rw [h]; decide)
                  clear hlt hj
                  go_wp2_with fail
                  go_ret
                  exact ⟨by rw [HWE.out]; rfl, b⟩
set_option maxRecDepth 100000 in
set_option maxHeartbeats 16000000 in
theorem rr_n (op : Int) (qt fu : Bool) (bad : Int) (oq : Nat) (KQ VQ : Value) (fl ex cs dl ini : Nat) (st : Int) (VA : Option Addr) (nv cv af ac an : Nat) (SA : Option Addr) (ns sc : Nat) (cl : Bool) (SL : List (ByteArray × ByteArray)) (w : World) (rS : Rz w w.heap.size 2 SA ns sc (SL.map stCells).flatten) (hns : ns ≤ 9223372036854775800) (hsl : SL.length = ns) (hst : st ≠ 0) : Calls Try.prog 24 #[reqV op qt fu bad oq KQ VQ fl ex cs dl ini, ansV st (.slice VA nv cv) af ac an (.slice SA ns sc) cl] w (fun e w' => e = .returned (.bool (!wrongA st op nv af ac an ns SL)) ∧ Below w.heap.size w w') := by
  have H_hst := Lib.hid hst
  clear hst
  have HRS := Lib.hid rS
  have HNS := Lib.hid hns
  obtain ⟨Wv, hW⟩ : ∃ x, x = wrongA st op nv af ac an ns SL := ⟨_, rfl⟩
  rw [← hW]
  have kq := (Blk.new w #[.int .i64 op, .bool qt, .bool fu, .int .i64 bad, .int .u32 (oq : Nat), KQ, VQ, .int .u32 (fl : Nat), .int .u32 (ex : Nat), .int .u64 (cs : Nat), .int .u64 (dl : Nat), .int .u64 (ini : Nat)] 26).alloc (.cells #[.int .i64 st, .slice VA nv cv, .int .u32 (af : Nat), .int .u64 (ac : Nat), .int .u64 (an : Nat), .slice SA ns sc, .bool cl] 29)
  have ka := Blk.new (w.alloc (.cells #[.int .i64 op, .bool qt, .bool fu, .int .i64 bad, .int .u32 (oq : Nat), KQ, VQ, .int .u32 (fl : Nat), .int .u32 (ex : Nat), .int .u64 (cs : Nat), .int .u64 (dl : Nat), .int .u64 (ini : Nat)] 26)) #[.int .i64 st, .slice VA nv cv, .int .u32 (af : Nat), .int .u64 (ac : Nat), .int .u64 (an : Nat), .slice SA ns sc, .bool cl] 29
  have b := below_a1' (below_a1' (Below.refl w.heap.size w) (.cells #[.int .i64 op, .bool qt, .bool fu, .int .i64 bad, .int .u32 (oq : Nat), KQ, VQ, .int .u32 (fl : Nat), .int .u32 (ex : Nat), .int .u64 (cs : Nat), .int .u64 (dl : Nat), .int .u64 (ini : Nat)] 26)) (.cells #[.int .i64 st, .slice VA nv cv, .int .u32 (af : Nat), .int .u64 (ac : Nat), .int .u64 (an : Nat), .slice SA ns sc, .bool cl] 29)
  rw [World.size_alloc] at ka
  unfold reqV ansV
  go_enter Try.func24, Try.ntmps24
  go_upto_region 1 with fail
  generalize (w.alloc (.cells #[.int .i64 op, .bool qt, .bool fu, .int .i64 bad, .int .u32 (oq : Nat), KQ, VQ, .int .u32 (fl : Nat), .int .u32 (ex : Nat), .int .u64 (cs : Nat), .int .u64 (dl : Nat), .int .u64 (ini : Nat)] 26)).alloc (.cells #[.int .i64 st, .slice VA nv cv, .int .u32 (af : Nat), .int .u64 (ac : Nat), .int .u64 (an : Nat), .slice SA ns sc, .bool cl] 29) = W0 at kq ka b ⊢
  go_upto_region 1 with fail
  go_cut [5] (fun s wx => s = .bool (isRead op) ∧ Blk wx w.heap.size #[.int .i64 op, .bool qt, .bool fu, .int .i64 bad, .int .u32 (oq : Nat), KQ, VQ, .int .u32 (fl : Nat), .int .u32 (ex : Nat), .int .u64 (cs : Nat), .int .u64 (dl : Nat), .int .u64 (ini : Nat)] 26 ∧ Blk wx (w.heap.size + 1) #[.int .i64 st, .slice VA nv cv, .int .u32 (af : Nat), .int .u64 (ac : Nat), .int .u64 (an : Nat), .slice SA ns sc, .bool cl] 29 ∧ Below w.heap.size w wx)
  case first =>
    obtain ⟨p0, p1, p2, p3, p4, p5, p6, p7, p8, p9, p10, p11⟩ := box12 kq
    obtain ⟨q0, q1, q2, q3, q4, q5, q6⟩ := box7 ka
    by_cases h1 : op = 0
    · have f1 : (op == 0) = true := beq_iff_eq.2 h1
      have hv : isRead op = true := by unfold isRead; rw [f1]; rfl
      clear h1
      go_wp2_with fail
      go_meet
      exact ⟨by rw [hv], kq, ka, b⟩
    · have f1 : (op == 0) = false := beq_eq_false_iff_ne.2 h1
      by_cases h2 : op = 29
      · have f2 : (op == 29) = true := beq_iff_eq.2 h2
        have hv : isRead op = true := by unfold isRead; rw [f1, f2]; rfl
        clear h1 h2
        go_wp2_with fail
        go_meet
        exact ⟨by rw [hv], kq, ka, b⟩
      · have f2 : (op == 29) = false := beq_eq_false_iff_ne.2 h2
        have hv : isRead op = false := by unfold isRead; rw [f1, f2]; rfl
        clear h1 h2
        go_wp2_with fail
        go_meet
        exact ⟨by rw [hv], kq, ka, b⟩
  case rest =>
    obtain ⟨rfl, kq, ka, b⟩ := hcut
    go_upto_region 2 with fail
    go_cut [6] (fun s wx => s = .bool (isCount op) ∧ Blk wx w.heap.size #[.int .i64 op, .bool qt, .bool fu, .int .i64 bad, .int .u32 (oq : Nat), KQ, VQ, .int .u32 (fl : Nat), .int .u32 (ex : Nat), .int .u64 (cs : Nat), .int .u64 (dl : Nat), .int .u64 (ini : Nat)] 26 ∧ Blk wx (w.heap.size + 1) #[.int .i64 st, .slice VA nv cv, .int .u32 (af : Nat), .int .u64 (ac : Nat), .int .u64 (an : Nat), .slice SA ns sc, .bool cl] 29 ∧ Below w.heap.size w wx)
    case first =>
      obtain ⟨p0, p1, p2, p3, p4, p5, p6, p7, p8, p9, p10, p11⟩ := box12 kq
      obtain ⟨q0, q1, q2, q3, q4, q5, q6⟩ := box7 ka
      by_cases h1 : op = 5
      · have f1 : (op == 5) = true := beq_iff_eq.2 h1
        have hv : isCount op = true := by unfold isCount; rw [f1]; rfl
        clear h1
        go_wp2_with fail
        go_meet
        exact ⟨by rw [hv], kq, ka, b⟩
      · have f1 : (op == 5) = false := beq_eq_false_iff_ne.2 h1
        by_cases h2 : op = 6
        · have f2 : (op == 6) = true := beq_iff_eq.2 h2
          have hv : isCount op = true := by unfold isCount; rw [f1, f2]; rfl
          clear h1 h2
          go_wp2_with fail
          go_meet
          exact ⟨by rw [hv], kq, ka, b⟩
        · have f2 : (op == 6) = false := beq_eq_false_iff_ne.2 h2
          have hv : isCount op = false := by unfold isCount; rw [f1, f2]; rfl
          clear h1 h2
          go_wp2_with fail
          go_meet
          exact ⟨by rw [hv], kq, ka, b⟩
    case rest =>
      obtain ⟨rfl, kq, ka, b⟩ := hcut
      have hst := H_hst.out
      clear H_hst
      have fst : (st != 0) = true := bne_iff_ne.2 hst
      have HT := Lib.hid (fun W => rtext_any st W)
      have HWN : Hid (Wv = !((((((!(textB st).toList.isEmpty) && ((nv : Int) == 0)) && ((af : Int) == 0)) && ((ac : Int) == 0)) && ((an : Int) == 0)) && ((ns : Int) == 0))) := Lib.hid (by subst hW; exact wr_n hst hsl)
      clear hW hst
      obtain ⟨p0, p1, p2, p3, p4, p5, p6, p7, p8, p9, p10, p11⟩ := box12 kq
      obtain ⟨q0, q1, q2, q3, q4, q5, q6⟩ := box7 ka
      go_upto_region 4 with fail
      generalize textB st = ts at HT HWN
      go_wp2_with fail
      refine (HT.out wc).mono ?_
      rintro e w1 ⟨rfl, rfl⟩
      dsimp only
      go_wp2_with fail
      all_goals go_ret
      all_goals refine ⟨congrArg Ending.returned (show Value.bool _ = Value.bool (!Wv) from congrArg Value.bool ?_), b⟩
      all_goals rw [HWN.out]
      all_goals (simp [*] <;> (intros; omega))
end Go.Proofs.Ytnghmgbmflcngaa

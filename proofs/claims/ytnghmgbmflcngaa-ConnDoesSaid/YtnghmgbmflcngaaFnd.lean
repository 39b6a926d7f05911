/- The document's find and Code. Conditions: typed in each theorem. -/
import Derived.Test.YtnghmgbmflcngaaTab
import Derived.Deep.DeepCutAuto
namespace Go.Proofs.Ytnghmgbmflcngaa
set_option linter.unusedVariables false
open Go.RowKit
theorem trow_at {w : World} {B : Nat} {A : Option Addr} (h : Rz w B 7 A 31 31 (tblT.map tcells).flatten) {j : Nat} (hj : j < 31) : ∃ ad r, A = some ad ∧ tblT[j]? = some r ∧ ∀ i v, (tcells r)[i]? = some v → w.cell? ((ad.add (j * 7)).add i) = some v := by
  obtain ⟨ad, hA, hb, hl, hc⟩ := Rz.elem h (i := j) hj
  have hr : tblT[j]? = some (tblT[j]'hj) := List.getElem?_eq_getElem hj
  have h7 : ∀ x ∈ tblT.map tcells, x.length = 7 := by
    intro x hx
    obtain ⟨r, -, rfl⟩ := List.mem_map.1 hx
    rfl
  refine ⟨ad, _, hA, hr, fun i v hv => hc i v ?_⟩
  rw [flat_elem 7 (tblT.map tcells) h7 (x := tcells (tblT[j]'hj)) (by rw [List.getElem?_map, hr]; rfl)]
  exact hv
theorem undRow : ∃ fs, Try.prog.underlying 144 = some (.struct fs) := ⟨_, Try.underlying144⟩
theorem szRow : (Try.prog.info? 144).map (·.size) = some 7 := by kernel_rfl
theorem wpl_loadT {ops : Array Oper} {rest : List Oper} {o : Oper} {a : Act} {w : World} {Q : Exit → Act → World → Prop} (hgd : o.guard = none) (x : Operand) (ho : o.op = .load 144 x)
    (p : Addr) (hx : a.eval x = .pointer (some p)) (cs : List Value) (hl : cs.length = 7) (hc : ∀ j v, cs[j]? = some v → w.cell? (p.add j) = some v)
    (h : wpList Try.prog ops Q rest (a.put o.dst (.agg cs.toArray)) w) : wpList Try.prog ops Q (o :: rest) a w := by
  obtain ⟨fs, hu⟩ := undRow
  exact wpList_loadz hgd _ x ho p hx cs _ hc hu rfl (by rw [hl]; exact szRow) h
def findT (c : Int) : Option TRw := tblT.find? (fun r => decide ((r.1 : Int) = c))
def zrowT : TRw := (0, 0, false, false, 0, false, false)
def FindQ (r : Option TRw) (w : World) (e : Ending) (w' : World) : Prop := e = .returned (.tuple #[.agg #[.int .i64 ((r.getD zrowT).1 : Int), .int .i64 ((r.getD zrowT).2.1 : Int), .bool (r.getD zrowT).2.2.1, .bool (r.getD zrowT).2.2.2.1, .int .i64 ((r.getD zrowT).2.2.2.2.1 : Int), .bool (r.getD zrowT).2.2.2.2.2.1, .bool (r.getD zrowT).2.2.2.2.2.2], .bool r.isSome]) ∧ Below w.heap.size w w'
theorem find_at {α : Type} (p : α → Bool) : ∀ (l : List α) (j : Nat) (r : α), l[j]? = some r → p r = true → (∀ i x, i < j → l[i]? = some x → p x = false) → l.find? p = some r
  | [], j, r, h, _, _ => by simp at h
  | x :: l, 0, r, h, hp, _ => by
    simp at h
    subst h
    exact List.find?_cons_of_pos hp
  | x :: l, j + 1, r, h, hp, hn => by
    rw [List.find?_cons_of_neg (by simp [hn 0 x (Nat.succ_pos j) rfl])]
    exact find_at p l j r (by simpa using h) hp (fun i y hi hy => hn (i + 1) y (by omega) (by simpa using hy))
theorem find_none {α : Type} (p : α → Bool) (l : List α) (h : ∀ (i : Nat) (x : α), l[i]? = some x → p x = false) : l.find? p = none := by
  rw [List.find?_eq_none]
  intro x hx
  obtain ⟨i, hi, rfl⟩ := List.mem_iff_getElem.1 hx
  simp [h i _ (List.getElem?_eq_getElem hi)]
theorem blk_set7 {w : World} {g : Nat} {T : TypeId} {c0 c1 c2 c3 c4 c5 c6 : Value} (h : Blk w g #[c0, c1, c2, c3, c4, c5, c6] T) (v0 v1 v2 v3 v4 v5 v6 : Value) : Blk (((((((w.setCell ⟨g, 0, none⟩ v0).setCell ⟨g, 1, none⟩ v1).setCell ⟨g, 2, none⟩ v2).setCell ⟨g, 3, none⟩ v3).setCell ⟨g, 4, none⟩ v4).setCell ⟨g, 5, none⟩ v5).setCell ⟨g, 6, none⟩ v6) g #[v0, v1, v2, v3, v4, v5, v6] T := by
  have h0 : Blk _ g #[v0, c1, c2, c3, c4, c5, c6] T := h.set_ 0 v0
  have h1 : Blk _ g #[v0, v1, c2, c3, c4, c5, c6] T := h0.set_ 1 v1
  have h2 : Blk _ g #[v0, v1, v2, c3, c4, c5, c6] T := h1.set_ 2 v2
  have h3 : Blk _ g #[v0, v1, v2, v3, c4, c5, c6] T := h2.set_ 3 v3
  have h4 : Blk _ g #[v0, v1, v2, v3, v4, c5, c6] T := h3.set_ 4 v4
  have h5 : Blk _ g #[v0, v1, v2, v3, v4, v5, c6] T := h4.set_ 5 v5
  have h6 : Blk _ g #[v0, v1, v2, v3, v4, v5, v6] T := h5.set_ 6 v6
  exact h6
theorem addr0 (g n : Nat) : (⟨g, 0, none⟩ : Addr).add n = ⟨g, n, none⟩ := by
  unfold Addr.add
  by_cases hi : n = 0
  · subst hi; rfl
  · rw [if_neg hi]; simp
theorem grown_set7 (w : World) (g : Nat) (v0 v1 v2 v3 v4 v5 v6 : Value) : w.grownBy (((((((w.setCell ⟨g, 0, none⟩ v0).setCell ⟨g, 1, none⟩ v1).setCell ⟨g, 2, none⟩ v2).setCell ⟨g, 3, none⟩ v3).setCell ⟨g, 4, none⟩ v4).setCell ⟨g, 5, none⟩ v5).setCell ⟨g, 6, none⟩ v6) (some g) := grown_trans (grown_trans (grown_trans (grown_trans (grown_trans (grown_trans (rdr_grown_set w g 0 v0) (rdr_grown_set _ g 1 v1)) (rdr_grown_set _ g 2 v2)) (rdr_grown_set _ g 3 v3)) (rdr_grown_set _ g 4 v4)) (rdr_grown_set _ g 5 v5)) (rdr_grown_set _ g 6 v6)
set_option maxRecDepth 100000 in
set_option maxHeartbeats 4000000 in
theorem find_any (c : Int) (w : World) : Calls Try.prog 93 #[.int .i64 c] w (FindQ (findT c) w) := by
  have k1 := Blk.new w #[.int .i64 0, .int .i64 0, .bool false, .bool false, .int .i64 0, .bool false, .bool false] 144
  have b : Below w.heap.size w (w.alloc (.cells #[.int .i64 0, .int .i64 0, .bool false, .bool false, .int .i64 0, .bool false, .bool false] 144)) := below_a1' (Below.refl _ _) _
  go_enter Try.func93, Try.ntmps93
  go_upto_region 1 with fail
  generalize w.alloc (.cells #[.int .i64 0, .int .i64 0, .bool false, .bool false, .int .i64 0, .bool false, .bool false] 144) = W0 at k1 b ⊢
  go_wp2_with fail
  refine (table_any W0).mono ?_
  rintro e w1 ⟨g, rfl, hz, b1⟩
  replace k1 := k1.step b1
  replace b := below_step b b1
  clear b1
  go_wp2_with fail
  go_loopw [5, 8] (fun y i wr => ∃ j : Nat, j ≤ 31 ∧ i = .int .i64 (j : Nat) ∧ (∀ i r, i < j → tblT[i]? = some r → decide ((r.1 : Int) = c) = false) ∧ Below w1.heap.size w1 wr) (fun _ i _ => 31 - (intOf i).toNat)
  case atStart => exact ⟨0, Nat.zero_le _, rfl, fun i r h => by omega, Below.refl _ _⟩
  case round =>
    obtain ⟨j, hj, rfl, hno, hb⟩ := hrel
    have HNO := Lib.hid hno
    clear hno
    replace k1 := k1.step hb
    replace b := below_step b hb
    by_cases hlt : j < 31
    · obtain ⟨ad, r, hA, hr, hc⟩ := trow_at (hz.step hb) hlt
      injection hA with hA
      subst hA
      have hlt' : ((j : Int) < 31) = True := eq_true (by omega)
      have HLT : Hid (j + 1 ≤ 31) := Lib.hid (by omega)
      have HR := Lib.hid hr
      have HJP : IntKind.i64.wrap ((j : Int) + 1) = (j : Int) + 1 := IntWalk.i64_in _ (by omega)
      unfold tcells at hc
      rw [addr0] at hc
      obtain ⟨r1, r2, r3, r4, r5, r6, r7⟩ := r
      simp only at hc
      have HC := Lib.hid hc
      clear hr hlt hz hc
      go_upto_region 4 with (first | refine wpl_loadT rfl _ rfl ⟨g, j * 7, none⟩ (by rfl) [.int .i64 (r1 : Int), .int .i64 (r2 : Int), .bool r3, .bool r4, .int .i64 (r5 : Int), .bool r6, .bool r7] rfl HC.out ?_)
      have k5 := Blk.new wr #[.int .i64 (r1 : Int), .int .i64 (r2 : Int), .bool r3, .bool r4, .int .i64 (r5 : Int), .bool r6, .bool r7] 144
      have ba := below_a1' (Below.refl wr.heap.size wr) (.cells #[.int .i64 (r1 : Int), .int .i64 (r2 : Int), .bool r3, .bool r4, .int .i64 (r5 : Int), .bool r6, .bool r7] 144)
      replace k1 := k1.step ba
      replace b := below_step b ba
      have hb5 := below_step hb ba
      clear ba HC hb
      generalize wr.alloc (.cells #[.int .i64 (r1 : Int), .int .i64 (r2 : Int), .bool r3, .bool r4, .int .i64 (r5 : Int), .bool r6, .bool r7] 144) = W5 at k1 k5 b hb5 ⊢
      generalize wr.heap.size = g5 at k5 ⊢
      obtain ⟨z0, z1, z2, z3, z4, z5, z6⟩ := box7 k5
      by_cases he : (r1 : Int) = c
      · have he1 : ((r1 : Int) == c) = true := beq_iff_eq.2 he
        have HE := Lib.hid he
        have HF : Hid (findT c = some (r1, r2, r3, r4, r5, r6, r7)) := Lib.hid (find_at _ _ j _ HR.out (decide_eq_true he) HNO.out)
        clear he
        obtain ⟨u0, u1, u2, u3, u4, u5, u6⟩ := box7 k1
        have y0 := k1.frozen 0
        have y1 := k1.frozen 1
        have y2 := k1.frozen 2
        have y3 := k1.frozen 3
        have y4 := k1.frozen 4
        have y5 := k1.frozen 5
        have y6 := k1.frozen 6
        have kf := blk_set7 k1 (.int .i64 (r1 : Int)) (.int .i64 (r2 : Int)) (.bool r3) (.bool r4) (.int .i64 (r5 : Int)) (.bool r6) (.bool r7)
        have gs := grown_set7 W5 w.heap.size (.int .i64 (r1 : Int)) (.int .i64 (r2 : Int)) (.bool r3) (.bool r4) (.int .i64 (r5 : Int)) (.bool r6) (.bool r7)
        have bf := b.trans (below_grown gs (Nat.le_refl _) k1.lt)
        obtain ⟨t0, t1, t2, t3, t4, t5, t6⟩ := box7 kf
        clear kf gs b k1
        go_wp2_with fail
        refine bodyPost_ret (v := .tuple #[.agg #[.int .i64 (r1 : Int), .int .i64 (r2 : Int), .bool r3, .bool r4, .int .i64 (r5 : Int), .bool r6, .bool r7], .bool true]) (by simp [results, Try.results93, go_sem, t0, t1, t2, t3, t4, t5, t6]) rfl ?_
        unfold FindQ
        rw [HF.out]
        exact ⟨rfl, bf⟩
      · have he1 : ((r1 : Int) == c) = false := beq_eq_false_iff_ne.2 he
        have HE := Lib.hid he
        clear he
        go_wp2_with fail
        go_roundw
        case rel => exact ⟨j + 1, HLT.out, by first | rfl | go_num, fun i r hi h => by
          rcases Nat.lt_succ_iff_lt_or_eq.1 hi with h1 | h1
          · exact HNO.out i r h1 h
          · subst h1
            rw [HR.out] at h
            injection h with h
            subst h
            exact decide_eq_false HE.out, hb5⟩
        case measure => have := HLT.out; simp [intOf]; omega
    · have hlt' : ((j : Int) < 31) = False := eq_false (by omega)
      have HF : Hid (findT c = none) := Lib.hid (find_none _ _ fun i r h => HNO.out i r (by have := (List.getElem?_eq_some_iff.1 h).1; have e : tblT.length = 31 := rfl; omega) h)
      clear hlt hz hb
      obtain ⟨u0, u1, u2, u3, u4, u5, u6⟩ := box7 k1
      have y0 := k1.frozen 0
      have y1 := k1.frozen 1
      have y2 := k1.frozen 2
      have y3 := k1.frozen 3
      have y4 := k1.frozen 4
      have y5 := k1.frozen 5
      have y6 := k1.frozen 6
      have kf := blk_set7 k1 (.int .i64 0) (.int .i64 0) (.bool false) (.bool false) (.int .i64 0) (.bool false) (.bool false)
      have gs := grown_set7 wr w.heap.size (.int .i64 0) (.int .i64 0) (.bool false) (.bool false) (.int .i64 0) (.bool false) (.bool false)
      have bf := b.trans (below_grown gs (Nat.le_refl _) k1.lt)
      obtain ⟨t0, t1, t2, t3, t4, t5, t6⟩ := box7 kf
      clear kf gs b k1
      go_wp2_with fail
      refine bodyPost_ret (v := .tuple #[.agg #[.int .i64 0, .int .i64 0, .bool false, .bool false, .int .i64 0, .bool false, .bool false], .bool false]) (by simp [results, Try.results93, go_sem, t0, t1, t2, t3, t4, t5, t6]) rfl ?_
      unfold FindQ
      rw [HF.out]
      exact ⟨rfl, bf⟩
end Go.Proofs.Ytnghmgbmflcngaa

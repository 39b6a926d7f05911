/- The plain answer to a request that a parser told. Conditions: typed in each theorem. -/
import Derived.Test.YtnghmgbmflcngaaCnd
import Derived.Test.YtnghmgbmflcngaaCop21
import Derived.Deep.DeepCutAuto
namespace Go.Proofs.Ytnghmgbmflcngaa
set_option linter.unusedVariables false
open Go.RowKit

def plC (q : RQ) : Bool := decide (q.bd = 0 ∧ q.op = 7)
set_option maxRecDepth 100000 in
set_option maxHeartbeats 4000000 in
theorem plain1_any (q : RQ) (KV VV : Value) (w : World) : Calls Try.prog 70 #[reqV q.op q.qt q.fu q.bd q.oq KV VV q.fl q.ex q.cs q.dl q.ni, .int .i64 1] w (fun e w' => e = .returned (ansV q.bd (.slice none 0 0) 0 0 0 (.slice none 0 0) (plC q)) ∧ Below w.heap.size w w') := by
  obtain ⟨op, qt, fu, bd, oq, lk, lv, fl, ex, cs, dl, ni⟩ := q
  dsimp only
  have k1 := (Blk.new w #[.int .i64 op, .bool qt, .bool fu, .int .i64 bd, .int .u32 (oq : Nat), KV, VV, .int .u32 (fl : Nat), .int .u32 (ex : Nat), .int .u64 (cs : Nat), .int .u64 (dl : Nat), .int .u64 (ni : Nat)] 26).alloc (.cells #[.int .i64 0, .slice none 0 0, .int .u32 0, .int .u64 0, .int .u64 0, .slice none 0 0, .bool false] 29)
  have k2 := Blk.new (w.alloc (.cells #[.int .i64 op, .bool qt, .bool fu, .int .i64 bd, .int .u32 (oq : Nat), KV, VV, .int .u32 (fl : Nat), .int .u32 (ex : Nat), .int .u64 (cs : Nat), .int .u64 (dl : Nat), .int .u64 (ni : Nat)] 26)) #[.int .i64 0, .slice none 0 0, .int .u32 0, .int .u64 0, .int .u64 0, .slice none 0 0, .bool false] 29
  rw [World.size_alloc] at k2
  have b := below_a1' (below_a1' (Below.refl w.heap.size w) (.cells #[.int .i64 op, .bool qt, .bool fu, .int .i64 bd, .int .u32 (oq : Nat), KV, VV, .int .u32 (fl : Nat), .int .u32 (ex : Nat), .int .u64 (cs : Nat), .int .u64 (dl : Nat), .int .u64 (ni : Nat)] 26)) (.cells #[.int .i64 0, .slice none 0 0, .int .u32 0, .int .u64 0, .int .u64 0, .slice none 0 0, .bool false] 29)
  unfold reqV
  go_enter Try.func70, Try.ntmps70
  go_upto_region 1 with fail
  generalize (w.alloc (.cells #[.int .i64 op, .bool qt, .bool fu, .int .i64 bd, .int .u32 (oq : Nat), KV, VV, .int .u32 (fl : Nat), .int .u32 (ex : Nat), .int .u64 (cs : Nat), .int .u64 (dl : Nat), .int .u64 (ni : Nat)] 26)).alloc (.cells #[.int .i64 0, .slice none 0 0, .int .u32 0, .int .u64 0, .int .u64 0, .slice none 0 0, .bool false] 29) = W0 at k1 k2 b ⊢
  obtain ⟨q0, q1, q2, q3, q4, q5, q6, q7, q8, q9, q10, q11⟩ := box12 k1
  obtain ⟨z0, z1, z2, z3, z4, z5, z6⟩ := box7 k2
  have y0 := k2.frozen 0
  have y1 := k2.frozen 1
  have y2 := k2.frozen 2
  have y3 := k2.frozen 3
  have y4 := k2.frozen 4
  have y5 := k2.frozen 5
  have y6 := k2.frozen 6
  by_cases hb : bd = 0
  · have f0 : (bd != 0) = false := bne_eq_false_iff_eq.2 hb
    have HB0 := Lib.hid hb
    clear hb
    by_cases h7 : op = 7
    · have f7 : (op == 7) = true := beq_iff_eq.2 h7
      have HC : Hid (plC ⟨op, qt, fu, bd, oq, lk, lv, fl, ex, cs, dl, ni⟩ = true) := Lib.hid (decide_eq_true ⟨HB0.out, h7⟩)
      clear h7
      have kf := blk_put7 k2 (.int .i64 0) (.slice none 0 0) (.int .u32 0) (.int .u64 0) (.int .u64 0) (.slice none 0 0) (.bool true)
      have gf := grown_put7 W0 (w.heap.size + 1) (.int .i64 0) (.slice none 0 0) (.int .u32 0) (.int .u64 0) (.int .u64 0) (.slice none 0 0) (.bool true)
      have HBB := Lib.hid (b.trans (below_grown gf (by omega) k2.lt))
      obtain ⟨t0, t1, t2, t3, t4, t5, t6⟩ := box7 kf
      clear kf gf b k1 k2
      go_wp2_with fail
      refine bodyPost_ret (v := .agg #[.int .i64 0, .slice none 0 0, .int .u32 0, .int .u64 0, .int .u64 0, .slice none 0 0, .bool true]) (by simp [results, Try.results70, go_sem, t0, t1, t2, t3, t4, t5, t6]) rfl ?_
      exact ⟨by rw [HC.out, HB0.out]; rfl, HBB.out⟩
    · have f7 : (op == 7) = false := beq_eq_false_iff_ne.2 h7
      have HC : Hid (plC ⟨op, qt, fu, bd, oq, lk, lv, fl, ex, cs, dl, ni⟩ = false) := Lib.hid (decide_eq_false (fun h => h7 h.2))
      clear h7
      have kf := blk_put7 k2 (.int .i64 0) (.slice none 0 0) (.int .u32 0) (.int .u64 0) (.int .u64 0) (.slice none 0 0) (.bool false)
      have gf := grown_put7 W0 (w.heap.size + 1) (.int .i64 0) (.slice none 0 0) (.int .u32 0) (.int .u64 0) (.int .u64 0) (.slice none 0 0) (.bool false)
      have HBB := Lib.hid (b.trans (below_grown gf (by omega) k2.lt))
      obtain ⟨t0, t1, t2, t3, t4, t5, t6⟩ := box7 kf
      clear kf gf b k1 k2
      go_wp2_with fail
      refine bodyPost_ret (v := .agg #[.int .i64 0, .slice none 0 0, .int .u32 0, .int .u64 0, .int .u64 0, .slice none 0 0, .bool false]) (by simp [results, Try.results70, go_sem, t0, t1, t2, t3, t4, t5, t6]) rfl ?_
      exact ⟨by rw [HC.out, HB0.out]; rfl, HBB.out⟩
  · have f0 : (bd != 0) = true := bne_iff_ne.2 hb
    have HC : Hid (plC ⟨op, qt, fu, bd, oq, lk, lv, fl, ex, cs, dl, ni⟩ = false) := Lib.hid (decide_eq_false (fun h => hb h.1))
    clear hb
    have kf := blk_put7 k2 (.int .i64 bd) (.slice none 0 0) (.int .u32 0) (.int .u64 0) (.int .u64 0) (.slice none 0 0) (.bool false)
    have gf := grown_put7 W0 (w.heap.size + 1) (.int .i64 bd) (.slice none 0 0) (.int .u32 0) (.int .u64 0) (.int .u64 0) (.slice none 0 0) (.bool false)
    have HBB := Lib.hid (b.trans (below_grown gf (by omega) k2.lt))
    obtain ⟨t0, t1, t2, t3, t4, t5, t6⟩ := box7 kf
    clear kf gf b k1 k2
    go_wp2_with fail
    refine bodyPost_ret (v := .agg #[.int .i64 bd, .slice none 0 0, .int .u32 0, .int .u64 0, .int .u64 0, .slice none 0 0, .bool false]) (by simp [results, Try.results70, go_sem, t0, t1, t2, t3, t4, t5, t6]) rfl ?_
    exact ⟨by rw [HC.out]; rfl, HBB.out⟩
/-- What a parser's request is. -/
structure PrQ (q : RQ) : Prop where
  bd : q.bd = 0 ∨ q.bd = 129 ∨ q.bd = 4 ∨ q.bd = 3
  oq : q.oq < 4294967296
  lk : q.lk.length ≤ 250
  lv : q.lv.length ≤ 512
theorem reqO_pr (op oq cas : Nat) (lx lk lv : List UInt8) (hoq : oq < 4294967296) : PrQ (reqO op oq cas lx lk lv) := by
  cases h : rowOf op with
  | none => rw [reqO_none h]; exact ⟨Or.inr (Or.inl rfl), hoq, by simp, by simp⟩
  | some x =>
    obtain ⟨o, q, f⟩ := x
    cases hb : badB o (shapeOf o).1 (shapeOf o).2.1 (shapeOf o).2.2 lx lk lv with
    | true => rw [reqO_bad h hb]; exact ⟨Or.inr (Or.inr (Or.inl rfl)), hoq, by simp, by simp⟩
    | false =>
      by_cases hv : 512 < lv.length
      · rw [reqO_large h hb hv]; exact ⟨Or.inr (Or.inr (Or.inr rfl)), hoq, by simp, by simp⟩
      · rw [reqO_good h hb (by omega)]
        refine ⟨Or.inl rfl, hoq, ?_, by show lv.length ≤ 512; omega⟩
        show lk.length ≤ 250
        unfold badB at hb
        simp only [Bool.or_eq_false_iff] at hb
        have := of_decide_eq_false hb.1.2
        omega
theorem nxt_pr {l : List UInt8} {q : RQ} {N : Nat} (h : nxt l = some (some (q, N))) : PrQ q := by
  obtain ⟨-, -, -, rfl, -⟩ := nxt_yes h
  exact reqO_pr _ _ _ _ _ _ (fld_lt l 12 4)
theorem pl_wrong {q : RQ} (h : PrQ q) : wrongA q.bd q.op 0 0 0 0 0 [] = false := by
  have hb : badSt q.bd = false := by
    rcases h.bd with e | e | e | e <;> rw [e] <;> decide +kernel
  unfold wrongA
  rw [hb]
  simp
theorem pl_of {q : RQ} (h : PrQ q) : ∃ R, ofR q.op q.qt q.fu q.oq q.bd 0 0 0 0 0 q.lk [] [] = (R, 0) ∧ R.length ≤ 400 := by
  unfold ofR
  rw [if_neg (show ¬ (wrongA q.bd q.op 0 0 0 0 0 [] = true) by rw [pl_wrong h]; decide)]
  by_cases hs : silB q.op q.qt q.bd = true
  · rw [if_pos hs]
    exact ⟨[], rfl, by simp⟩
  rw [if_neg hs]
  have tl : ∀ s : ByteArray, s.data.toList.length = s.size := fun s => by rw [Array.length_toList]; rfl
  have hk := h.lk
  have one : ∃ p : SP, allP q.op q.fu q.bd 0 0 0 q.lk [] [] = [p] ∧ p.lx.length ≤ 8 ∧ p.lk.length ≤ 250 ∧ p.lv.length ≤ 20 := by
    unfold allP
    split
    · refine ⟨_, rfl, by simp, by simp, ?_⟩
      simp only [tl]
      exact text_len _
    · split
      · refine ⟨_, rfl, by simp [length_highB], ?_, by simp⟩
        show (if q.fu = true then q.lk else []).length ≤ 250
        split
        · exact hk
        · simp
      · split
        · exact ⟨_, rfl, by simp, by simp, by simp [length_highB]⟩
        · split
          · exact ⟨_, rfl, by simp, by simp, by simp⟩
          · split
            · exact ⟨_, rfl, by simp, by simp, by simp⟩
            · exact ⟨_, rfl, by simp, by simp, by simp⟩
  obtain ⟨p, hp, h1, h2, h3⟩ := one
  rw [hp]
  have hf : ∀ x ∈ [p], x.fits := fun x hx => by
    rw [List.mem_singleton] at hx
    subst hx
    unfold SP.fits tooLong
    omega
  rw [if_pos hf]
  refine ⟨_, rfl, ?_⟩
  show (spB _ _ [p]).length ≤ 400
  rw [spB_cons, List.length_append, sp_len]
  show _ + (spB _ _ []).length ≤ 400
  simp only [spB, List.map_nil, List.flatten_nil, List.length_nil]
  omega
end Go.Proofs.Ytnghmgbmflcngaa

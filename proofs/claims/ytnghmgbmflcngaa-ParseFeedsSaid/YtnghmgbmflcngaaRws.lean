/- parse.rows: the map of codes. Conditions: typed in each theorem. -/
import Derived.Test.YtnghmgbmflcngaaMapb
import Derived.Test.YtnghmgbmflcngaaOctr
namespace Go.Proofs.Ytnghmgbmflcngaa
set_option linter.unusedVariables false
open Go.RowKit

/-- The codes: code, command, quiet, full. -/
def codeT : List (Nat × Nat × Bool × Bool) := [(0, 0, false, false), (9, 0, true, false), (12, 0, false, true), (13, 0, true, true), (1, 1, false, false), (17, 1, true, false), (2, 2, false, false), (18, 2, true, false), (3, 3, false, false), (19, 3, true, false), (4, 4, false, false), (20, 4, true, false), (5, 5, false, false), (21, 5, true, false), (6, 6, false, false), (22, 6, true, false), (7, 7, false, false), (23, 7, true, false), (8, 8, false, false), (24, 8, true, false), (10, 10, false, false), (11, 11, false, false), (14, 14, false, false), (25, 14, true, false), (15, 15, false, false), (26, 15, true, false), (16, 16, false, false), (28, 28, false, false), (29, 29, false, false), (30, 29, true, false), (64, 64, false, false)]
/-- A row as a value. -/
def rowV (o : Int) (q f : Bool) : Value := .agg #[.int .i64 o, .bool q, .bool f]
def rowP (r : Nat × Nat × Bool × Bool) : Int × Value := ((r.1 : Int), rowV (r.2.1 : Int) r.2.2.1 r.2.2.2)
def rowsT : List (Int × Value) := codeT.map rowP
theorem rowsT_len : rowsT.length = 31 := by rfl
theorem rowsT_get {j : Nat} {k : Int} {v : Value} (h : rowsT[j]? = some (k, v)) : ∃ (c o : Nat) (q f : Bool), codeT[j]? = some (c, o, q, f) ∧ k = (c : Int) ∧ v = rowV (o : Int) q f := by
  unfold rowsT at h
  rw [List.getElem?_map] at h
  obtain ⟨⟨c, o, q, f⟩, h1, h2⟩ := Option.map_eq_some_iff.1 h
  unfold rowP at h2
  injection h2 with h2 h3
  exact ⟨c, o, q, f, h1, h2.symm, h3.symm⟩
theorem wpl_insB {P : Program} (w : World) {ops : Array Oper} {rest : List Oper} {ty : TypeId} {pos : String} {aft : Array Edge} {a : Act} {Q : Exit → Act → World → Prop} {m x v : Operand} {t : TypeId} (kt et : TypeId) (q : IntKind) (ht : P.underlying t = some (.map kt et)) (hd : P.underlying kt = some (.int q)) (b : Nat) (L : List (Int × Value))
    (hm : a.eval m = .map (some b)) (hb : MapB w q b L) (k : Int) (val : Value) (hx : a.eval x = .int q k) (hv : a.eval v = val) (hnew : (L.map Prod.fst).contains k = false)
    (hK : ∀ w', MapB w' q b (L ++ [(k, val)]) → w.grownBy w' (some b) → wpList P ops Q rest (a.put none undef) w') :
    wpList P ops Q (⟨none, Op.insert t m x v, ty, pos, aft, none⟩ :: rest) a w := by
  refine wpList_plain rfl fun K' hK' => ?_
  obtain ⟨w', hrun, r1, r2⟩ := run_putB ht hd hb k val (fun p hp e => by
    have : (L.map Prod.fst).contains k = true := by
      rw [List.contains_iff_mem]
      exact List.mem_map.2 ⟨p, hp, e⟩
    rw [hnew] at this
    cases this)
  unfold Oper.wp
  simp [execOp, hm, hx, hv, hrun, Result.andThen]
  exact hK' _ _ (hK w' r1 r2)
def RowsQ (w : World) (e : Ending) (w' : World) : Prop := ∃ b, e = .returned (.map (some b)) ∧ MapB w' .i64 b rowsT ∧ w.heap.size ≤ b ∧ Below w.heap.size w w'
set_option maxRecDepth 100000 in
set_option maxHeartbeats 4000000 in
theorem rows_any (w : World) : Calls Try.prog 91 #[] w (RowsQ w) := by
  have h0 := MapB.new w .i64
  have b0 := below_a1' (Below.refl w.heap.size w) (.map #[] 0)
  have g0 := World.grownBy.refl (w.alloc (.map #[] 0)) (some w.heap.size)
  have hmm := @run_makeMap Try.prog
  go_enter Try.func91, Try.ntmps91
  simp only [List.append_eq, List.cons_append, List.nil_append]
  go_wp2_with (refine wpl_insB _ 3 140 .i64 Try.underlying137 Try.underlying3 w.heap.size _ rfl h0 0 (.agg #[.int .i64 0, .bool false, .bool false]) (by rfl) (by rfl) (by rfl) ?_)
  intro w1 h1 e1
  have g1 := grown_trans g0 e1
  clear h0 e1 g0
  go_wp2_with (refine wpl_insB _ 3 140 .i64 Try.underlying137 Try.underlying3 w.heap.size _ rfl h1 9 (.agg #[.int .i64 0, .bool true, .bool false]) (by rfl) (by rfl) (by rfl) ?_)
  intro w2 h2 e2
  have g2 := grown_trans g1 e2
  clear h1 e2 g1
  go_wp2_with (refine wpl_insB _ 3 140 .i64 Try.underlying137 Try.underlying3 w.heap.size _ rfl h2 12 (.agg #[.int .i64 0, .bool false, .bool true]) (by rfl) (by rfl) (by rfl) ?_)
  intro w3 h3 e3
  have g3 := grown_trans g2 e3
  clear h2 e3 g2
  go_wp2_with (refine wpl_insB _ 3 140 .i64 Try.underlying137 Try.underlying3 w.heap.size _ rfl h3 13 (.agg #[.int .i64 0, .bool true, .bool true]) (by rfl) (by rfl) (by rfl) ?_)
  intro w4 h4 e4
  have g4 := grown_trans g3 e4
  clear h3 e4 g3
  go_wp2_with (refine wpl_insB _ 3 140 .i64 Try.underlying137 Try.underlying3 w.heap.size _ rfl h4 1 (.agg #[.int .i64 1, .bool false, .bool false]) (by rfl) (by rfl) (by rfl) ?_)
  intro w5 h5 e5
  have g5 := grown_trans g4 e5
  clear h4 e5 g4
  go_wp2_with (refine wpl_insB _ 3 140 .i64 Try.underlying137 Try.underlying3 w.heap.size _ rfl h5 17 (.agg #[.int .i64 1, .bool true, .bool false]) (by rfl) (by rfl) (by rfl) ?_)
  intro w6 h6 e6
  have g6 := grown_trans g5 e6
  clear h5 e6 g5
  go_wp2_with (refine wpl_insB _ 3 140 .i64 Try.underlying137 Try.underlying3 w.heap.size _ rfl h6 2 (.agg #[.int .i64 2, .bool false, .bool false]) (by rfl) (by rfl) (by rfl) ?_)
  intro w7 h7 e7
  have g7 := grown_trans g6 e7
  clear h6 e7 g6
  go_wp2_with (refine wpl_insB _ 3 140 .i64 Try.underlying137 Try.underlying3 w.heap.size _ rfl h7 18 (.agg #[.int .i64 2, .bool true, .bool false]) (by rfl) (by rfl) (by rfl) ?_)
  intro w8 h8 e8
  have g8 := grown_trans g7 e8
  clear h7 e8 g7
  go_wp2_with (refine wpl_insB _ 3 140 .i64 Try.underlying137 Try.underlying3 w.heap.size _ rfl h8 3 (.agg #[.int .i64 3, .bool false, .bool false]) (by rfl) (by rfl) (by rfl) ?_)
  intro w9 h9 e9
  have g9 := grown_trans g8 e9
  clear h8 e9 g8
  go_wp2_with (refine wpl_insB _ 3 140 .i64 Try.underlying137 Try.underlying3 w.heap.size _ rfl h9 19 (.agg #[.int .i64 3, .bool true, .bool false]) (by rfl) (by rfl) (by rfl) ?_)
  intro w10 h10 e10
  have g10 := grown_trans g9 e10
  clear h9 e10 g9
  go_wp2_with (refine wpl_insB _ 3 140 .i64 Try.underlying137 Try.underlying3 w.heap.size _ rfl h10 4 (.agg #[.int .i64 4, .bool false, .bool false]) (by rfl) (by rfl) (by rfl) ?_)
  intro w11 h11 e11
  have g11 := grown_trans g10 e11
  clear h10 e11 g10
  go_wp2_with (refine wpl_insB _ 3 140 .i64 Try.underlying137 Try.underlying3 w.heap.size _ rfl h11 20 (.agg #[.int .i64 4, .bool true, .bool false]) (by rfl) (by rfl) (by rfl) ?_)
  intro w12 h12 e12
  have g12 := grown_trans g11 e12
  clear h11 e12 g11
  go_wp2_with (refine wpl_insB _ 3 140 .i64 Try.underlying137 Try.underlying3 w.heap.size _ rfl h12 5 (.agg #[.int .i64 5, .bool false, .bool false]) (by rfl) (by rfl) (by rfl) ?_)
  intro w13 h13 e13
  have g13 := grown_trans g12 e13
  clear h12 e13 g12
  go_wp2_with (refine wpl_insB _ 3 140 .i64 Try.underlying137 Try.underlying3 w.heap.size _ rfl h13 21 (.agg #[.int .i64 5, .bool true, .bool false]) (by rfl) (by rfl) (by rfl) ?_)
  intro w14 h14 e14
  have g14 := grown_trans g13 e14
  clear h13 e14 g13
  go_wp2_with (refine wpl_insB _ 3 140 .i64 Try.underlying137 Try.underlying3 w.heap.size _ rfl h14 6 (.agg #[.int .i64 6, .bool false, .bool false]) (by rfl) (by rfl) (by rfl) ?_)
  intro w15 h15 e15
  have g15 := grown_trans g14 e15
  clear h14 e15 g14
  go_wp2_with (refine wpl_insB _ 3 140 .i64 Try.underlying137 Try.underlying3 w.heap.size _ rfl h15 22 (.agg #[.int .i64 6, .bool true, .bool false]) (by rfl) (by rfl) (by rfl) ?_)
  intro w16 h16 e16
  have g16 := grown_trans g15 e16
  clear h15 e16 g15
  go_wp2_with (refine wpl_insB _ 3 140 .i64 Try.underlying137 Try.underlying3 w.heap.size _ rfl h16 7 (.agg #[.int .i64 7, .bool false, .bool false]) (by rfl) (by rfl) (by rfl) ?_)
  intro w17 h17 e17
  have g17 := grown_trans g16 e17
  clear h16 e17 g16
  go_wp2_with (refine wpl_insB _ 3 140 .i64 Try.underlying137 Try.underlying3 w.heap.size _ rfl h17 23 (.agg #[.int .i64 7, .bool true, .bool false]) (by rfl) (by rfl) (by rfl) ?_)
  intro w18 h18 e18
  have g18 := grown_trans g17 e18
  clear h17 e18 g17
  go_wp2_with (refine wpl_insB _ 3 140 .i64 Try.underlying137 Try.underlying3 w.heap.size _ rfl h18 8 (.agg #[.int .i64 8, .bool false, .bool false]) (by rfl) (by rfl) (by rfl) ?_)
  intro w19 h19 e19
  have g19 := grown_trans g18 e19
  clear h18 e19 g18
  go_wp2_with (refine wpl_insB _ 3 140 .i64 Try.underlying137 Try.underlying3 w.heap.size _ rfl h19 24 (.agg #[.int .i64 8, .bool true, .bool false]) (by rfl) (by rfl) (by rfl) ?_)
  intro w20 h20 e20
  have g20 := grown_trans g19 e20
  clear h19 e20 g19
  go_wp2_with (refine wpl_insB _ 3 140 .i64 Try.underlying137 Try.underlying3 w.heap.size _ rfl h20 10 (.agg #[.int .i64 10, .bool false, .bool false]) (by rfl) (by rfl) (by rfl) ?_)
  intro w21 h21 e21
  have g21 := grown_trans g20 e21
  clear h20 e21 g20
  go_wp2_with (refine wpl_insB _ 3 140 .i64 Try.underlying137 Try.underlying3 w.heap.size _ rfl h21 11 (.agg #[.int .i64 11, .bool false, .bool false]) (by rfl) (by rfl) (by rfl) ?_)
  intro w22 h22 e22
  have g22 := grown_trans g21 e22
  clear h21 e22 g21
  go_wp2_with (refine wpl_insB _ 3 140 .i64 Try.underlying137 Try.underlying3 w.heap.size _ rfl h22 14 (.agg #[.int .i64 14, .bool false, .bool false]) (by rfl) (by rfl) (by rfl) ?_)
  intro w23 h23 e23
  have g23 := grown_trans g22 e23
  clear h22 e23 g22
  go_wp2_with (refine wpl_insB _ 3 140 .i64 Try.underlying137 Try.underlying3 w.heap.size _ rfl h23 25 (.agg #[.int .i64 14, .bool true, .bool false]) (by rfl) (by rfl) (by rfl) ?_)
  intro w24 h24 e24
  have g24 := grown_trans g23 e24
  clear h23 e24 g23
  go_wp2_with (refine wpl_insB _ 3 140 .i64 Try.underlying137 Try.underlying3 w.heap.size _ rfl h24 15 (.agg #[.int .i64 15, .bool false, .bool false]) (by rfl) (by rfl) (by rfl) ?_)
  intro w25 h25 e25
  have g25 := grown_trans g24 e25
  clear h24 e25 g24
  go_wp2_with (refine wpl_insB _ 3 140 .i64 Try.underlying137 Try.underlying3 w.heap.size _ rfl h25 26 (.agg #[.int .i64 15, .bool true, .bool false]) (by rfl) (by rfl) (by rfl) ?_)
  intro w26 h26 e26
  have g26 := grown_trans g25 e26
  clear h25 e26 g25
  go_wp2_with (refine wpl_insB _ 3 140 .i64 Try.underlying137 Try.underlying3 w.heap.size _ rfl h26 16 (.agg #[.int .i64 16, .bool false, .bool false]) (by rfl) (by rfl) (by rfl) ?_)
  intro w27 h27 e27
  have g27 := grown_trans g26 e27
  clear h26 e27 g26
  go_wp2_with (refine wpl_insB _ 3 140 .i64 Try.underlying137 Try.underlying3 w.heap.size _ rfl h27 28 (.agg #[.int .i64 28, .bool false, .bool false]) (by rfl) (by rfl) (by rfl) ?_)
  intro w28 h28 e28
  have g28 := grown_trans g27 e28
  clear h27 e28 g27
  go_wp2_with (refine wpl_insB _ 3 140 .i64 Try.underlying137 Try.underlying3 w.heap.size _ rfl h28 29 (.agg #[.int .i64 29, .bool false, .bool false]) (by rfl) (by rfl) (by rfl) ?_)
  intro w29 h29 e29
  have g29 := grown_trans g28 e29
  clear h28 e29 g28
  go_wp2_with (refine wpl_insB _ 3 140 .i64 Try.underlying137 Try.underlying3 w.heap.size _ rfl h29 30 (.agg #[.int .i64 29, .bool true, .bool false]) (by rfl) (by rfl) (by rfl) ?_)
  intro w30 h30 e30
  have g30 := grown_trans g29 e30
  clear h29 e30 g29
  go_wp2_with (refine wpl_insB _ 3 140 .i64 Try.underlying137 Try.underlying3 w.heap.size _ rfl h30 64 (.agg #[.int .i64 64, .bool false, .bool false]) (by rfl) (by rfl) (by rfl) ?_)
  intro w31 h31 e31
  have g31 := grown_trans g30 e31
  clear h30 e31 g30
  have bb := b0.trans (below_grown g31 (Nat.le_refl _) (by simp))
  go_wp2_with fail
  go_ret
  exact ⟨w.heap.size, rfl, h31, Nat.le_refl _, bb⟩
end Go.Proofs.Ytnghmgbmflcngaa

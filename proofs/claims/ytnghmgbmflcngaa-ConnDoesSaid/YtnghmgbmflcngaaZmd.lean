/- Merged texts: Mda, Mdb, Mdc, Mdd, Mde, Mdf, Wda, Wd0, Wd1, Wd2, Wd3, Wd4. Conditions: typed in each theorem. -/
import Derived.Test.YtnghmgbmflcngaaCne
import Derived.Test.YtnghmgbmflcngaaRfd
import Derived.Test.YtnghmgbmflcngaaRnx
import Derived.Deep.MidRow
import Derived.Test.YtnghmgbmflcngaaPrs
import Derived.Test.YtnghmgbmflcngaaCpl
namespace Go.Proofs.Ytnghmgbmflcngaa
set_option linter.unusedVariables false
section
open Go.RowKit
def mcs (PA : Option Addr) (pn pc : Nat) (br wt : Bool) (rq : List Value) (OY : Option Addr) (yn yc : Nat) (cl : Bool) : Array Value :=
  (.slice PA pn pc :: .bool br :: .bool wt :: (rq ++ [.slice OY yn yc, .bool cl])).toArray
def zrq : List Value := [.int .i64 0, .bool false, .bool false, .int .i64 0, .int .u32 0, .slice none 0 0, .slice none 0 0, .int .u32 0, .int .u32 0, .int .u64 0, .int .u64 0, .int .u64 0]
def Rq12 (rq : List Value) : Prop := rq.length = 12 ∧ ∀ v ∈ rq, v.oneCell' = true
theorem zrq12 : Rq12 zrq := ⟨rfl, by intro v hv; simp only [zrq, List.mem_cons, List.not_mem_nil, or_false] at hv; rcases hv with rfl | rfl | rfl | rfl | rfl | rfl | rfl | rfl | rfl | rfl | rfl | rfl <;> rfl⟩
theorem reqL12 (q : RQ) (K : Option Addr) (nk ck : Nat) (V : Option Addr) (nv cv : Nat) : Rq12 (reqL q K nk ck V nv cv) := ⟨rfl, by
  intro v hv; simp [reqL] at hv; rcases hv with rfl | rfl | rfl | rfl | rfl | rfl | rfl | rfl | rfl | rfl | rfl | rfl <;> rfl⟩
section
variable {w : World} {g : Nat} {T : TypeId} {PA : Option Addr} {pn pc : Nat} {br wt : Bool} {rq : List Value} {OY : Option Addr} {yn yc : Nat} {cl : Bool}
theorem mcs_size (h : Rq12 rq) : (mcs PA pn pc br wt rq OY yn yc cl).size = 17 := by simp [mcs, h.1]
theorem mcs_one (h : Rq12 rq) : (mcs PA pn pc br wt rq OY yn yc cl).all (·.oneCell') = true := by
  refine all_oneCell_toArray fun v hv => ?_
  simp only [List.mem_cons, List.mem_append, List.not_mem_nil, or_false] at hv
  rcases hv with rfl | rfl | rfl | hv | rfl | rfl
  · rfl
  · rfl
  · rfl
  · exact h.2 v hv
  · rfl
  · rfl
theorem mcs_15 (h : Rq12 rq) : (mcs PA pn pc br wt rq OY yn yc cl)[15]? = some (.slice OY yn yc) := by
  simp [mcs, h.1]
theorem mcs_16 (h : Rq12 rq) : (mcs PA pn pc br wt rq OY yn yc cl)[16]? = some (.bool cl) := by
  simp [mcs, h.1]
theorem mcs_cells (k : Blk w g (mcs PA pn pc br wt rq OY yn yc cl) T) (h : Rq12 rq) : w.cell? ⟨g, 0, none⟩ = some (.slice PA pn pc) ∧ w.cell? ⟨g, 1, none⟩ = some (.bool br) ∧ w.cell? ⟨g, 2, none⟩ = some (.bool wt) ∧ w.cell? ⟨g, 15, none⟩ = some (.slice OY yn yc) ∧ w.cell? ⟨g, 16, none⟩ = some (.bool cl) :=
  ⟨cell_of_row w g 0 _ _ (0, 0) k, cell_of_row w g 1 _ _ (0, 0) k, cell_of_row w g 2 _ _ (0, 0) k, (cell_of_row w g 15 _ _ (0, 0) k).trans (mcs_15 h), (cell_of_row w g 16 _ _ (0, 0) k).trans (mcs_16 h)⟩
theorem mcs_rq (k : Blk w g (mcs PA pn pc br wt rq OY yn yc cl) T) (h : Rq12 rq) : w.rangeAt g 3 rq := fun j v hv => by
  refine (cell_of_row w g (3 + j) _ _ (0, 0) k).trans ?_
  have hj := (List.getElem?_eq_some_iff.1 hv).1
  unfold mcs
  rw [List.getElem?_toArray, show 3 + j = j + 1 + 1 + 1 by omega, List.getElem?_cons_succ, List.getElem?_cons_succ, List.getElem?_cons_succ, List.getElem?_append_left hj]
  exact hv
theorem mcs_set0 (k : Blk w g (mcs PA pn pc br wt rq OY yn yc cl) T) (A : Option Addr) (n c : Nat) : Blk (w.setCell ⟨g, 0, none⟩ (.slice A n c)) g (mcs A n c br wt rq OY yn yc cl) T := k.set_ 0 _
theorem mcs_set1 (k : Blk w g (mcs PA pn pc br wt rq OY yn yc cl) T) (b : Bool) : Blk (w.setCell ⟨g, 1, none⟩ (.bool b)) g (mcs PA pn pc b wt rq OY yn yc cl) T := k.set_ 1 _
theorem mcs_set2 (k : Blk w g (mcs PA pn pc br wt rq OY yn yc cl) T) (b : Bool) : Blk (w.setCell ⟨g, 2, none⟩ (.bool b)) g (mcs PA pn pc br b rq OY yn yc cl) T := k.set_ 2 _
theorem mcs_set15 (k : Blk w g (mcs PA pn pc br wt rq OY yn yc cl) T) (h : Rq12 rq) (A : Option Addr) (n c : Nat) : Blk (w.setCell ⟨g, 15, none⟩ (.slice A n c)) g (mcs PA pn pc br wt rq A n c cl) T := by
  have h2 := k.set_ 15 (.slice A n c)
  have e : (mcs PA pn pc br wt rq OY yn yc cl).setIfInBounds 15 (.slice A n c) = mcs PA pn pc br wt rq A n c cl := by
    unfold mcs
    rw [List.setIfInBounds_toArray]
    congr 1
    rw [List.set_cons_succ, List.set_cons_succ, List.set_cons_succ, List.set_append_right 12 _ (by rw [h.1]; omega), h.1]
    rfl
  rw [e] at h2
  exact h2
end
theorem setCells_blk {g : Nat} {T : TypeId} : ∀ (vs : List Value) (i : Nat) (w : World) (cs : List Value), Blk w g cs.toArray T → i + vs.length ≤ cs.length → Blk (w.setCells g i vs) g (cs.take i ++ vs ++ cs.drop (i + vs.length)).toArray T
  | [], i, w, cs, h, hl => by
    simp only [World.setCells, List.append_nil, List.length_nil, Nat.add_zero, List.take_append_drop]
    exact h
  | v :: r, i, w, cs, h, hl => by
    rw [List.length_cons] at hl
    have h1 := h.set_ i v
    rw [List.setIfInBounds_toArray] at h1
    have h2 := setCells_blk r (i + 1) _ _ h1 (by rw [List.length_set]; omega)
    rw [World.setCells]
    have e : (cs.set i v).take (i + 1) ++ r ++ (cs.set i v).drop (i + 1 + r.length) = cs.take i ++ v :: r ++ cs.drop (i + (v :: r).length) := by
      rw [List.drop_set_of_lt (by omega), List.length_cons, show i + (r.length + 1) = i + 1 + r.length by omega]
      congr 1
      rw [List.take_add_one, List.getElem?_set_self (by omega), List.take_set, List.set_eq_of_length_le (by rw [List.length_take]; omega)]
      simp
    rw [e] at h2
    exact h2
theorem setCells_grown (g : Nat) : ∀ (vs : List Value) (i : Nat) (w : World), w.grownBy (w.setCells g i vs) (some g)
  | [], _, w => by rw [World.setCells]; exact ⟨rfl, rfl, rfl, Nat.le_refl _, fun _ _ _ => rfl⟩
  | v :: r, i, w => by rw [World.setCells]; exact grown_trans (rdr_grown_set w g i v) (setCells_grown g r (i + 1) _)
theorem szMod : (Try.prog.info? 106).map (·.size) = some 17 := by kernel_rfl
theorem undMod : ∃ fs, Try.prog.underlying 106 = some (.struct fs) := ⟨_, Try.underlying106⟩
theorem szRq : (Try.prog.info? 26).map (·.size) = some 12 := by kernel_rfl
theorem undRq : ∃ fs, Try.prog.underlying 26 = some (.struct fs) := ⟨_, Try.underlying26⟩
section
variable {ops : Array Oper} {rest : List Oper} {o : Oper} {a : Act} {w : World} {K : Act → World → Prop} {Q : Exit → Act → World → Prop} {PA : Option Addr} {pn pc : Nat} {br wt : Bool} {rq : List Value} {OY : Option Addr} {yn yc : Nat} {cl : Bool}
theorem wpl_ldM (hgd : o.guard = none) (x : Operand) (ho : o.op = .load 106 x) (g : Nat) (hx : a.eval x = .pointer (some ⟨g, 0, none⟩)) (k : Blk w g (mcs PA pn pc br wt rq OY yn yc cl) 106) (h12 : Rq12 rq)
    (h : wpList Try.prog ops Q rest (a.put o.dst (.agg (mcs PA pn pc br wt rq OY yn yc cl))) w) : wpList Try.prog ops Q (o :: rest) a w := by
  obtain ⟨fs, hu⟩ := undMod
  exact wpList_load_row hgd _ x ho g hx _ _ (0, 0) _ k hu rfl (by rw [mcs_size h12]; exact szMod) h
theorem wpl_ldQ (hgd : o.guard = none) (x : Operand) (ho : o.op = .load 26 x) (g : Nat) (hx : a.eval x = .pointer (some ⟨g, 3, none⟩)) (k : Blk w g (mcs PA pn pc br wt rq OY yn yc cl) 106) (h12 : Rq12 rq)
    (h : wpList Try.prog ops Q rest (a.put o.dst (.agg rq.toArray)) w) : wpList Try.prog ops Q (o :: rest) a w := by
  obtain ⟨fs, hu⟩ := undRq
  exact wpList_load_mid hgd _ x ho g 3 hx rq _ (mcs_rq k h12) hu rfl (by rw [h12.1]; exact szRq) h
theorem wp_stB (ty : TypeId) (x y : Operand) (ho : o.op = .store ty x y) (g i : Nat) (hx : a.eval x = .pointer (some ⟨g, i, none⟩)) (cells : List Value) (hy : a.eval y = .agg cells.toArray) {old : List Value} {T : TypeId} (k : Blk w g old.toArray T) (hle : i + cells.length ≤ old.length)
    (hi : (Try.prog.info? ty).map (·.size) = some cells.length) (h1 : ∀ v ∈ cells, v.oneCell' = true)
    (h : ∀ w', Blk w' g (old.take i ++ cells ++ old.drop (i + cells.length)).toArray T → w.grownBy w' (some g) → K (a.put o.dst undef) w') : o.wp Try.prog a w K Q := by
  refine wp_store_mid ty x y ho g i cells.toArray hx hy (fun j hj => ?_) (by rw [List.size_toArray]; exact hi) (all_oneCell_toArray h1) ?_
  · rw [List.size_toArray] at hj
    refine ⟨?_, k.frozen (i + j)⟩
    rw [cell_of_row w g (i + j) _ _ (0, 0) k, List.getElem?_toArray, List.getElem?_eq_getElem (by omega)]
    rfl
  · exact h _ (setCells_blk cells i w old k hle) (setCells_grown g cells i w)
theorem wp_stM (x y : Operand) (ho : o.op = .store 106 x y) (g : Nat) (hx : a.eval x = .pointer (some ⟨g, 0, none⟩)) (hy : a.eval y = .agg (mcs PA pn pc br wt rq OY yn yc cl)) (h12 : Rq12 rq) {old : List Value} (k : Blk w g old.toArray 106) (hl : old.length = 17)
    (h : ∀ w', Blk w' g (mcs PA pn pc br wt rq OY yn yc cl) 106 → w.grownBy w' (some g) → K (a.put o.dst undef) w') : o.wp Try.prog a w K Q := by
  have hm := mcs_size (PA := PA) (pn := pn) (pc := pc) (br := br) (wt := wt) (OY := OY) (yn := yn) (yc := yc) (cl := cl) h12
  refine wp_stB _ x y ho g 0 hx (mcs PA pn pc br wt rq OY yn yc cl).toList hy k (by rw [Array.length_toList]; omega) (by rw [Array.length_toList, hm]; exact szMod) (fun v hv => ?_) (fun w' hk hg => h w' ?_ hg)
  · exact Array.all_eq_true_iff_forall_mem.1 (mcs_one h12) v (by simpa using hv)
  · rw [List.take_zero, List.nil_append, Array.length_toList, hm, List.drop_eq_nil_of_le (by omega), List.append_nil, Array.toArray_toList] at hk
    exact hk
theorem wp_stR (x y : Operand) (ho : o.op = .store 26 x y) (g : Nat) (hx : a.eval x = .pointer (some ⟨g, 0, none⟩)) (hy : a.eval y = .agg rq.toArray) (h12 : Rq12 rq) {old : List Value} (k : Blk w g old.toArray 26) (hl : old.length = 12)
    (h : ∀ w', Blk w' g rq.toArray 26 → w.grownBy w' (some g) → K (a.put o.dst undef) w') : o.wp Try.prog a w K Q := by
  refine wp_stB _ x y ho g 0 hx rq hy k (by rw [h12.1]; omega) (by rw [h12.1]; exact szRq) h12.2 (fun w' hk hg => h w' ?_ hg)
  rw [List.take_zero, List.nil_append, h12.1, List.drop_eq_nil_of_le (by omega), List.append_nil] at hk
  exact hk
theorem wp_stQ (x y : Operand) (ho : o.op = .store 26 x y) (g : Nat) (hx : a.eval x = .pointer (some ⟨g, 3, none⟩)) (rq' : List Value) (hy : a.eval y = .agg rq'.toArray) (h12 : Rq12 rq) (h12' : Rq12 rq') (k : Blk w g (mcs PA pn pc br wt rq OY yn yc cl) 106)
    (h : ∀ w', Blk w' g (mcs PA pn pc br wt rq' OY yn yc cl) 106 → w.grownBy w' (some g) → K (a.put o.dst undef) w') : o.wp Try.prog a w K Q := by
  refine wp_stB _ x y ho g 3 hx rq' hy k (by rw [h12'.1, List.length_cons, List.length_cons, List.length_cons, List.length_append, h12.1, List.length_cons]; omega) (by rw [h12'.1]; exact szRq) h12'.2 (fun w' hk hg => h w' ?_ hg)
  have e : List.take 3 (Value.slice PA pn pc :: Value.bool br :: Value.bool wt :: (rq ++ [Value.slice OY yn yc, Value.bool cl])) ++ rq' ++ List.drop (3 + rq'.length) (Value.slice PA pn pc :: Value.bool br :: Value.bool wt :: (rq ++ [Value.slice OY yn yc, Value.bool cl])) = Value.slice PA pn pc :: Value.bool br :: Value.bool wt :: (rq' ++ [Value.slice OY yn yc, Value.bool cl]) := by
    rw [h12'.1, show 3 + 12 = 12 + 1 + 1 + 1 from rfl, List.drop_succ_cons, List.drop_succ_cons, List.drop_succ_cons, List.drop_append_of_le_length (by rw [h12.1]; omega), List.drop_eq_nil_of_le (by rw [h12.1]; omega)]
    rfl
  rw [e] at hk
  exact hk
theorem wpl_stM (hgd : o.guard = none) (x y : Operand) (ho : o.op = .store 106 x y) (g : Nat) (hx : a.eval x = .pointer (some ⟨g, 0, none⟩)) (hy : a.eval y = .agg (mcs PA pn pc br wt rq OY yn yc cl)) (h12 : Rq12 rq) {old : List Value} (k : Blk w g old.toArray 106) (hl : old.length = 17)
    (h : ∀ w', Blk w' g (mcs PA pn pc br wt rq OY yn yc cl) 106 → w.grownBy w' (some g) → wpList Try.prog ops Q rest (a.put o.dst undef) w') : wpList Try.prog ops Q (o :: rest) a w :=
  wpList_plain hgd fun _ hK => wp_stM x y ho g hx hy h12 k hl fun w' h1 h2 => hK _ _ (h w' h1 h2)
theorem wpl_stR (hgd : o.guard = none) (x y : Operand) (ho : o.op = .store 26 x y) (g : Nat) (hx : a.eval x = .pointer (some ⟨g, 0, none⟩)) (hy : a.eval y = .agg rq.toArray) (h12 : Rq12 rq) {old : List Value} (k : Blk w g old.toArray 26) (hl : old.length = 12)
    (h : ∀ w', Blk w' g rq.toArray 26 → w.grownBy w' (some g) → wpList Try.prog ops Q rest (a.put o.dst undef) w') : wpList Try.prog ops Q (o :: rest) a w :=
  wpList_plain hgd fun _ hK => wp_stR x y ho g hx hy h12 k hl fun w' h1 h2 => hK _ _ (h w' h1 h2)
theorem wpl_stQ (hgd : o.guard = none) (x y : Operand) (ho : o.op = .store 26 x y) (g : Nat) (hx : a.eval x = .pointer (some ⟨g, 3, none⟩)) (rq' : List Value) (hy : a.eval y = .agg rq'.toArray) (h12 : Rq12 rq) (h12' : Rq12 rq') (k : Blk w g (mcs PA pn pc br wt rq OY yn yc cl) 106)
    (h : ∀ w', Blk w' g (mcs PA pn pc br wt rq' OY yn yc cl) 106 → w.grownBy w' (some g) → wpList Try.prog ops Q rest (a.put o.dst undef) w') : wpList Try.prog ops Q (o :: rest) a w :=
  wpList_plain hgd fun _ hK => wp_stQ x y ho g hx rq' hy h12 h12' k fun w' h1 h2 => hK _ _ (h w' h1 h2)
end
section
variable {w : World} {g gq : Nat} {PA : Option Addr} {pn pc : Nat} {br wt : Bool} {rq rq' : List Value} {OY : Option Addr} {yn yc : Nat} {cl : Bool}
theorem run_ldvM (k : Blk w g (mcs PA pn pc br wt rq OY yn yc cl) 106) (h12 : Rq12 rq) : (loadVar 106 ⟨g, 0, none⟩).run Try.prog w = .ok (.agg (mcs PA pn pc br wt rq OY yn yc cl)) w := by
  obtain ⟨fs, hu⟩ := undMod
  exact run_loadVar_row w g _ _ _ (0, 0) _ k hu rfl (by rw [mcs_size h12]; exact szMod)
theorem run_ldvR (k : Blk w g rq.toArray 26) (h12 : Rq12 rq) : (loadVar 26 ⟨g, 0, none⟩).run Try.prog w = .ok (.agg rq.toArray) w := by
  obtain ⟨fs, hu⟩ := undRq
  exact run_loadVar_row w g _ _ _ (0, 0) _ k hu rfl (by rw [List.size_toArray, h12.1]; exact szRq)
theorem resM {fn : Func} {p : Tmp} (h : fn.results = #[.cell p 106]) (tmps : Array Value) (hp : tmps[p]?.getD undef = .pointer (some ⟨g, 0, none⟩)) (k : Blk w g (mcs PA pn pc br wt rq OY yn yc cl) 106) (h12 : Rq12 rq) :
    (results fn tmps).run Try.prog w = .ok (.agg (mcs PA pn pc br wt rq OY yn yc cl)) w := by
  simp [results, h, hp, asAddr, run_ldvM k h12]
theorem resMt {fn : Func} {p u : Tmp} (h : fn.results = #[.cell p 106, .tmp u]) (tmps : Array Value) (v : Value) (hp : tmps[p]?.getD undef = .pointer (some ⟨g, 0, none⟩)) (hv : tmps[u]?.getD undef = v) (k : Blk w g (mcs PA pn pc br wt rq OY yn yc cl) 106) (h12 : Rq12 rq) :
    (results fn tmps).run Try.prog w = .ok (.tuple #[.agg (mcs PA pn pc br wt rq OY yn yc cl), v]) w := by
  simp [results, h, hp, hv, asAddr, run_ldvM k h12]
theorem resMRt {fn : Func} {p q u : Tmp} (h : fn.results = #[.cell p 106, .cell q 26, .tmp u]) (tmps : Array Value) (v : Value) (hp : tmps[p]?.getD undef = .pointer (some ⟨g, 0, none⟩)) (hq : tmps[q]?.getD undef = .pointer (some ⟨gq, 0, none⟩)) (hv : tmps[u]?.getD undef = v)
    (k : Blk w g (mcs PA pn pc br wt rq OY yn yc cl) 106) (h12 : Rq12 rq) (kq : Blk w gq rq'.toArray 26) (h12' : Rq12 rq') :
    (results fn tmps).run Try.prog w = .ok (.tuple #[.agg (mcs PA pn pc br wt rq OY yn yc cl), .agg rq'.toArray, v]) w := by
  simp [results, h, hp, hq, hv, asAddr, run_ldvM k h12, run_ldvR kq h12']
end
end
section
set_option linter.unusedSimpArgs false
open Go.RowKit
set_option maxRecDepth 100000 in
set_option maxHeartbeats 4000000 in
theorem mclose_any (PA : Option Addr) (pn pc : Nat) (br wt : Bool) (rq : List Value) (OY : Option Addr) (yn yc : Nat) (cl : Bool) (h12 : Rq12 rq) (w : World) : Calls Try.prog 129 #[.agg (mcs PA pn pc br wt rq OY yn yc cl)] w fun e w' => e = .returned (.agg (mcs none 0 0 false false zrq OY yn yc true)) ∧ Below w.heap.size w w' := by
  have k1 := Blk.new w (mcs PA pn pc br wt rq OY yn yc cl) 106
  have k2 := Blk.new (w.alloc (.cells (mcs PA pn pc br wt rq OY yn yc cl) 106)) #[.slice none 0 0, .bool false, .bool false, .int .i64 0, .bool false, .bool false, .int .i64 0, .int .u32 0, .slice none 0 0, .slice none 0 0, .int .u32 0, .int .u32 0, .int .u64 0, .int .u64 0, .int .u64 0, .slice none 0 0, .bool false] 106
  replace k1 := k1.alloc (.cells #[.slice none 0 0, .bool false, .bool false, .int .i64 0, .bool false, .bool false, .int .i64 0, .int .u32 0, .slice none 0 0, .slice none 0 0, .int .u32 0, .int .u32 0, .int .u64 0, .int .u64 0, .int .u64 0, .slice none 0 0, .bool false] 106)
  have b := (below_a1' (below_a1' (Below.refl w.heap.size w) (.cells (mcs PA pn pc br wt rq OY yn yc cl) 106)) (.cells #[.slice none 0 0, .bool false, .bool false, .int .i64 0, .bool false, .bool false, .int .i64 0, .int .u32 0, .slice none 0 0, .slice none 0 0, .int .u32 0, .int .u32 0, .int .u64 0, .int .u64 0, .int .u64 0, .slice none 0 0, .bool false] 106))
  simp only [World.size_alloc] at k2
  go_enter Try.func129, Try.ntmps129
  go_upto_region 1 with fail
  generalize ((w.alloc (.cells (mcs PA pn pc br wt rq OY yn yc cl) 106)).alloc (.cells #[.slice none 0 0, .bool false, .bool false, .int .i64 0, .bool false, .bool false, .int .i64 0, .int .u32 0, .slice none 0 0, .slice none 0 0, .int .u32 0, .int .u32 0, .int .u64 0, .int .u64 0, .int .u64 0, .slice none 0 0, .bool false] 106)) = W0 at k1 k2 b ⊢
  obtain ⟨c0, c1, c2, c15, c16⟩ := mcs_cells k1 h12
  go_wp2_with (first | refine wpl_stM (PA := none) (pn := 0) (pc := 0) (br := false) (wt := false) (rq := zrq) (OY := OY) (yn := yn) (yc := yc) (cl := true) rfl _ _ rfl (w.heap.size + 1) rfl rfl zrq12 k2 rfl ?_)
  intro w3 k3 g3
  replace b := b.trans (below_grown g3 (by omega) k2.lt)
  have HB := Lib.hid b
  clear b k1 k2 g3 c0 c1 c2 c15 c16
  go_wp2_with fail
  refine bodyPost_ret (resM Try.results129 _ rfl k3 zrq12) rfl ?_
  exact ⟨rfl, HB.out⟩
def MPutQ (PA : Option Addr) (pn pc : Nat) (br wt : Bool) (rq : List Value) (cl : Bool) (N : Nat) (l : List UInt8) (w : World) (e : Ending) (w' : World) : Prop := ∃ A' c', e = .returned (.agg (mcs PA pn pc br wt rq A' N c' cl)) ∧ Own w' w.heap.size A' N c' l ∧ Below w.heap.size w w'
set_option maxRecDepth 100000 in
set_option maxHeartbeats 4000000 in
theorem mput_any (PA : Option Addr) (pn pc : Nat) (br wt : Bool) (rq : List Value) (OY : Option Addr) (yn yc : Nat) (cl : Bool) (h12 : Rq12 rq) (lo : List UInt8) (A : Option Addr) (n c : Nat) (l : List UInt8) (w : World) (r : Rd w w.heap.size OY yn yc lo) (r2 : Rd w w.heap.size A n c l) (hm : yn + n ≤ 140737488355328) : Calls Try.prog 128 #[.agg (mcs PA pn pc br wt rq OY yn yc cl), .slice A n c] w (MPutQ PA pn pc br wt rq cl (yn + n) (lo ++ l) w) := by
  have HM := Lib.hid hm
  clear hm
  have k1 := Blk.new w (mcs PA pn pc br wt rq OY yn yc cl) 106
  have k2 := Blk.new (w.alloc (.cells (mcs PA pn pc br wt rq OY yn yc cl) 106)) #[.slice none 0 0, .bool false, .bool false, .int .i64 0, .bool false, .bool false, .int .i64 0, .int .u32 0, .slice none 0 0, .slice none 0 0, .int .u32 0, .int .u32 0, .int .u64 0, .int .u64 0, .int .u64 0, .slice none 0 0, .bool false] 106
  replace k1 := k1.alloc (.cells #[.slice none 0 0, .bool false, .bool false, .int .i64 0, .bool false, .bool false, .int .i64 0, .int .u32 0, .slice none 0 0, .slice none 0 0, .int .u32 0, .int .u32 0, .int .u64 0, .int .u64 0, .int .u64 0, .slice none 0 0, .bool false] 106)
  have b := (below_a1' (below_a1' (Below.refl w.heap.size w) (.cells (mcs PA pn pc br wt rq OY yn yc cl) 106)) (.cells #[.slice none 0 0, .bool false, .bool false, .int .i64 0, .bool false, .bool false, .int .i64 0, .int .u32 0, .slice none 0 0, .slice none 0 0, .int .u32 0, .int .u32 0, .int .u64 0, .int .u64 0, .int .u64 0, .slice none 0 0, .bool false] 106))
  simp only [World.size_alloc] at k2
  go_enter Try.func128, Try.ntmps128
  go_upto_region 1 with fail
  generalize ((w.alloc (.cells (mcs PA pn pc br wt rq OY yn yc cl) 106)).alloc (.cells #[.slice none 0 0, .bool false, .bool false, .int .i64 0, .bool false, .bool false, .int .i64 0, .int .u32 0, .slice none 0 0, .slice none 0 0, .int .u32 0, .int .u32 0, .int .u64 0, .int .u64 0, .int .u64 0, .slice none 0 0, .bool false] 106)) = W0 at k1 k2 b ⊢
  have hw0 := k2.lt
  have o0 : Own (W0.alloc (.cells #[] 5)) (w.heap.size + 2) (some ⟨W0.heap.size, 0, none⟩) 0 0 [] := Own.emptyK W0 _ _ rfl hw0
  replace k1 := k1.alloc (.cells #[] 5)
  replace k2 := k2.alloc (.cells #[] 5)
  replace b := below_a1' b (.cells #[] 5)
  have ra := (r.below b).more b.size
  obtain ⟨c0, c1, c2, c15, c16⟩ := mcs_cells k1 h12
  go_wp2_with (at_builtin; refine wpList_app8 _ rfl _ _ rfl (w.heap.size + 2) (some ⟨W0.heap.size, 0, none⟩) 0 0 [] rfl o0 _ OY yn yc lo rfl ra (by have := HM.out; omega) (by rw [World.size_alloc]; omega) ?_)
  intro A3 c3 w3 o3 b3
  have k1b := (b3.block _ (by omega)).trans k1
  have k2b := (b3.block _ (by omega)).trans k2
  replace b := b.trans (b3.mono (by omega))
  clear k1 k2 b3 ra o0 c0 c1 c2 c15 c16
  have k1 : Blk w3 w.heap.size (mcs PA pn pc br wt rq OY yn yc cl) 106 := k1b
  have k2 : Blk w3 (w.heap.size + 1) #[.slice none 0 0, .bool false, .bool false, .int .i64 0, .bool false, .bool false, .int .i64 0, .int .u32 0, .slice none 0 0, .slice none 0 0, .int .u32 0, .int .u32 0, .int .u64 0, .int .u64 0, .int .u64 0, .slice none 0 0, .bool false] 106 := k2b
  clear k1b k2b
  have rb := (r2.below b).more b.size
  have hw3 := k2.lt
  obtain ⟨c0, c1, c2, c15, c16⟩ := mcs_cells k1 h12
  go_wp2_with (at_builtin; refine wpList_app8 _ rfl _ _ rfl (w.heap.size + 2) A3 yn c3 lo rfl o3 _ A n c l rfl rb (by have := HM.out; omega) (by omega) ?_)
  intro A4 c4 w4 o4 b4
  have k1b : Blk w4 w.heap.size (mcs PA pn pc br wt rq OY yn yc cl) 106 := (b4.block _ (by omega)).trans k1
  have k2b : Blk w4 (w.heap.size + 1) #[.slice none 0 0, .bool false, .bool false, .int .i64 0, .bool false, .bool false, .int .i64 0, .int .u32 0, .slice none 0 0, .slice none 0 0, .int .u32 0, .int .u32 0, .int .u64 0, .int .u64 0, .int .u64 0, .slice none 0 0, .bool false] 106 := (b4.block _ (by omega)).trans k2
  replace b := b.trans (b4.mono (by omega))
  clear k1 k2 b4 o3 rb c0 c1 c2 c15 c16
  obtain ⟨c0, c1, c2, c15, c16⟩ := mcs_cells k1b h12
  have x15 := k1b.frozen 15
  go_upto_region 2 with fail
  have gq := rdr_grown_set w4 w.heap.size 15 (.slice A4 (yn + n) c4)
  have k1 := mcs_set15 k1b h12 A4 (yn + n) c4
  have k2 := k2b.leftC gq (by omega)
  replace o4 := o4.kept gq (by omega)
  replace b := b.trans (below_grown gq (Nat.le_refl _) k1b.lt)
  clear gq k1b k2b x15 c0 c1 c2 c15 c16
  generalize w4.setCell ⟨w.heap.size, 15, none⟩ (.slice A4 (yn + n) c4) = W5 at k1 k2 o4 b ⊢
  go_wp2_with (first | refine wpl_ldM rfl _ rfl w.heap.size rfl k1 h12 ?_ | refine wpl_stM (PA := PA) (pn := pn) (pc := pc) (br := br) (wt := wt) (rq := rq) (OY := A4) (yn := (yn + n)) (yc := c4) (cl := cl) rfl _ _ rfl (w.heap.size + 1) rfl rfl h12 k2 rfl ?_)
  intro w6 k6 g6
  have HQ := Lib.hid (And.intro ((o4.kept g6 (by omega)).more (B' := w.heap.size) (by omega)) (b.trans (below_grown g6 (by omega) k2.lt)))
  clear b k1 k2 o4 g6
  go_wp2_with fail
  refine bodyPost_ret (resM Try.results128 _ rfl k6 h12) rfl ?_
  exact ⟨A4, c4, rfl, HQ.out.1, HQ.out.2⟩
end
section
set_option linter.unusedSimpArgs false
open Go.RowKit
set_option maxRecDepth 100000 in
set_option maxHeartbeats 4000000 in
theorem mfeed_closed (PA : Option Addr) (pn pc : Nat) (br wt : Bool) (rq : List Value) (OY : Option Addr) (yn yc : Nat) (h12 : Rq12 rq) (A2 : Option Addr) (m c2 : Nat) (w : World) : Calls Try.prog 112 #[.agg (mcs PA pn pc br wt rq OY yn yc true), .slice A2 m c2] w fun e w' => e = .returned (.tuple #[.agg (mcs PA pn pc br wt rq OY yn yc true), .int .i64 320]) ∧ Below w.heap.size w w' := by
  have k1 := Blk.new w (mcs PA pn pc br wt rq OY yn yc true) 106
  have k2 := Blk.new (w.alloc (.cells (mcs PA pn pc br wt rq OY yn yc true) 106)) #[.slice none 0 0, .bool false, .bool false, .int .i64 0, .bool false, .bool false, .int .i64 0, .int .u32 0, .slice none 0 0, .slice none 0 0, .int .u32 0, .int .u32 0, .int .u64 0, .int .u64 0, .int .u64 0, .slice none 0 0, .bool false] 106
  replace k1 := k1.alloc (.cells #[.slice none 0 0, .bool false, .bool false, .int .i64 0, .bool false, .bool false, .int .i64 0, .int .u32 0, .slice none 0 0, .slice none 0 0, .int .u32 0, .int .u32 0, .int .u64 0, .int .u64 0, .int .u64 0, .slice none 0 0, .bool false] 106)
  have b := (below_a1' (below_a1' (Below.refl w.heap.size w) (.cells (mcs PA pn pc br wt rq OY yn yc true) 106)) (.cells #[.slice none 0 0, .bool false, .bool false, .int .i64 0, .bool false, .bool false, .int .i64 0, .int .u32 0, .slice none 0 0, .slice none 0 0, .int .u32 0, .int .u32 0, .int .u64 0, .int .u64 0, .int .u64 0, .slice none 0 0, .bool false] 106))
  simp only [World.size_alloc] at k2
  go_enter Try.func112, Try.ntmps112
  go_upto_region 1 with fail
  generalize ((w.alloc (.cells (mcs PA pn pc br wt rq OY yn yc true) 106)).alloc (.cells #[.slice none 0 0, .bool false, .bool false, .int .i64 0, .bool false, .bool false, .int .i64 0, .int .u32 0, .slice none 0 0, .slice none 0 0, .int .u32 0, .int .u32 0, .int .u64 0, .int .u64 0, .int .u64 0, .slice none 0 0, .bool false] 106)) = W0 at k1 k2 b ⊢
  obtain ⟨c0, c1, c2', c15, c16⟩ := mcs_cells k1 h12
  go_wp2_with (first | refine wpl_ldM rfl _ rfl w.heap.size rfl k1 h12 ?_ | refine wpl_stM (PA := PA) (pn := pn) (pc := pc) (br := br) (wt := wt) (rq := rq) (OY := OY) (yn := yn) (yc := yc) (cl := true) rfl _ _ rfl (w.heap.size + 1) rfl rfl h12 k2 rfl ?_)
  intro w6 k6 g6
  have HQ := Lib.hid (b.trans (below_grown g6 (by omega) k2.lt))
  clear b k1 k2 g6 c0 c1 c2' c15 c16
  go_wp2_with fail
  refine bodyPost_ret (resMt Try.results112 _ _ rfl rfl k6 h12) rfl ?_
  exact ⟨rfl, HQ.out⟩
set_option maxRecDepth 100000 in
set_option maxHeartbeats 4000000 in
theorem mfeed_long (PA : Option Addr) (pn pc : Nat) (wt : Bool) (rq : List Value) (OY : Option Addr) (yn yc : Nat) (h12 : Rq12 rq)  (A2 : Option Addr) (m c2 : Nat) (w : World) (hm : 65536 < pn + m) (hn : pn + m ≤ 9223372036854775807) : Calls Try.prog 112 #[.agg (mcs PA pn pc false wt rq OY yn yc false), .slice A2 m c2] w (fun e w' => e = .returned (.tuple #[.agg (mcs PA pn pc false wt rq OY yn yc false), .int .i64 3]) ∧ Below w.heap.size w w') := by
  have HF : Hid (∀ W, Below w.heap.size w W → Calls Try.prog 37 #[.agg #[.slice PA pn pc, .bool false], .slice A2 m c2] W (RfNo PA pn pc false 3 W)) := Lib.hid (fun W b => rfeed_long PA pn pc A2 m c2 W hm hn)
  clear hm hn
  have k1 := Blk.new w (mcs PA pn pc false wt rq OY yn yc false) 106
  have k2 := Blk.new (w.alloc (.cells (mcs PA pn pc false wt rq OY yn yc false) 106)) #[.slice none 0 0, .bool false, .bool false, .int .i64 0, .bool false, .bool false, .int .i64 0, .int .u32 0, .slice none 0 0, .slice none 0 0, .int .u32 0, .int .u32 0, .int .u64 0, .int .u64 0, .int .u64 0, .slice none 0 0, .bool false] 106
  replace k1 := k1.alloc (.cells #[.slice none 0 0, .bool false, .bool false, .int .i64 0, .bool false, .bool false, .int .i64 0, .int .u32 0, .slice none 0 0, .slice none 0 0, .int .u32 0, .int .u32 0, .int .u64 0, .int .u64 0, .int .u64 0, .slice none 0 0, .bool false] 106)
  have b := (below_a1' (below_a1' (Below.refl w.heap.size w) (.cells (mcs PA pn pc false wt rq OY yn yc false) 106)) (.cells #[.slice none 0 0, .bool false, .bool false, .int .i64 0, .bool false, .bool false, .int .i64 0, .int .u32 0, .slice none 0 0, .slice none 0 0, .int .u32 0, .int .u32 0, .int .u64 0, .int .u64 0, .int .u64 0, .slice none 0 0, .bool false] 106))
  simp only [World.size_alloc] at k2
  go_enter Try.func112, Try.ntmps112
  go_upto_region 1 with fail
  generalize ((w.alloc (.cells (mcs PA pn pc false wt rq OY yn yc false) 106)).alloc (.cells #[.slice none 0 0, .bool false, .bool false, .int .i64 0, .bool false, .bool false, .int .i64 0, .int .u32 0, .slice none 0 0, .slice none 0 0, .int .u32 0, .int .u32 0, .int .u64 0, .int .u64 0, .int .u64 0, .slice none 0 0, .bool false] 106)) = W0 at k1 k2 b ⊢
  obtain ⟨c0, c1, c2', c15, c16⟩ := mcs_cells k1 h12
  go_wp2_with fail
  refine (HF.out W0 b).mono ?_
  rintro e w3 ⟨rfl, b3⟩
  have hB := k2.lt
  replace k1 := k1.step b3
  replace k2 := k2.step b3
  replace b := below_step b b3
  clear HF b3 c0 c1 c2' c15 c16
  obtain ⟨c0, c1, c2', c15, c16⟩ := mcs_cells k1 h12
  go_upto_region 4 with fail
  have ba := below_a1' (Below.refl w3.heap.size w3) (.cells #[.slice PA pn pc, .bool false] 47)
  have k6 := Blk.new w3 #[.slice PA pn pc, .bool false] 47
  replace k1 := k1.step ba
  replace k2 := k2.step ba
  replace b := below_step b ba
  clear ba c0 c1 c2' c15 c16
  generalize w3.alloc (.cells #[.slice PA pn pc, .bool false] 47) = W4 at k1 k2 k6 b ⊢
  generalize w3.heap.size = g6 at k6 ⊢
  obtain ⟨c0, c1, c2', c15, c16⟩ := mcs_cells k1 h12
  obtain ⟨v0, v1⟩ := box2 k6
  have x0 := k1.frozen 0
  have x1 := k1.frozen 1
  go_upto_region 5 with fail
  clear v0 v1 x0 x1 k6 c0 c1 c2' c15 c16
  have gq := grown_trans (rdr_grown_set W4 w.heap.size 0 (.slice PA pn pc)) (rdr_grown_set _ w.heap.size 1 (.bool false))
  have k1' := mcs_set1 (mcs_set0 k1 PA pn pc) false
  replace k2 := k2.leftC gq (by omega)
  replace b := b.trans (below_grown gq (Nat.le_refl _) k1.lt)
  clear k1 gq
  have k1 := k1'
  clear k1'
  generalize (W4.setCell ⟨w.heap.size, 0, none⟩ (.slice PA pn pc)).setCell ⟨w.heap.size, 1, none⟩ (.bool false) = W5 at k1 k2 b ⊢
  go_wp2_with (first | refine wpl_ldM rfl _ rfl w.heap.size rfl k1 h12 ?_ | refine wpl_stM (PA := PA) (pn := pn) (pc := pc) (br := false) (wt := wt) (rq := rq) (OY := OY) (yn := yn) (yc := yc) (cl := false) rfl _ _ rfl (w.heap.size + 1) rfl rfl h12 k2 rfl ?_)
  intro w6 k6 g6
  have HQ := Lib.hid (b.trans (below_grown g6 (by omega) k2.lt))
  clear b k1 k2 g6
  go_wp2_with fail
  refine bodyPost_ret (resMt Try.results112 _ _ rfl rfl k6 h12) rfl ?_
  exact ⟨rfl, HQ.out⟩
def MFeedQ (wt : Bool) (rq : List Value) (OY : Option Addr) (yn yc : Nat) (N : Nat) (l : List UInt8) (w : World) (e : Ending) (w' : World) : Prop := ∃ A' c', e = .returned (.tuple #[.agg (mcs A' N c' false wt rq OY yn yc false), .int .i64 0]) ∧ Own w' w.heap.size A' N c' l ∧ Below w.heap.size w w'
set_option maxRecDepth 100000 in
set_option maxHeartbeats 4000000 in
theorem mfeed_ok (PA : Option Addr) (pn pc : Nat) (wt : Bool) (rq : List Value) (OY : Option Addr) (yn yc : Nat) (h12 : Rq12 rq) (lp : List UInt8) (A2 : Option Addr) (m c2 : Nat) (l2 : List UInt8) (w : World) (r : Rd w w.heap.size PA pn pc lp) (r2 : Rd w w.heap.size A2 m c2 l2) (hm : pn + m ≤ 65536) : Calls Try.prog 112 #[.agg (mcs PA pn pc false wt rq OY yn yc false), .slice A2 m c2] w (MFeedQ wt rq OY yn yc (pn + m) (lp ++ l2) w) := by
  have HF : Hid (∀ W, Below w.heap.size w W → Calls Try.prog 37 #[.agg #[.slice PA pn pc, .bool false], .slice A2 m c2] W (RfOk (pn + m) (lp ++ l2) W)) := Lib.hid (fun W b => rfeed_ok PA pn pc lp A2 m c2 l2 W ((r.below b).more b.size) ((r2.below b).more b.size) hm)
  clear r r2 hm
  have k1 := Blk.new w (mcs PA pn pc false wt rq OY yn yc false) 106
  have k2 := Blk.new (w.alloc (.cells (mcs PA pn pc false wt rq OY yn yc false) 106)) #[.slice none 0 0, .bool false, .bool false, .int .i64 0, .bool false, .bool false, .int .i64 0, .int .u32 0, .slice none 0 0, .slice none 0 0, .int .u32 0, .int .u32 0, .int .u64 0, .int .u64 0, .int .u64 0, .slice none 0 0, .bool false] 106
  replace k1 := k1.alloc (.cells #[.slice none 0 0, .bool false, .bool false, .int .i64 0, .bool false, .bool false, .int .i64 0, .int .u32 0, .slice none 0 0, .slice none 0 0, .int .u32 0, .int .u32 0, .int .u64 0, .int .u64 0, .int .u64 0, .slice none 0 0, .bool false] 106)
  have b := (below_a1' (below_a1' (Below.refl w.heap.size w) (.cells (mcs PA pn pc false wt rq OY yn yc false) 106)) (.cells #[.slice none 0 0, .bool false, .bool false, .int .i64 0, .bool false, .bool false, .int .i64 0, .int .u32 0, .slice none 0 0, .slice none 0 0, .int .u32 0, .int .u32 0, .int .u64 0, .int .u64 0, .int .u64 0, .slice none 0 0, .bool false] 106))
  simp only [World.size_alloc] at k2
  go_enter Try.func112, Try.ntmps112
  go_upto_region 1 with fail
  generalize ((w.alloc (.cells (mcs PA pn pc false wt rq OY yn yc false) 106)).alloc (.cells #[.slice none 0 0, .bool false, .bool false, .int .i64 0, .bool false, .bool false, .int .i64 0, .int .u32 0, .slice none 0 0, .slice none 0 0, .int .u32 0, .int .u32 0, .int .u64 0, .int .u64 0, .int .u64 0, .slice none 0 0, .bool false] 106)) = W0 at k1 k2 b ⊢
  obtain ⟨c0, c1, c2', c15, c16⟩ := mcs_cells k1 h12
  go_wp2_with fail
  refine (HF.out W0 b).mono ?_
  rintro e w3 ⟨A3, c3, rfl, o3, b3⟩
  have hB := k2.lt
  replace k1 := k1.step b3
  replace k2 := k2.step b3
  replace b := below_step b b3
  clear HF b3 c0 c1 c2' c15 c16
  obtain ⟨c0, c1, c2', c15, c16⟩ := mcs_cells k1 h12
  go_upto_region 4 with fail
  have ba := below_a1' (Below.refl w3.heap.size w3) (.cells #[.slice A3 (pn + m) c3, .bool false] 47)
  have k6 := Blk.new w3 #[.slice A3 (pn + m) c3, .bool false] 47
  replace k1 := k1.step ba
  replace k2 := k2.step ba
  replace b := below_step b ba
  replace o3 := o3.step ba
  clear ba c0 c1 c2' c15 c16
  generalize w3.alloc (.cells #[.slice A3 (pn + m) c3, .bool false] 47) = W4 at k1 k2 k6 b o3 ⊢
  generalize w3.heap.size = g6 at k6 ⊢
  obtain ⟨c0, c1, c2', c15, c16⟩ := mcs_cells k1 h12
  obtain ⟨v0, v1⟩ := box2 k6
  have x0 := k1.frozen 0
  have x1 := k1.frozen 1
  go_upto_region 5 with fail
  clear v0 v1 x0 x1 k6 c0 c1 c2' c15 c16
  have gq := grown_trans (rdr_grown_set W4 w.heap.size 0 (.slice A3 (pn + m) c3)) (rdr_grown_set _ w.heap.size 1 (.bool false))
  have k1' := mcs_set1 (mcs_set0 k1 A3 (pn + m) c3) false
  replace k2 := k2.leftC gq (by omega)
  replace o3 := o3.kept gq (by omega)
  replace b := b.trans (below_grown gq (Nat.le_refl _) k1.lt)
  clear k1 gq
  have k1 := k1'
  clear k1'
  generalize (W4.setCell ⟨w.heap.size, 0, none⟩ (.slice A3 (pn + m) c3)).setCell ⟨w.heap.size, 1, none⟩ (.bool false) = W5 at k1 k2 b o3 ⊢
  go_wp2_with (first | refine wpl_ldM rfl _ rfl w.heap.size rfl k1 h12 ?_ | refine wpl_stM (PA := A3) (pn := (pn + m)) (pc := c3) (br := false) (wt := wt) (rq := rq) (OY := OY) (yn := yn) (yc := yc) (cl := false) rfl _ _ rfl (w.heap.size + 1) rfl rfl h12 k2 rfl ?_)
  intro w6 k6 g6
  have HQ := Lib.hid (And.intro ((o3.kept g6 (by omega)).more (B' := w.heap.size) (by omega)) (b.trans (below_grown g6 (by omega) k2.lt)))
  clear b k1 k2 g6 o3
  go_wp2_with fail
  refine bodyPost_ret (resMt Try.results112 _ _ rfl rfl k6 h12) rfl ?_
  exact ⟨_, _, rfl, HQ.out.1, HQ.out.2⟩
end
section
set_option linter.unusedSimpArgs false
open Go.RowKit
open Go
section
variable {ops : Array Oper} {o : Oper} {a : Act} {w : World} {K : Act → World → Prop} {Q : Exit → Act → World → Prop} {E : Prop} {S : World → Prop} {PA : Option Addr} {pn pc : Nat} {br wt : Bool} {rq : List Value} {OY : Option Addr} {yn yc : Nat} {cl : Bool}
theorem yi_ldM (hw : Region.wanted o (yielded ops a.tmps) = true) (x : Operand) (ho : o.op = .load 106 x) (g : Nat) (hx : a.eval x = .pointer (some ⟨g, 0, none⟩)) (h12 : Rq12 rq) (hS : ∀ w, S w → Blk w g (mcs PA pn pc br wt rq OY yn yc cl) 106) :
    YieldsIf Try.prog ops S o (.agg (mcs PA pn pc br wt rq OY yn yc cl)) a :=
  .inl ⟨hw, fun w hw' => by
    unfold execOp
    simp only [ho, hx, Instr.loadAt, Instr.sureAddr, Sem.run_bind, Sem.run_pure, Result.andThen_ok, run_ldvM (hS w hw') h12]⟩
theorem yi_ldR (hw : Region.wanted o (yielded ops a.tmps) = true) (x : Operand) (ho : o.op = .load 26 x) (g : Nat) (hx : a.eval x = .pointer (some ⟨g, 0, none⟩)) (h12 : Rq12 rq) (hS : ∀ w, S w → Blk w g rq.toArray 26) :
    YieldsIf Try.prog ops S o (.agg rq.toArray) a :=
  .inl ⟨hw, fun w hw' => by
    unfold execOp
    simp only [ho, hx, Instr.loadAt, Instr.sureAddr, Sem.run_bind, Sem.run_pure, Result.andThen_ok, run_ldvR (hS w hw') h12]⟩
theorem yi_ldQ (hw : Region.wanted o (yielded ops a.tmps) = true) (x : Operand) (ho : o.op = .load 26 x) (g : Nat) (hx : a.eval x = .pointer (some ⟨g, 3, none⟩)) (h12 : Rq12 rq) (hS : ∀ w, S w → Blk w g (mcs PA pn pc br wt rq OY yn yc cl) 106) :
    YieldsIf Try.prog ops S o (.agg rq.toArray) a := by
  obtain ⟨fs, hu⟩ := undRq
  exact yieldsIf_load_mid hw _ x ho g 3 hx rq _ (fun w h => mcs_rq (hS w h) h12) hu rfl (by rw [h12.1]; exact szRq)
theorem step_stM (hw : Region.wanted o (yielded ops a.tmps) = true) (x y : Operand) (ho : o.op = .store 106 x y) (g : Nat) (hx : a.eval x = .pointer (some ⟨g, 0, none⟩)) (hy : a.eval y = .agg (mcs PA pn pc br wt rq OY yn yc cl)) (h12 : Rq12 rq) {old : List Value} (k : Blk w g old.toArray 106) (hl : old.length = 17)
    (h : ∀ w', Blk w' g (mcs PA pn pc br wt rq OY yn yc cl) 106 → w.grownBy w' (some g) → K (a.put o.dst undef) w') : if Region.wanted o (yielded ops a.tmps) = true then Oper.wp Try.prog o a w K Q else E := by
  rw [if_pos hw]
  exact wp_stM x y ho g hx hy h12 k hl h
theorem step_stR (hw : Region.wanted o (yielded ops a.tmps) = true) (x y : Operand) (ho : o.op = .store 26 x y) (g : Nat) (hx : a.eval x = .pointer (some ⟨g, 0, none⟩)) (hy : a.eval y = .agg rq.toArray) (h12 : Rq12 rq) {old : List Value} (k : Blk w g old.toArray 26) (hl : old.length = 12)
    (h : ∀ w', Blk w' g rq.toArray 26 → w.grownBy w' (some g) → K (a.put o.dst undef) w') : if Region.wanted o (yielded ops a.tmps) = true then Oper.wp Try.prog o a w K Q else E := by
  rw [if_pos hw]
  exact wp_stR x y ho g hx hy h12 k hl h
theorem step_stQ (hw : Region.wanted o (yielded ops a.tmps) = true) (x y : Operand) (ho : o.op = .store 26 x y) (g : Nat) (hx : a.eval x = .pointer (some ⟨g, 3, none⟩)) (rq' : List Value) (hy : a.eval y = .agg rq'.toArray) (h12 : Rq12 rq) (h12' : Rq12 rq') (k : Blk w g (mcs PA pn pc br wt rq OY yn yc cl) 106)
    (h : ∀ w', Blk w' g (mcs PA pn pc br wt rq' OY yn yc cl) 106 → w.grownBy w' (some g) → K (a.put o.dst undef) w') : if Region.wanted o (yielded ops a.tmps) = true then Oper.wp Try.prog o a w K Q else E := by
  rw [if_pos hw]
  exact wp_stQ x y ho g hx rq' hy h12 h12' k h
end
end
section
set_option linter.unusedSimpArgs false
open Go.RowKit
theorem mal_len : malB.length ≤ 1000 := by decide
set_option maxRecDepth 100000 in
set_option maxHeartbeats 4000000 in
theorem mnext_closed (PA : Option Addr) (pn pc : Nat) (br wt : Bool) (rq : List Value) (OY : Option Addr) (yn yc : Nat) (h12 : Rq12 rq) (w : World) : Calls Try.prog 113 #[.agg (mcs PA pn pc br wt rq OY yn yc true)] w fun e w' => e = .returned (.tuple #[.agg (mcs PA pn pc br wt rq OY yn yc true), .agg zrq.toArray, .bool false]) ∧ Below w.heap.size w w' := by
  have k1 := Blk.new w (mcs PA pn pc br wt rq OY yn yc true) 106
  have k2 := Blk.new (w.alloc (.cells (mcs PA pn pc br wt rq OY yn yc true) 106)) #[.slice none 0 0, .bool false, .bool false, .int .i64 0, .bool false, .bool false, .int .i64 0, .int .u32 0, .slice none 0 0, .slice none 0 0, .int .u32 0, .int .u32 0, .int .u64 0, .int .u64 0, .int .u64 0, .slice none 0 0, .bool false] 106
  replace k1 := k1.alloc (.cells #[.slice none 0 0, .bool false, .bool false, .int .i64 0, .bool false, .bool false, .int .i64 0, .int .u32 0, .slice none 0 0, .slice none 0 0, .int .u32 0, .int .u32 0, .int .u64 0, .int .u64 0, .int .u64 0, .slice none 0 0, .bool false] 106)
  have k3 := Blk.new ((w.alloc (.cells (mcs PA pn pc br wt rq OY yn yc true) 106)).alloc (.cells #[.slice none 0 0, .bool false, .bool false, .int .i64 0, .bool false, .bool false, .int .i64 0, .int .u32 0, .slice none 0 0, .slice none 0 0, .int .u32 0, .int .u32 0, .int .u64 0, .int .u64 0, .int .u64 0, .slice none 0 0, .bool false] 106)) #[.int .i64 0, .bool false, .bool false, .int .i64 0, .int .u32 0, .slice none 0 0, .slice none 0 0, .int .u32 0, .int .u32 0, .int .u64 0, .int .u64 0, .int .u64 0] 26
  replace k1 := k1.alloc (.cells #[.int .i64 0, .bool false, .bool false, .int .i64 0, .int .u32 0, .slice none 0 0, .slice none 0 0, .int .u32 0, .int .u32 0, .int .u64 0, .int .u64 0, .int .u64 0] 26)
  replace k2 := k2.alloc (.cells #[.int .i64 0, .bool false, .bool false, .int .i64 0, .int .u32 0, .slice none 0 0, .slice none 0 0, .int .u32 0, .int .u32 0, .int .u64 0, .int .u64 0, .int .u64 0] 26)
  have b := (below_a1' (below_a1' (below_a1' (Below.refl w.heap.size w) (.cells (mcs PA pn pc br wt rq OY yn yc true) 106)) (.cells #[.slice none 0 0, .bool false, .bool false, .int .i64 0, .bool false, .bool false, .int .i64 0, .int .u32 0, .slice none 0 0, .slice none 0 0, .int .u32 0, .int .u32 0, .int .u64 0, .int .u64 0, .int .u64 0, .slice none 0 0, .bool false] 106)) (.cells #[.int .i64 0, .bool false, .bool false, .int .i64 0, .int .u32 0, .slice none 0 0, .slice none 0 0, .int .u32 0, .int .u32 0, .int .u64 0, .int .u64 0, .int .u64 0] 26))
  simp only [World.size_alloc] at k2 k3
  go_enter Try.func113, Try.ntmps113
  go_upto_region 1 with fail
  generalize (((w.alloc (.cells (mcs PA pn pc br wt rq OY yn yc true) 106)).alloc (.cells #[.slice none 0 0, .bool false, .bool false, .int .i64 0, .bool false, .bool false, .int .i64 0, .int .u32 0, .slice none 0 0, .slice none 0 0, .int .u32 0, .int .u32 0, .int .u64 0, .int .u64 0, .int .u64 0, .slice none 0 0, .bool false] 106)).alloc (.cells #[.int .i64 0, .bool false, .bool false, .int .i64 0, .int .u32 0, .slice none 0 0, .slice none 0 0, .int .u32 0, .int .u32 0, .int .u64 0, .int .u64 0, .int .u64 0] 26)) = W0 at k1 k2 k3 b ⊢
  obtain ⟨c0, c1, c2, c15, c16⟩ := mcs_cells k1 h12
  go_wp2_with (first | refine wpl_ldM rfl _ rfl w.heap.size rfl k1 h12 ?_ | refine wpl_stM (PA := PA) (pn := pn) (pc := pc) (br := br) (wt := wt) (rq := rq) (OY := OY) (yn := yn) (yc := yc) (cl := true) rfl _ _ rfl (w.heap.size + 1) rfl rfl h12 k2 rfl ?_)
  intro w6 k6 g6
  replace k3 := k3.leftC g6 (by omega)
  replace b := b.trans (below_grown g6 (by omega) k2.lt)
  clear k2 g6
  go_wp2_with (first | refine wpl_stR (rq := zrq) rfl _ _ rfl (w.heap.size + 2) rfl rfl zrq12 k3 rfl ?_)
  intro w7 k7 g7
  replace k6 := k6.leftC g7 (by omega)
  replace b := b.trans (below_grown g7 (by omega) k3.lt)
  have HQ := Lib.hid b
  clear b k1 k3 g7
  clear c0 c1 c2 c15 c16
  go_wp2_with fail
  refine bodyPost_ret (resMRt Try.results113 _ _ rfl rfl rfl k6 h12 k7 zrq12) rfl ?_
  exact ⟨rfl, HQ.out⟩
set_option maxRecDepth 100000 in
set_option maxHeartbeats 4000000 in
theorem mnext_waits (PA : Option Addr) (pn pc : Nat) (br : Bool) (rq : List Value) (OY : Option Addr) (yn yc : Nat) (h12 : Rq12 rq) (w : World) : Calls Try.prog 113 #[.agg (mcs PA pn pc br true rq OY yn yc false)] w fun e w' => e = .returned (.tuple #[.agg (mcs PA pn pc br true rq OY yn yc false), .agg rq.toArray, .bool true]) ∧ Below w.heap.size w w' := by
  have k1 := Blk.new w (mcs PA pn pc br true rq OY yn yc false) 106
  have k2 := Blk.new (w.alloc (.cells (mcs PA pn pc br true rq OY yn yc false) 106)) #[.slice none 0 0, .bool false, .bool false, .int .i64 0, .bool false, .bool false, .int .i64 0, .int .u32 0, .slice none 0 0, .slice none 0 0, .int .u32 0, .int .u32 0, .int .u64 0, .int .u64 0, .int .u64 0, .slice none 0 0, .bool false] 106
  replace k1 := k1.alloc (.cells #[.slice none 0 0, .bool false, .bool false, .int .i64 0, .bool false, .bool false, .int .i64 0, .int .u32 0, .slice none 0 0, .slice none 0 0, .int .u32 0, .int .u32 0, .int .u64 0, .int .u64 0, .int .u64 0, .slice none 0 0, .bool false] 106)
  have k3 := Blk.new ((w.alloc (.cells (mcs PA pn pc br true rq OY yn yc false) 106)).alloc (.cells #[.slice none 0 0, .bool false, .bool false, .int .i64 0, .bool false, .bool false, .int .i64 0, .int .u32 0, .slice none 0 0, .slice none 0 0, .int .u32 0, .int .u32 0, .int .u64 0, .int .u64 0, .int .u64 0, .slice none 0 0, .bool false] 106)) #[.int .i64 0, .bool false, .bool false, .int .i64 0, .int .u32 0, .slice none 0 0, .slice none 0 0, .int .u32 0, .int .u32 0, .int .u64 0, .int .u64 0, .int .u64 0] 26
  replace k1 := k1.alloc (.cells #[.int .i64 0, .bool false, .bool false, .int .i64 0, .int .u32 0, .slice none 0 0, .slice none 0 0, .int .u32 0, .int .u32 0, .int .u64 0, .int .u64 0, .int .u64 0] 26)
  replace k2 := k2.alloc (.cells #[.int .i64 0, .bool false, .bool false, .int .i64 0, .int .u32 0, .slice none 0 0, .slice none 0 0, .int .u32 0, .int .u32 0, .int .u64 0, .int .u64 0, .int .u64 0] 26)
  have b := (below_a1' (below_a1' (below_a1' (Below.refl w.heap.size w) (.cells (mcs PA pn pc br true rq OY yn yc false) 106)) (.cells #[.slice none 0 0, .bool false, .bool false, .int .i64 0, .bool false, .bool false, .int .i64 0, .int .u32 0, .slice none 0 0, .slice none 0 0, .int .u32 0, .int .u32 0, .int .u64 0, .int .u64 0, .int .u64 0, .slice none 0 0, .bool false] 106)) (.cells #[.int .i64 0, .bool false, .bool false, .int .i64 0, .int .u32 0, .slice none 0 0, .slice none 0 0, .int .u32 0, .int .u32 0, .int .u64 0, .int .u64 0, .int .u64 0] 26))
  simp only [World.size_alloc] at k2 k3
  go_enter Try.func113, Try.ntmps113
  go_upto_region 1 with fail
  generalize (((w.alloc (.cells (mcs PA pn pc br true rq OY yn yc false) 106)).alloc (.cells #[.slice none 0 0, .bool false, .bool false, .int .i64 0, .bool false, .bool false, .int .i64 0, .int .u32 0, .slice none 0 0, .slice none 0 0, .int .u32 0, .int .u32 0, .int .u64 0, .int .u64 0, .int .u64 0, .slice none 0 0, .bool false] 106)).alloc (.cells #[.int .i64 0, .bool false, .bool false, .int .i64 0, .int .u32 0, .slice none 0 0, .slice none 0 0, .int .u32 0, .int .u32 0, .int .u64 0, .int .u64 0, .int .u64 0] 26)) = W0 at k1 k2 k3 b ⊢
  obtain ⟨c0, c1, c2, c15, c16⟩ := mcs_cells k1 h12
  go_upto_region 4 with fail
  clear c0 c1 c2 c15 c16
  refine wp_region_noPanic ?_
  refine region_T (fun wx => Blk wx w.heap.size (mcs PA pn pc br true rq OY yn yc false) 106) 6 (by kernel_rfl) ?_
  have bD : Below W0.heap.size W0 W0.drew := (Below.refl _ _).drew
  replace k1 := k1.step bD
  replace k2 := k2.step bD
  replace k3 := k3.step bD
  replace b := below_step b bD
  clear bD
  have hHeld := k1
  generalize W0.drew = Y0 at k1 k2 k3 b hHeld ⊢
  refine takeA (i := 0) rfl (fun _ _ _ h => h) (yi_ldM rfl _ rfl w.heap.size rfl h12 (fun _ h => h)) hHeld ?_
  try simp only [Act.put, List.setIfInBounds_toArray, List.set_cons_zero, List.set_cons_succ]
  refine takeA (i := 1) (v := ?_) rfl (fun _ _ _ h => h) (Or.inl ⟨by rfl, ?_⟩) hHeld ?_
  rotate_left
  · (intro wx hSw; go_simp; try (with_reducible rfl))
  try simp only [Act.put, List.setIfInBounds_toArray, List.set_cons_zero, List.set_cons_succ]
  refine takeA (i := 2) rfl (fun _ _ _ h => h) (yi_ldQ rfl _ rfl w.heap.size rfl h12 (fun _ h => h)) hHeld ?_
  try simp only [Act.put, List.setIfInBounds_toArray, List.set_cons_zero, List.set_cons_succ]
  refine oneT (i := 3) rfl (by kernel_rfl) (fun KK hK => ?_)
  refine step_stM (PA := PA) (pn := pn) (pc := pc) (br := br) (wt := true) (rq := rq) (OY := OY) (yn := yn) (yc := yc) (cl := false) rfl _ _ rfl (w.heap.size + 1) rfl rfl h12 k2 rfl (fun Y1 k6 g6 => ?_)
  clear hHeld
  replace k1 := k1.leftC g6 (by omega)
  replace k3 := k3.leftC g6 (by omega)
  replace b := b.trans (below_grown g6 (by omega) k2.lt)
  have hHeld := k1
  clear g6 k2
  refine hK.out _ _ (fun _ => hHeld) ?_
  clear hK KK
  try simp only [Act.put, List.setIfInBounds_toArray, List.set_cons_zero, List.set_cons_succ]
  refine oneT (i := 4) rfl (by kernel_rfl) (fun KK hK => ?_)
  refine step_stR (rq := rq) rfl _ _ rfl (w.heap.size + 2) rfl rfl h12 k3 rfl (fun Y2 k7 g7 => ?_)
  clear hHeld
  replace k1 := k1.leftC g7 (by omega)
  replace k6 := k6.leftC g7 (by omega)
  replace b := b.trans (below_grown g7 (by omega) k3.lt)
  have hHeld := k1
  clear g7 k3
  refine hK.out _ _ (fun _ => hHeld) ?_
  clear hK KK
  try simp only [Act.put, List.setIfInBounds_toArray, List.set_cons_zero, List.set_cons_succ]
  refine takeA (i := 5) (v := ?_) rfl (fun _ _ _ h => h) (Or.inl ⟨by rfl, ?_⟩) hHeld ?_
  rotate_left
  · (intro wx hSw; go_simp; try (with_reducible rfl))
  try simp only [Act.put, List.setIfInBounds_toArray, List.set_cons_zero, List.set_cons_succ]
  refine doneT (by kernel_rfl) ?_ _
  refine NoPanic.normal ?_
  clear hHeld
  have HQ := Lib.hid b
  clear b k1
  go_wp2_with fail
  refine bodyPost_ret (resMRt Try.results113 _ _ rfl rfl rfl k6 h12 k7 h12) rfl ?_
  exact ⟨rfl, HQ.out⟩
set_option maxRecDepth 100000 in
set_option maxHeartbeats 8000000 in
theorem mnext_wait (PA : Option Addr) (pn pc : Nat) (rq : List Value) (OY : Option Addr) (yn yc : Nat) (h12 : Rq12 rq) (l : List UInt8) (w : World) (r : Rd w w.heap.size PA pn pc l) (hx : nxt l = some none) : Calls Try.prog 113 #[.agg (mcs PA pn pc false false rq OY yn yc false)] w fun e w' => e = .returned (.tuple #[.agg (mcs PA pn pc false false rq OY yn yc false), .agg zrq.toArray, .bool false]) ∧ Below w.heap.size w w' := by
  have HF : Hid (∀ W, Below w.heap.size w W → Calls Try.prog 84 #[.agg #[.slice PA pn pc, .bool false]] W (RnNo PA pn pc false 0 W)) := Lib.hid (fun W b => by
    have h3 := r.len
    rcases nx_wait hx with h1 | ⟨h1, h2, h4⟩
    · exact rnext_short PA pn pc W (by omega)
    · exact rnext_wait PA pn pc l W ((r.below b).more b.size) (by omega) h2 (by omega))
  clear r hx
  have k1 := Blk.new w (mcs PA pn pc false false rq OY yn yc false) 106
  have k2 := Blk.new (w.alloc (.cells (mcs PA pn pc false false rq OY yn yc false) 106)) #[.slice none 0 0, .bool false, .bool false, .int .i64 0, .bool false, .bool false, .int .i64 0, .int .u32 0, .slice none 0 0, .slice none 0 0, .int .u32 0, .int .u32 0, .int .u64 0, .int .u64 0, .int .u64 0, .slice none 0 0, .bool false] 106
  replace k1 := k1.alloc (.cells #[.slice none 0 0, .bool false, .bool false, .int .i64 0, .bool false, .bool false, .int .i64 0, .int .u32 0, .slice none 0 0, .slice none 0 0, .int .u32 0, .int .u32 0, .int .u64 0, .int .u64 0, .int .u64 0, .slice none 0 0, .bool false] 106)
  have k3 := Blk.new ((w.alloc (.cells (mcs PA pn pc false false rq OY yn yc false) 106)).alloc (.cells #[.slice none 0 0, .bool false, .bool false, .int .i64 0, .bool false, .bool false, .int .i64 0, .int .u32 0, .slice none 0 0, .slice none 0 0, .int .u32 0, .int .u32 0, .int .u64 0, .int .u64 0, .int .u64 0, .slice none 0 0, .bool false] 106)) #[.int .i64 0, .bool false, .bool false, .int .i64 0, .int .u32 0, .slice none 0 0, .slice none 0 0, .int .u32 0, .int .u32 0, .int .u64 0, .int .u64 0, .int .u64 0] 26
  replace k1 := k1.alloc (.cells #[.int .i64 0, .bool false, .bool false, .int .i64 0, .int .u32 0, .slice none 0 0, .slice none 0 0, .int .u32 0, .int .u32 0, .int .u64 0, .int .u64 0, .int .u64 0] 26)
  replace k2 := k2.alloc (.cells #[.int .i64 0, .bool false, .bool false, .int .i64 0, .int .u32 0, .slice none 0 0, .slice none 0 0, .int .u32 0, .int .u32 0, .int .u64 0, .int .u64 0, .int .u64 0] 26)
  have b := (below_a1' (below_a1' (below_a1' (Below.refl w.heap.size w) (.cells (mcs PA pn pc false false rq OY yn yc false) 106)) (.cells #[.slice none 0 0, .bool false, .bool false, .int .i64 0, .bool false, .bool false, .int .i64 0, .int .u32 0, .slice none 0 0, .slice none 0 0, .int .u32 0, .int .u32 0, .int .u64 0, .int .u64 0, .int .u64 0, .slice none 0 0, .bool false] 106)) (.cells #[.int .i64 0, .bool false, .bool false, .int .i64 0, .int .u32 0, .slice none 0 0, .slice none 0 0, .int .u32 0, .int .u32 0, .int .u64 0, .int .u64 0, .int .u64 0] 26))
  simp only [World.size_alloc] at k2 k3
  go_enter Try.func113, Try.ntmps113
  go_upto_region 1 with fail
  generalize (((w.alloc (.cells (mcs PA pn pc false false rq OY yn yc false) 106)).alloc (.cells #[.slice none 0 0, .bool false, .bool false, .int .i64 0, .bool false, .bool false, .int .i64 0, .int .u32 0, .slice none 0 0, .slice none 0 0, .int .u32 0, .int .u32 0, .int .u64 0, .int .u64 0, .int .u64 0, .slice none 0 0, .bool false] 106)).alloc (.cells #[.int .i64 0, .bool false, .bool false, .int .i64 0, .int .u32 0, .slice none 0 0, .slice none 0 0, .int .u32 0, .int .u32 0, .int .u64 0, .int .u64 0, .int .u64 0] 26)) = W0 at k1 k2 k3 b ⊢
  obtain ⟨c0, c1, c2, c15, c16⟩ := mcs_cells k1 h12
  go_wp2_with fail
  refine (HF.out W0 b).mono ?_
  rintro e w3 ⟨rfl, b3⟩
  have hB := k3.lt
  have hB3 := b3.size
  have hB3 : w.heap.size + 2 < w3.heap.size := by omega
  replace k1 := k1.step b3
  replace k2 := k2.step b3
  replace k3 := k3.step b3
  replace b := below_step b b3
  clear HF b3 c0 c1 c2 c15 c16
  obtain ⟨c0, c1, c2, c15, c16⟩ := mcs_cells k1 h12
  go_upto_region 6 with fail
  have ba := below_a1' (below_a1' (Below.refl w3.heap.size w3) (.cells #[.slice PA pn pc, .bool false] 47)) (.cells #[.int .i64 0, .bool false, .bool false, .int .i64 0, .int .u32 0, .slice none 0 0, .slice none 0 0, .int .u32 0, .int .u32 0, .int .u64 0, .int .u64 0, .int .u64 0] 26)
  have k5 := (Blk.new w3 #[.slice PA pn pc, .bool false] 47).alloc (.cells #[.int .i64 0, .bool false, .bool false, .int .i64 0, .int .u32 0, .slice none 0 0, .slice none 0 0, .int .u32 0, .int .u32 0, .int .u64 0, .int .u64 0, .int .u64 0] 26)
  have k8 := Blk.new (w3.alloc (.cells #[.slice PA pn pc, .bool false] 47)) #[.int .i64 0, .bool false, .bool false, .int .i64 0, .int .u32 0, .slice none 0 0, .slice none 0 0, .int .u32 0, .int .u32 0, .int .u64 0, .int .u64 0, .int .u64 0] 26
  rw [World.size_alloc] at k8
  replace k1 := k1.step ba
  replace k2 := k2.step ba
  replace k3 := k3.step ba
  replace b := below_step b ba
  clear ba c0 c1 c2 c15 c16
  generalize hW : (w3.alloc (.cells #[.slice PA pn pc, .bool false] 47)).alloc (.cells #[.int .i64 0, .bool false, .bool false, .int .i64 0, .int .u32 0, .slice none 0 0, .slice none 0 0, .int .u32 0, .int .u32 0, .int .u64 0, .int .u64 0, .int .u64 0] 26) = W4 at k1 k2 k3 k5 k8 b ⊢
  clear hW
  generalize hg : w3.heap.size = g5 at hB3 k5 k8 ⊢
  clear hg
  obtain ⟨c0, c1, c2, c15, c16⟩ := mcs_cells k1 h12
  obtain ⟨v0, v1⟩ := box2 k5
  have x0 := k1.frozen 0
  have x1 := k1.frozen 1
  go_upto_region 7 with fail
  clear v0 v1 x0 x1 k5 c0 c1 c2 c15 c16
  have gq := grown_trans (rdr_grown_set W4 w.heap.size 0 (.slice PA pn pc)) (rdr_grown_set _ w.heap.size 1 (.bool false))
  have k1' := mcs_set1 (mcs_set0 k1 PA pn pc) false
  replace k2 := k2.leftC gq (by omega)
  replace k3 := k3.leftC gq (by omega)
  replace k8 := k8.leftC gq (by omega)
  replace b := b.trans (below_grown gq (Nat.le_refl _) k1.lt)
  clear k1 gq
  have k1 := k1'
  clear k1'
  generalize (W4.setCell ⟨w.heap.size, 0, none⟩ (.slice PA pn pc)).setCell ⟨w.heap.size, 1, none⟩ (.bool false) = W5 at k1 k2 k3 k8 b ⊢
  obtain ⟨c0, c1, c2, c15, c16⟩ := mcs_cells k1 h12
  go_wp2_with (first | refine wpl_ldM rfl _ rfl w.heap.size rfl k1 h12 ?_ | refine wpl_stM (PA := PA) (pn := pn) (pc := pc) (br := false) (wt := false) (rq := rq) (OY := OY) (yn := yn) (yc := yc) (cl := false) rfl _ _ rfl (w.heap.size + 1) rfl rfl h12 k2 rfl ?_)
  intro w6 k6 g6
  replace k3 := k3.leftC g6 (by omega)
  replace b := b.trans (below_grown g6 (by omega) k2.lt)
  clear k2 g6
  go_wp2_with (first | refine wpl_stR (rq := zrq) rfl _ _ rfl (w.heap.size + 2) rfl rfl zrq12 k3 rfl ?_)
  intro w7 k7 g7
  replace k6 := k6.leftC g7 (by omega)
  replace b := b.trans (below_grown g7 (by omega) k3.lt)
  have HQ := Lib.hid b
  clear b k1 k3 g7
  clear c0 c1 c2 c15 c16 k8
  go_wp2_with fail
  refine bodyPost_ret (resMRt Try.results113 _ _ rfl rfl rfl k6 h12 k7 zrq12) rfl ?_
  exact ⟨rfl, HQ.out⟩
def MYesQ (OY : Option Addr) (yn yc : Nat) (N pn : Nat) (l : List UInt8) (q : RQ) (w : World) (e : Ending) (w' : World) : Prop := ∃ (K2 V2 : Option Addr) (nk2 ck2 nv2 cv2 : Nat) (X3 : Option Addr) (cx3 : Nat), e = .returned (.tuple #[.agg (mcs X3 (pn - N) cx3 false true (reqL q K2 nk2 ck2 V2 nv2 cv2) OY yn yc false), .agg (reqL q K2 nk2 ck2 V2 nv2 cv2).toArray, .bool true]) ∧ Own w' w.heap.size X3 (pn - N) cx3 (l.drop N) ∧ Own w' w.heap.size K2 nk2 ck2 q.lk ∧ Own w' w.heap.size V2 nv2 cv2 q.lv ∧ Below w.heap.size w w'
set_option maxRecDepth 100000 in
set_option maxHeartbeats 8000000 in
theorem mnext_yes (PA : Option Addr) (pn pc : Nat) (rq : List Value) (OY : Option Addr) (yn yc : Nat) (h12 : Rq12 rq) (l : List UInt8) (w : World) (r : Rd w w.heap.size PA pn pc l) (q : RQ) (N : Nat) (hx : nxt l = some (some (q, N))) (hn2 : pn ≤ 65536) : Calls Try.prog 113 #[.agg (mcs PA pn pc false false rq OY yn yc false)] w (MYesQ OY yn yc N pn l q w) := by
  have HF : Hid (∀ W, Below w.heap.size w W → Calls Try.prog 84 #[.agg #[.slice PA pn pc, .bool false]] W (RnYes N pn l q W)) := Lib.hid (fun W b => by
    have h3 := r.len
    obtain ⟨h1, h2, rfl, h4, h5⟩ := nx_yes hx
    exact rnext_yes PA pn pc l W ((r.below b).more b.size) (by omega) h2 (by omega) hn2 q h5)
  clear r hx hn2
  have k1 := Blk.new w (mcs PA pn pc false false rq OY yn yc false) 106
  have k2 := Blk.new (w.alloc (.cells (mcs PA pn pc false false rq OY yn yc false) 106)) #[.slice none 0 0, .bool false, .bool false, .int .i64 0, .bool false, .bool false, .int .i64 0, .int .u32 0, .slice none 0 0, .slice none 0 0, .int .u32 0, .int .u32 0, .int .u64 0, .int .u64 0, .int .u64 0, .slice none 0 0, .bool false] 106
  replace k1 := k1.alloc (.cells #[.slice none 0 0, .bool false, .bool false, .int .i64 0, .bool false, .bool false, .int .i64 0, .int .u32 0, .slice none 0 0, .slice none 0 0, .int .u32 0, .int .u32 0, .int .u64 0, .int .u64 0, .int .u64 0, .slice none 0 0, .bool false] 106)
  have k3 := Blk.new ((w.alloc (.cells (mcs PA pn pc false false rq OY yn yc false) 106)).alloc (.cells #[.slice none 0 0, .bool false, .bool false, .int .i64 0, .bool false, .bool false, .int .i64 0, .int .u32 0, .slice none 0 0, .slice none 0 0, .int .u32 0, .int .u32 0, .int .u64 0, .int .u64 0, .int .u64 0, .slice none 0 0, .bool false] 106)) #[.int .i64 0, .bool false, .bool false, .int .i64 0, .int .u32 0, .slice none 0 0, .slice none 0 0, .int .u32 0, .int .u32 0, .int .u64 0, .int .u64 0, .int .u64 0] 26
  replace k1 := k1.alloc (.cells #[.int .i64 0, .bool false, .bool false, .int .i64 0, .int .u32 0, .slice none 0 0, .slice none 0 0, .int .u32 0, .int .u32 0, .int .u64 0, .int .u64 0, .int .u64 0] 26)
  replace k2 := k2.alloc (.cells #[.int .i64 0, .bool false, .bool false, .int .i64 0, .int .u32 0, .slice none 0 0, .slice none 0 0, .int .u32 0, .int .u32 0, .int .u64 0, .int .u64 0, .int .u64 0] 26)
  have b := (below_a1' (below_a1' (below_a1' (Below.refl w.heap.size w) (.cells (mcs PA pn pc false false rq OY yn yc false) 106)) (.cells #[.slice none 0 0, .bool false, .bool false, .int .i64 0, .bool false, .bool false, .int .i64 0, .int .u32 0, .slice none 0 0, .slice none 0 0, .int .u32 0, .int .u32 0, .int .u64 0, .int .u64 0, .int .u64 0, .slice none 0 0, .bool false] 106)) (.cells #[.int .i64 0, .bool false, .bool false, .int .i64 0, .int .u32 0, .slice none 0 0, .slice none 0 0, .int .u32 0, .int .u32 0, .int .u64 0, .int .u64 0, .int .u64 0] 26))
  simp only [World.size_alloc] at k2 k3
  go_enter Try.func113, Try.ntmps113
  go_upto_region 1 with fail
  generalize (((w.alloc (.cells (mcs PA pn pc false false rq OY yn yc false) 106)).alloc (.cells #[.slice none 0 0, .bool false, .bool false, .int .i64 0, .bool false, .bool false, .int .i64 0, .int .u32 0, .slice none 0 0, .slice none 0 0, .int .u32 0, .int .u32 0, .int .u64 0, .int .u64 0, .int .u64 0, .slice none 0 0, .bool false] 106)).alloc (.cells #[.int .i64 0, .bool false, .bool false, .int .i64 0, .int .u32 0, .slice none 0 0, .slice none 0 0, .int .u32 0, .int .u32 0, .int .u64 0, .int .u64 0, .int .u64 0] 26)) = W0 at k1 k2 k3 b ⊢
  obtain ⟨c0, c1, c2, c15, c16⟩ := mcs_cells k1 h12
  go_wp2_with fail
  refine (HF.out W0 b).mono ?_
  rintro e w3 ⟨K2, V2, nk2, ck2, nv2, cv2, X3, cx3, rfl, o1, o2, o3, b3⟩
  have hB := k3.lt
  have hB3 := b3.size
  have hB3 : w.heap.size + 2 < w3.heap.size := by omega
  replace k1 := k1.step b3
  replace k2 := k2.step b3
  replace k3 := k3.step b3
  replace b := below_step b b3
  clear HF b3 c0 c1 c2 c15 c16
  obtain ⟨c0, c1, c2, c15, c16⟩ := mcs_cells k1 h12
  go_upto_region 6 with fail
  have ba := below_a1' (below_a1' (Below.refl w3.heap.size w3) (.cells #[.slice X3 (pn - N) cx3, .bool false] 47)) (.cells #[.int .i64 q.op, .bool q.qt, .bool q.fu, .int .i64 q.bd, .int .u32 (q.oq : Nat), .slice K2 nk2 ck2, .slice V2 nv2 cv2, .int .u32 (q.fl : Nat), .int .u32 (q.ex : Nat), .int .u64 (q.cs : Nat), .int .u64 (q.dl : Nat), .int .u64 (q.ni : Nat)] 26)
  have k5 := (Blk.new w3 #[.slice X3 (pn - N) cx3, .bool false] 47).alloc (.cells #[.int .i64 q.op, .bool q.qt, .bool q.fu, .int .i64 q.bd, .int .u32 (q.oq : Nat), .slice K2 nk2 ck2, .slice V2 nv2 cv2, .int .u32 (q.fl : Nat), .int .u32 (q.ex : Nat), .int .u64 (q.cs : Nat), .int .u64 (q.dl : Nat), .int .u64 (q.ni : Nat)] 26)
  have k8 := Blk.new (w3.alloc (.cells #[.slice X3 (pn - N) cx3, .bool false] 47)) #[.int .i64 q.op, .bool q.qt, .bool q.fu, .int .i64 q.bd, .int .u32 (q.oq : Nat), .slice K2 nk2 ck2, .slice V2 nv2 cv2, .int .u32 (q.fl : Nat), .int .u32 (q.ex : Nat), .int .u64 (q.cs : Nat), .int .u64 (q.dl : Nat), .int .u64 (q.ni : Nat)] 26
  rw [World.size_alloc] at k8
  replace k1 := k1.step ba
  replace k2 := k2.step ba
  replace k3 := k3.step ba
  replace b := below_step b ba
  replace o1 := o1.step ba
  replace o2 := o2.step ba
  replace o3 := o3.step ba
  clear ba c0 c1 c2 c15 c16
  generalize hW : (w3.alloc (.cells #[.slice X3 (pn - N) cx3, .bool false] 47)).alloc (.cells #[.int .i64 q.op, .bool q.qt, .bool q.fu, .int .i64 q.bd, .int .u32 (q.oq : Nat), .slice K2 nk2 ck2, .slice V2 nv2 cv2, .int .u32 (q.fl : Nat), .int .u32 (q.ex : Nat), .int .u64 (q.cs : Nat), .int .u64 (q.dl : Nat), .int .u64 (q.ni : Nat)] 26) = W4 at k1 k2 k3 k5 k8 b o1 o2 o3 ⊢
  clear hW
  generalize hg : w3.heap.size = g5 at hB3 k5 k8 ⊢
  clear hg
  obtain ⟨c0, c1, c2, c15, c16⟩ := mcs_cells k1 h12
  obtain ⟨v0, v1⟩ := box2 k5
  have x0 := k1.frozen 0
  have x1 := k1.frozen 1
  go_upto_region 7 with fail
  clear v0 v1 x0 x1 k5 c0 c1 c2 c15 c16
  have gq := grown_trans (rdr_grown_set W4 w.heap.size 0 (.slice X3 (pn - N) cx3)) (rdr_grown_set _ w.heap.size 1 (.bool false))
  have k1' := mcs_set1 (mcs_set0 k1 X3 (pn - N) cx3) false
  replace k2 := k2.leftC gq (by omega)
  replace k3 := k3.leftC gq (by omega)
  replace k8 := k8.leftC gq (by omega)
  replace o1 := o1.kept gq (by omega)
  replace o2 := o2.kept gq (by omega)
  replace o3 := o3.kept gq (by omega)
  replace b := b.trans (below_grown gq (Nat.le_refl _) k1.lt)
  clear k1 gq
  have k1 := k1'
  clear k1'
  generalize (W4.setCell ⟨w.heap.size, 0, none⟩ (.slice X3 (pn - N) cx3)).setCell ⟨w.heap.size, 1, none⟩ (.bool false) = W5 at k1 k2 k3 k8 b o1 o2 o3 ⊢
  have q12 := reqL12 q K2 nk2 ck2 V2 nv2 cv2
  have hWB : w.heap.size + 2 < W0.heap.size := hB
  go_upto_region 11 with fail
  have hg5 : g5 + 1 ≠ w.heap.size := by omega
  refine wp_region_noPanic ?_
  refine region_T (fun wx => Blk wx (g5 + 1) (reqL q K2 nk2 ck2 V2 nv2 cv2).toArray 26) 5 (by kernel_rfl) ?_
  have bD : Below W5.heap.size W5 W5.drew := (Below.refl _ _).drew
  replace k1 := k1.step bD
  replace k2 := k2.step bD
  replace k3 := k3.step bD
  replace k8 := k8.step bD
  replace o1 := o1.step bD
  replace o2 := o2.step bD
  replace o3 := o3.step bD
  replace b := below_step b bD
  clear bD
  have hHeld : Blk W5.drew (g5 + 1) (reqL q K2 nk2 ck2 V2 nv2 cv2).toArray 26 := k8
  clear k8
  generalize W5.drew = Y0 at k1 k2 k3 o1 o2 o3 b hHeld ⊢
  refine takeA (i := 0) rfl (fun _ _ _ h => h) (yi_ldR (rq := (reqL q K2 nk2 ck2 V2 nv2 cv2)) rfl _ rfl (g5 + 1) rfl q12 (fun _ h => h)) hHeld ?_
  try simp only [Act.put, List.setIfInBounds_toArray, List.set_cons_zero, List.set_cons_succ]
  refine takeA (i := 1) (v := ?_) rfl (fun _ _ _ h => h) (Or.inl ⟨by rfl, ?_⟩) hHeld ?_
  rotate_left
  · (intro wx hSw; go_simp; try (with_reducible rfl))
  try simp only [Act.put, List.setIfInBounds_toArray, List.set_cons_zero, List.set_cons_succ]
  refine oneT (i := 2) rfl (by kernel_rfl) (fun KK hK => ?_)
  obtain ⟨c0, c1, c2, c15, c16⟩ := mcs_cells k1 h12
  have x2 := k1.frozen 2
  go_simp
  have gq := rdr_grown_set Y0 w.heap.size 2 (.bool true)
  have k1' := mcs_set2 k1 true
  replace hHeld := hHeld.leftC gq hg5
  replace k2 := k2.leftC gq (by omega)
  replace k3 := k3.leftC gq (by omega)
  replace o1 := o1.kept gq (by omega)
  replace o2 := o2.kept gq (by omega)
  replace o3 := o3.kept gq (by omega)
  replace b := b.trans (below_grown gq (Nat.le_refl _) k1.lt)
  clear gq k1 x2 c0 c1 c2 c15 c16
  have k1 := k1'
  clear k1'
  generalize Y0.setCell ⟨w.heap.size, 2, none⟩ (.bool true) = Y1 at k1 k2 k3 o1 o2 o3 b hHeld ⊢
  refine hK.out _ _ (fun _ => hHeld) ?_
  clear hK KK
  try simp only [Act.put, List.setIfInBounds_toArray, List.set_cons_zero, List.set_cons_succ]
  refine takeA (i := 3) (v := ?_) rfl (fun _ _ _ h => h) (Or.inl ⟨by rfl, ?_⟩) hHeld ?_
  rotate_left
  · (intro wx hSw; go_simp; try (with_reducible rfl))
  try simp only [Act.put, List.setIfInBounds_toArray, List.set_cons_zero, List.set_cons_succ]
  refine oneT (i := 4) rfl (by kernel_rfl) (fun KK hK => ?_)
  refine step_stQ rfl _ _ rfl w.heap.size rfl (reqL q K2 nk2 ck2 V2 nv2 cv2) rfl h12 q12 k1 (fun Y2 k1' gq => ?_)
  replace hHeld := hHeld.leftC gq hg5
  replace k2 := k2.leftC gq (by omega)
  replace k3 := k3.leftC gq (by omega)
  replace o1 := o1.kept gq (by omega)
  replace o2 := o2.kept gq (by omega)
  replace o3 := o3.kept gq (by omega)
  replace b := b.trans (below_grown gq (Nat.le_refl _) k1.lt)
  clear gq k1
  have k1 := k1'
  clear k1'
  refine hK.out _ _ (fun _ => hHeld) ?_
  clear hK KK
  try simp only [Act.put, List.setIfInBounds_toArray, List.set_cons_zero, List.set_cons_succ]
  refine doneT (by kernel_rfl) ?_ _
  refine NoPanic.normal ?_
  have k8 := hHeld
  clear hHeld
  go_upto_region 12 with fail
  refine wp_region_noPanic ?_
  refine region_T (fun wx => Blk wx w.heap.size (mcs X3 (pn - N) cx3 false true (reqL q K2 nk2 ck2 V2 nv2 cv2) OY yn yc false) 106 ∧ Blk wx (g5 + 1) (reqL q K2 nk2 ck2 V2 nv2 cv2).toArray 26) 5 (by kernel_rfl) ?_
  have bD : Below Y2.heap.size Y2 Y2.drew := (Below.refl _ _).drew
  replace k1 := k1.step bD
  replace k2 := k2.step bD
  replace k3 := k3.step bD
  replace k8 := k8.step bD
  replace o1 := o1.step bD
  replace o2 := o2.step bD
  replace o3 := o3.step bD
  replace b := below_step b bD
  clear bD
  have hHeld := And.intro k1 k8
  generalize Y2.drew = Y3 at k1 k2 k3 k8 o1 o2 o3 b hHeld ⊢
  refine takeA (i := 0) rfl (fun _ _ _ h => h) (yi_ldM rfl _ rfl w.heap.size rfl q12 (fun _ h => h.1)) hHeld ?_
  try simp only [Act.put, List.setIfInBounds_toArray, List.set_cons_zero, List.set_cons_succ]
  refine takeA (i := 1) rfl (fun _ _ _ h => h) (yi_ldR (rq := (reqL q K2 nk2 ck2 V2 nv2 cv2)) rfl _ rfl (g5 + 1) rfl q12 (fun _ h => h.2)) hHeld ?_
  try simp only [Act.put, List.setIfInBounds_toArray, List.set_cons_zero, List.set_cons_succ]
  refine oneT (i := 2) rfl (by kernel_rfl) (fun KK hK => ?_)
  refine step_stM (PA := X3) (pn := (pn - N)) (pc := cx3) (br := false) (wt := true) (rq := (reqL q K2 nk2 ck2 V2 nv2 cv2)) (OY := OY) (yn := yn) (yc := yc) (cl := false) rfl _ _ rfl (w.heap.size + 1) rfl rfl q12 k2 rfl (fun Y4 k6 g6 => ?_)
  clear hHeld
  replace k1 := k1.leftC g6 (by omega)
  replace k8 := k8.leftC g6 (by omega)
  replace o1 := o1.kept g6 (by omega)
  replace o2 := o2.kept g6 (by omega)
  replace o3 := o3.kept g6 (by omega)
  replace k3 := k3.leftC g6 (by omega)
  replace b := b.trans (below_grown g6 (by omega) k2.lt)
  have hHeld := And.intro k1 k8
  clear g6 k2
  refine hK.out _ _ (fun _ => hHeld) ?_
  clear hK KK
  try simp only [Act.put, List.setIfInBounds_toArray, List.set_cons_zero, List.set_cons_succ]
  refine oneT (i := 3) rfl (by kernel_rfl) (fun KK hK => ?_)
  refine step_stR (rq := (reqL q K2 nk2 ck2 V2 nv2 cv2)) rfl _ _ rfl (w.heap.size + 2) rfl rfl q12 k3 rfl (fun Y5 k7 g7 => ?_)
  clear hHeld
  replace k1 := k1.leftC g7 (by omega)
  replace k8 := k8.leftC g7 (by omega)
  replace o1 := o1.kept g7 (by omega)
  replace o2 := o2.kept g7 (by omega)
  replace o3 := o3.kept g7 (by omega)
  replace k6 := k6.leftC g7 (by omega)
  replace b := b.trans (below_grown g7 (by omega) k3.lt)
  have hHeld := And.intro k1 k8
  clear g7 k3
  refine hK.out _ _ (fun _ => hHeld) ?_
  clear hK KK
  try simp only [Act.put, List.setIfInBounds_toArray, List.set_cons_zero, List.set_cons_succ]
  refine takeA (i := 4) (v := ?_) rfl (fun _ _ _ h => h) (Or.inl ⟨by rfl, ?_⟩) hHeld ?_
  rotate_left
  · (intro wx hSw; go_simp; try (with_reducible rfl))
  try simp only [Act.put, List.setIfInBounds_toArray, List.set_cons_zero, List.set_cons_succ]
  refine doneT (by kernel_rfl) ?_ _
  refine NoPanic.normal ?_
  clear hHeld
  have HQ := Lib.hid (And.intro (o1.more (B' := w.heap.size) (by omega)) (And.intro (o2.more (B' := w.heap.size) (by omega)) (And.intro (o3.more (B' := w.heap.size) (by omega)) b)))
  clear b k1 k8 o1 o2 o3
  go_wp2_with fail
  refine bodyPost_ret (resMRt Try.results113 _ _ rfl rfl rfl k6 q12 k7 q12) rfl ?_
  exact ⟨K2, V2, nk2, ck2, nv2, cv2, X3, cx3, rfl, HQ.out.1, HQ.out.2.1, HQ.out.2.2.1, HQ.out.2.2.2⟩
def MBadQ (lo : List UInt8) (yn : Nat) (w : World) (e : Ending) (w' : World) : Prop := ∃ (A' : Option Addr) (c' : Nat), e = .returned (.tuple #[.agg (mcs none 0 0 false false zrq A' (yn + malB.length) c' true), .agg zrq.toArray, .bool false]) ∧ Own w' w.heap.size A' (yn + malB.length) c' (lo ++ malB) ∧ Below w.heap.size w w'
set_option maxRecDepth 100000 in
set_option maxHeartbeats 8000000 in
theorem mnext_bad (PA : Option Addr) (pn pc : Nat) (rq : List Value) (OY : Option Addr) (yn yc : Nat) (h12 : Rq12 rq) (l lo : List UInt8) (w : World) (r : Rd w w.heap.size PA pn pc l) (hx : nxt l = none) (ry : Rd w w.heap.size OY yn yc lo) (hyn : yn ≤ 100000000000) : Calls Try.prog 113 #[.agg (mcs PA pn pc false false rq OY yn yc false)] w (MBadQ lo yn w) := by
  have HP : Hid (∀ W, Below w.heap.size w W → ∀ A n c, Own W w.heap.size A n c malB → Calls Try.prog 128 #[.agg (mcs none 0 0 true false rq OY yn yc false), .slice A n c] W (MPutQ none 0 0 true false rq false (yn + n) (lo ++ malB) W)) := Lib.hid (fun W b A n c ow => mput_any none 0 0 true false rq OY yn yc false h12 lo A n c malB W ((ry.below b).more b.size) ow.rd (by have := ow.len; have := mal_len; omega))
  clear ry hyn
  have HF : Hid (∀ W, Below w.heap.size w W → Calls Try.prog 84 #[.agg #[.slice PA pn pc, .bool false]] W (RnNo none 0 0 true 300 W)) := Lib.hid (fun W b => by
    have h3 := r.len
    obtain ⟨h1, h2⟩ := nx_none hx
    exact rnext_bad PA pn pc l W ((r.below b).more b.size) (by omega) h2)
  clear r hx
  have k1 := Blk.new w (mcs PA pn pc false false rq OY yn yc false) 106
  have k2 := Blk.new (w.alloc (.cells (mcs PA pn pc false false rq OY yn yc false) 106)) #[.slice none 0 0, .bool false, .bool false, .int .i64 0, .bool false, .bool false, .int .i64 0, .int .u32 0, .slice none 0 0, .slice none 0 0, .int .u32 0, .int .u32 0, .int .u64 0, .int .u64 0, .int .u64 0, .slice none 0 0, .bool false] 106
  replace k1 := k1.alloc (.cells #[.slice none 0 0, .bool false, .bool false, .int .i64 0, .bool false, .bool false, .int .i64 0, .int .u32 0, .slice none 0 0, .slice none 0 0, .int .u32 0, .int .u32 0, .int .u64 0, .int .u64 0, .int .u64 0, .slice none 0 0, .bool false] 106)
  have k3 := Blk.new ((w.alloc (.cells (mcs PA pn pc false false rq OY yn yc false) 106)).alloc (.cells #[.slice none 0 0, .bool false, .bool false, .int .i64 0, .bool false, .bool false, .int .i64 0, .int .u32 0, .slice none 0 0, .slice none 0 0, .int .u32 0, .int .u32 0, .int .u64 0, .int .u64 0, .int .u64 0, .slice none 0 0, .bool false] 106)) #[.int .i64 0, .bool false, .bool false, .int .i64 0, .int .u32 0, .slice none 0 0, .slice none 0 0, .int .u32 0, .int .u32 0, .int .u64 0, .int .u64 0, .int .u64 0] 26
  replace k1 := k1.alloc (.cells #[.int .i64 0, .bool false, .bool false, .int .i64 0, .int .u32 0, .slice none 0 0, .slice none 0 0, .int .u32 0, .int .u32 0, .int .u64 0, .int .u64 0, .int .u64 0] 26)
  replace k2 := k2.alloc (.cells #[.int .i64 0, .bool false, .bool false, .int .i64 0, .int .u32 0, .slice none 0 0, .slice none 0 0, .int .u32 0, .int .u32 0, .int .u64 0, .int .u64 0, .int .u64 0] 26)
  have b := (below_a1' (below_a1' (below_a1' (Below.refl w.heap.size w) (.cells (mcs PA pn pc false false rq OY yn yc false) 106)) (.cells #[.slice none 0 0, .bool false, .bool false, .int .i64 0, .bool false, .bool false, .int .i64 0, .int .u32 0, .slice none 0 0, .slice none 0 0, .int .u32 0, .int .u32 0, .int .u64 0, .int .u64 0, .int .u64 0, .slice none 0 0, .bool false] 106)) (.cells #[.int .i64 0, .bool false, .bool false, .int .i64 0, .int .u32 0, .slice none 0 0, .slice none 0 0, .int .u32 0, .int .u32 0, .int .u64 0, .int .u64 0, .int .u64 0] 26))
  simp only [World.size_alloc] at k2 k3
  go_enter Try.func113, Try.ntmps113
  go_upto_region 1 with fail
  generalize (((w.alloc (.cells (mcs PA pn pc false false rq OY yn yc false) 106)).alloc (.cells #[.slice none 0 0, .bool false, .bool false, .int .i64 0, .bool false, .bool false, .int .i64 0, .int .u32 0, .slice none 0 0, .slice none 0 0, .int .u32 0, .int .u32 0, .int .u64 0, .int .u64 0, .int .u64 0, .slice none 0 0, .bool false] 106)).alloc (.cells #[.int .i64 0, .bool false, .bool false, .int .i64 0, .int .u32 0, .slice none 0 0, .slice none 0 0, .int .u32 0, .int .u32 0, .int .u64 0, .int .u64 0, .int .u64 0] 26)) = W0 at k1 k2 k3 b ⊢
  obtain ⟨c0, c1, c2, c15, c16⟩ := mcs_cells k1 h12
  go_wp2_with fail
  refine (HF.out W0 b).mono ?_
  rintro e w3 ⟨rfl, b3⟩
  have hB := k3.lt
  have hB3 := b3.size
  have hB3 : w.heap.size + 2 < w3.heap.size := by omega
  replace k1 := k1.step b3
  replace k2 := k2.step b3
  replace k3 := k3.step b3
  replace b := below_step b b3
  clear HF b3 c0 c1 c2 c15 c16
  obtain ⟨c0, c1, c2, c15, c16⟩ := mcs_cells k1 h12
  go_upto_region 6 with fail
  have ba := below_a1' (below_a1' (Below.refl w3.heap.size w3) (.cells #[.slice none 0 0, .bool true] 47)) (.cells #[.int .i64 0, .bool false, .bool false, .int .i64 0, .int .u32 0, .slice none 0 0, .slice none 0 0, .int .u32 0, .int .u32 0, .int .u64 0, .int .u64 0, .int .u64 0] 26)
  have k5 := (Blk.new w3 #[.slice none 0 0, .bool true] 47).alloc (.cells #[.int .i64 0, .bool false, .bool false, .int .i64 0, .int .u32 0, .slice none 0 0, .slice none 0 0, .int .u32 0, .int .u32 0, .int .u64 0, .int .u64 0, .int .u64 0] 26)
  have k8 := Blk.new (w3.alloc (.cells #[.slice none 0 0, .bool true] 47)) #[.int .i64 0, .bool false, .bool false, .int .i64 0, .int .u32 0, .slice none 0 0, .slice none 0 0, .int .u32 0, .int .u32 0, .int .u64 0, .int .u64 0, .int .u64 0] 26
  rw [World.size_alloc] at k8
  replace k1 := k1.step ba
  replace k2 := k2.step ba
  replace k3 := k3.step ba
  replace b := below_step b ba
  clear ba c0 c1 c2 c15 c16
  generalize hW : (w3.alloc (.cells #[.slice none 0 0, .bool true] 47)).alloc (.cells #[.int .i64 0, .bool false, .bool false, .int .i64 0, .int .u32 0, .slice none 0 0, .slice none 0 0, .int .u32 0, .int .u32 0, .int .u64 0, .int .u64 0, .int .u64 0] 26) = W4 at k1 k2 k3 k5 k8 b ⊢
  clear hW
  generalize hg : w3.heap.size = g5 at hB3 k5 k8 ⊢
  clear hg
  obtain ⟨c0, c1, c2, c15, c16⟩ := mcs_cells k1 h12
  obtain ⟨v0, v1⟩ := box2 k5
  have x0 := k1.frozen 0
  have x1 := k1.frozen 1
  go_upto_region 7 with fail
  clear v0 v1 x0 x1 k5 c0 c1 c2 c15 c16
  have gq := grown_trans (rdr_grown_set W4 w.heap.size 0 (.slice none 0 0)) (rdr_grown_set _ w.heap.size 1 (.bool true))
  have k1' := mcs_set1 (mcs_set0 k1 none 0 0) true
  replace k2 := k2.leftC gq (by omega)
  replace k3 := k3.leftC gq (by omega)
  replace k8 := k8.leftC gq (by omega)
  replace b := b.trans (below_grown gq (Nat.le_refl _) k1.lt)
  clear k1 gq
  have k1 := k1'
  clear k1'
  generalize (W4.setCell ⟨w.heap.size, 0, none⟩ (.slice none 0 0)).setCell ⟨w.heap.size, 1, none⟩ (.bool true) = W5 at k1 k2 k3 k8 b ⊢
  go_upto_region 8 with fail
  clear k8
  refine wp_region_noPanic ?_
  refine region_T (fun wx => Blk wx w.heap.size (mcs none 0 0 true false rq OY yn yc false) 106) 8 (by kernel_rfl) ?_
  have bD : Below W5.heap.size W5 W5.drew := (Below.refl _ _).drew
  replace k1 := k1.step bD
  replace k2 := k2.step bD
  replace k3 := k3.step bD
  replace b := below_step b bD
  clear bD
  have hHeld := k1
  clear k1
  generalize W5.drew = Y0 at k2 k3 b hHeld ⊢
  refine takeA (i := 0) rfl (fun _ _ _ h => h) (yi_ldM rfl _ rfl w.heap.size rfl h12 (fun _ h => h)) hHeld ?_
  try simp only [Act.put, List.setIfInBounds_toArray, List.set_cons_zero, List.set_cons_succ]
  refine takeA (i := 4) (v := ?_) rfl (fun _ _ _ h => h) (Or.inl ⟨by rfl, ?_⟩) hHeld ?_
  rotate_left
  · (intro wx hSw; go_simp; try (with_reducible rfl))
  try simp only [Act.put, List.setIfInBounds_toArray, List.set_cons_zero, List.set_cons_succ]
  refine oneT (i := 1) rfl (by kernel_rfl) (fun KK hK => ?_)
  have hYs := b.size
  go_simp
  refine (mal_any Y0).mono ?_
  rintro e Y1 ⟨Nm, Am, cm, rfl, om, b1⟩
  replace hHeld := hHeld.step b1
  replace k2 := k2.step b1
  replace k3 := k3.step b1
  replace b := below_step b b1
  replace om := om.more (B' := w.heap.size) (by have := hYs; omega)
  clear b1
  refine hK.out _ _ (fun _ => hHeld) ?_
  clear hK KK
  try simp only [Act.put, List.setIfInBounds_toArray, List.set_cons_zero, List.set_cons_succ]
  refine oneT (i := 2) rfl (by kernel_rfl) (fun KK hK => ?_)
  go_simp
  refine (HP.out Y1 b Am Nm cm om).mono ?_
  have hb1 := k3.lt
  rintro e Y2 ⟨A5, c5, rfl, o5, b1⟩
  have hml := om.len
  subst hml
  replace hHeld := hHeld.step b1
  replace k2 := k2.step b1
  replace k3 := k3.step b1
  replace b := below_step b b1
  have hY1 : w.heap.size + 2 < Y1.heap.size := hb1
  replace o5 := o5.more (B' := w.heap.size + 3) hY1
  clear b1 om HP
  refine hK.out _ _ (fun _ => hHeld) ?_
  clear hK KK
  try simp only [Act.put, List.setIfInBounds_toArray, List.set_cons_zero, List.set_cons_succ]
  refine oneT (i := 3) rfl (by kernel_rfl) (fun KK hK => ?_)
  go_simp
  refine (mclose_any none 0 0 true false rq A5 (yn + malB.length) c5 false h12 Y2).mono ?_
  rintro e Y3 ⟨rfl, b1⟩
  replace hHeld := hHeld.step b1
  replace k2 := k2.step b1
  replace k3 := k3.step b1
  replace b := below_step b b1
  replace o5 := o5.step b1
  clear b1
  refine hK.out _ _ (fun _ => hHeld) ?_
  clear hK KK
  try simp only [Act.put, List.setIfInBounds_toArray, List.set_cons_zero, List.set_cons_succ]
  refine oneT (i := 5) rfl (by kernel_rfl) (fun KK hK => ?_)
  refine step_stM (PA := none) (pn := 0) (pc := 0) (br := false) (wt := false) (rq := zrq) (OY := A5) (yn := (yn + malB.length)) (yc := c5) (cl := true) rfl _ _ rfl (w.heap.size + 1) rfl rfl zrq12 k2 rfl (fun Y4 k6 g6 => ?_)
  replace hHeld := hHeld.leftC g6 (by omega)
  replace k3 := k3.leftC g6 (by omega)
  replace o5 := o5.kept g6 (by omega)
  replace b := b.trans (below_grown g6 (by omega) k2.lt)
  clear g6 k2
  refine hK.out _ _ (fun _ => hHeld) ?_
  clear hK KK
  try simp only [Act.put, List.setIfInBounds_toArray, List.set_cons_zero, List.set_cons_succ]
  refine oneT (i := 6) rfl (by kernel_rfl) (fun KK hK => ?_)
  refine step_stR (rq := zrq) rfl _ _ rfl (w.heap.size + 2) rfl rfl zrq12 k3 rfl (fun Y5 k7 g7 => ?_)
  replace hHeld := hHeld.leftC g7 (by omega)
  replace k6 := k6.leftC g7 (by omega)
  replace o5 := o5.kept g7 (by omega)
  replace b := b.trans (below_grown g7 (by omega) k3.lt)
  clear g7 k3
  refine hK.out _ _ (fun _ => hHeld) ?_
  clear hK KK
  try simp only [Act.put, List.setIfInBounds_toArray, List.set_cons_zero, List.set_cons_succ]
  refine takeA (i := 7) (v := ?_) rfl (fun _ _ _ h => h) (Or.inl ⟨by rfl, ?_⟩) hHeld ?_
  rotate_left
  · (intro wx hSw; go_simp; try (with_reducible rfl))
  try simp only [Act.put, List.setIfInBounds_toArray, List.set_cons_zero, List.set_cons_succ]
  refine doneT (by kernel_rfl) ?_ _
  refine NoPanic.normal ?_
  clear hHeld
  have HQ := Lib.hid (And.intro (o5.more (B' := w.heap.size) (by omega)) b)
  clear b o5
  go_wp2_with fail
  refine bodyPost_ret (resMRt Try.results113 _ _ rfl rfl rfl k6 zrq12 k7 zrq12) rfl ?_
  exact ⟨A5, c5, rfl, HQ.out.1, HQ.out.2⟩
end
section
set_option linter.unusedSimpArgs false
open Go.RowKit
def ansL (st : Int) (VA : Option Addr) (nva cva af ac an : Nat) (SA : Option Addr) (ns sc : Nat) (cl : Bool) : List Value := [.int .i64 st, .slice VA nva cva, .int .u32 (af : Nat), .int .u64 (ac : Nat), .int .u64 (an : Nat), .slice SA ns sc, .bool cl]
theorem szAns : (Try.prog.info? 29).map (·.size) = some 7 := by kernel_rfl
theorem undAns : ∃ fs, Try.prog.underlying 29 = some (.struct fs) := ⟨_, Try.underlying29⟩
section
variable {ops : Array Oper} {rest : List Oper} {o : Oper} {a : Act} {w : World} {K : Act → World → Prop} {Q : Exit → Act → World → Prop} {S : World → Prop} {rq ac : List Value}
theorem wpg_ldR (hw : Region.wanted o (yielded ops a.tmps) = true) (x : Operand) (ho : o.op = .load 26 x) (g : Nat) (hx : a.eval x = .pointer (some ⟨g, 0, none⟩)) (k : Blk w g rq.toArray 26) (h12 : Rq12 rq)
    (h : wpList Try.prog ops Q rest (a.put o.dst (.agg rq.toArray)) w) : wpList Try.prog ops Q (o :: rest) a w := by
  obtain ⟨fs, hu⟩ := undRq
  exact wpList_want hw fun K hK => wp_load_row _ x ho g hx _ _ (0, 0) _ k hu rfl (by rw [List.size_toArray, h12.1]; exact szRq) (hK _ _ h)
theorem wpg_ldA (hw : Region.wanted o (yielded ops a.tmps) = true) (x : Operand) (ho : o.op = .load 29 x) (g : Nat) (hx : a.eval x = .pointer (some ⟨g, 0, none⟩)) (k : Blk w g ac.toArray 29) (h7 : ac.length = 7)
    (h : wpList Try.prog ops Q rest (a.put o.dst (.agg ac.toArray)) w) : wpList Try.prog ops Q (o :: rest) a w := by
  obtain ⟨fs, hu⟩ := undAns
  exact wpList_want hw fun K hK => wp_load_row _ x ho g hx _ _ (0, 0) _ k hu rfl (by rw [List.size_toArray, h7]; exact szAns) (hK _ _ h)
end
theorem ansL6 {w : World} {g : Nat} {T : TypeId} {st : Int} {VA : Option Addr} {nva cva af ac an : Nat} {SA : Option Addr} {ns sc : Nat} {cl : Bool} (k : Blk w g (ansL st VA nva cva af ac an SA ns sc cl).toArray T) : w.cell? ⟨g, 6, none⟩ = some (.bool cl) := cell_of_row w g 6 _ _ (0, 0) k
set_option maxRecDepth 100000 in
set_option maxHeartbeats 4000000 in
theorem manswer_closed (PA : Option Addr) (pn pc : Nat) (br wt : Bool) (rq : List Value) (OY : Option Addr) (yn yc : Nat) (h12 : Rq12 rq) (rq2 : List Value) (an : List Value) (w : World) : Calls Try.prog 114 #[.agg (mcs PA pn pc br wt rq OY yn yc true), .agg rq2.toArray, .agg an.toArray] w fun e w' => e = .returned (.tuple #[.agg (mcs PA pn pc br wt rq OY yn yc true), .int .i64 320]) ∧ Below w.heap.size w w' := by
  have k1 := Blk.new w (mcs PA pn pc br wt rq OY yn yc true) 106
  have k2 := Blk.new (w.alloc (.cells (mcs PA pn pc br wt rq OY yn yc true) 106)) rq2.toArray 26
  replace k1 := k1.alloc (.cells rq2.toArray 26)
  have k3 := Blk.new ((w.alloc (.cells (mcs PA pn pc br wt rq OY yn yc true) 106)).alloc (.cells rq2.toArray 26)) an.toArray 29
  replace k1 := k1.alloc (.cells an.toArray 29)
  replace k2 := k2.alloc (.cells an.toArray 29)
  have k4 := Blk.new (((w.alloc (.cells (mcs PA pn pc br wt rq OY yn yc true) 106)).alloc (.cells rq2.toArray 26)).alloc (.cells an.toArray 29)) #[.slice none 0 0, .bool false, .bool false, .int .i64 0, .bool false, .bool false, .int .i64 0, .int .u32 0, .slice none 0 0, .slice none 0 0, .int .u32 0, .int .u32 0, .int .u64 0, .int .u64 0, .int .u64 0, .slice none 0 0, .bool false] 106
  replace k1 := k1.alloc (.cells #[.slice none 0 0, .bool false, .bool false, .int .i64 0, .bool false, .bool false, .int .i64 0, .int .u32 0, .slice none 0 0, .slice none 0 0, .int .u32 0, .int .u32 0, .int .u64 0, .int .u64 0, .int .u64 0, .slice none 0 0, .bool false] 106)
  replace k2 := k2.alloc (.cells #[.slice none 0 0, .bool false, .bool false, .int .i64 0, .bool false, .bool false, .int .i64 0, .int .u32 0, .slice none 0 0, .slice none 0 0, .int .u32 0, .int .u32 0, .int .u64 0, .int .u64 0, .int .u64 0, .slice none 0 0, .bool false] 106)
  replace k3 := k3.alloc (.cells #[.slice none 0 0, .bool false, .bool false, .int .i64 0, .bool false, .bool false, .int .i64 0, .int .u32 0, .slice none 0 0, .slice none 0 0, .int .u32 0, .int .u32 0, .int .u64 0, .int .u64 0, .int .u64 0, .slice none 0 0, .bool false] 106)
  have b := (below_a1' (below_a1' (below_a1' (below_a1' (Below.refl w.heap.size w) (.cells (mcs PA pn pc br wt rq OY yn yc true) 106)) (.cells rq2.toArray 26)) (.cells an.toArray 29)) (.cells #[.slice none 0 0, .bool false, .bool false, .int .i64 0, .bool false, .bool false, .int .i64 0, .int .u32 0, .slice none 0 0, .slice none 0 0, .int .u32 0, .int .u32 0, .int .u64 0, .int .u64 0, .int .u64 0, .slice none 0 0, .bool false] 106))
  simp only [World.size_alloc] at k2 k3 k4
  go_enter Try.func114, Try.ntmps114
  go_upto_region 1 with fail
  generalize ((((w.alloc (.cells (mcs PA pn pc br wt rq OY yn yc true) 106)).alloc (.cells rq2.toArray 26)).alloc (.cells an.toArray 29)).alloc (.cells #[.slice none 0 0, .bool false, .bool false, .int .i64 0, .bool false, .bool false, .int .i64 0, .int .u32 0, .slice none 0 0, .slice none 0 0, .int .u32 0, .int .u32 0, .int .u64 0, .int .u64 0, .int .u64 0, .slice none 0 0, .bool false] 106)) = W0 at k1 k2 k3 k4 b ⊢
  obtain ⟨c0, c1, c2, c15, c16⟩ := mcs_cells k1 h12
  go_wp2_with (first | refine wpl_ldM rfl _ rfl w.heap.size rfl k1 h12 ?_ | refine wpl_stM (PA := PA) (pn := pn) (pc := pc) (br := br) (wt := wt) (rq := rq) (OY := OY) (yn := yn) (yc := yc) (cl := true) rfl _ _ rfl (w.heap.size + 3) rfl rfl h12 k4 rfl ?_)
  intro w6 k6 g6
  have HQ := Lib.hid ((b.trans (below_grown g6 (by omega) k4.lt)))
  clear b k1 k2 k3 k4 g6 c0 c1 c2 c15 c16
  go_wp2_with fail
  refine bodyPost_ret (resMt Try.results114 _ _ rfl rfl k6 h12) rfl ?_
  exact ⟨rfl, HQ.out⟩
set_option maxRecDepth 100000 in
set_option maxHeartbeats 4000000 in
theorem manswer_none (PA : Option Addr) (pn pc : Nat) (br : Bool) (rq : List Value) (OY : Option Addr) (yn yc : Nat) (h12 : Rq12 rq) (rq2 : List Value) (an : List Value) (w : World) : Calls Try.prog 114 #[.agg (mcs PA pn pc br false rq OY yn yc false), .agg rq2.toArray, .agg an.toArray] w fun e w' => e = .returned (.tuple #[.agg (mcs PA pn pc br false rq OY yn yc false), .int .i64 4]) ∧ Below w.heap.size w w' := by
  have k1 := Blk.new w (mcs PA pn pc br false rq OY yn yc false) 106
  have k2 := Blk.new (w.alloc (.cells (mcs PA pn pc br false rq OY yn yc false) 106)) rq2.toArray 26
  replace k1 := k1.alloc (.cells rq2.toArray 26)
  have k3 := Blk.new ((w.alloc (.cells (mcs PA pn pc br false rq OY yn yc false) 106)).alloc (.cells rq2.toArray 26)) an.toArray 29
  replace k1 := k1.alloc (.cells an.toArray 29)
  replace k2 := k2.alloc (.cells an.toArray 29)
  have k4 := Blk.new (((w.alloc (.cells (mcs PA pn pc br false rq OY yn yc false) 106)).alloc (.cells rq2.toArray 26)).alloc (.cells an.toArray 29)) #[.slice none 0 0, .bool false, .bool false, .int .i64 0, .bool false, .bool false, .int .i64 0, .int .u32 0, .slice none 0 0, .slice none 0 0, .int .u32 0, .int .u32 0, .int .u64 0, .int .u64 0, .int .u64 0, .slice none 0 0, .bool false] 106
  replace k1 := k1.alloc (.cells #[.slice none 0 0, .bool false, .bool false, .int .i64 0, .bool false, .bool false, .int .i64 0, .int .u32 0, .slice none 0 0, .slice none 0 0, .int .u32 0, .int .u32 0, .int .u64 0, .int .u64 0, .int .u64 0, .slice none 0 0, .bool false] 106)
  replace k2 := k2.alloc (.cells #[.slice none 0 0, .bool false, .bool false, .int .i64 0, .bool false, .bool false, .int .i64 0, .int .u32 0, .slice none 0 0, .slice none 0 0, .int .u32 0, .int .u32 0, .int .u64 0, .int .u64 0, .int .u64 0, .slice none 0 0, .bool false] 106)
  replace k3 := k3.alloc (.cells #[.slice none 0 0, .bool false, .bool false, .int .i64 0, .bool false, .bool false, .int .i64 0, .int .u32 0, .slice none 0 0, .slice none 0 0, .int .u32 0, .int .u32 0, .int .u64 0, .int .u64 0, .int .u64 0, .slice none 0 0, .bool false] 106)
  have b := (below_a1' (below_a1' (below_a1' (below_a1' (Below.refl w.heap.size w) (.cells (mcs PA pn pc br false rq OY yn yc false) 106)) (.cells rq2.toArray 26)) (.cells an.toArray 29)) (.cells #[.slice none 0 0, .bool false, .bool false, .int .i64 0, .bool false, .bool false, .int .i64 0, .int .u32 0, .slice none 0 0, .slice none 0 0, .int .u32 0, .int .u32 0, .int .u64 0, .int .u64 0, .int .u64 0, .slice none 0 0, .bool false] 106))
  simp only [World.size_alloc] at k2 k3 k4
  go_enter Try.func114, Try.ntmps114
  go_upto_region 1 with fail
  generalize ((((w.alloc (.cells (mcs PA pn pc br false rq OY yn yc false) 106)).alloc (.cells rq2.toArray 26)).alloc (.cells an.toArray 29)).alloc (.cells #[.slice none 0 0, .bool false, .bool false, .int .i64 0, .bool false, .bool false, .int .i64 0, .int .u32 0, .slice none 0 0, .slice none 0 0, .int .u32 0, .int .u32 0, .int .u64 0, .int .u64 0, .int .u64 0, .slice none 0 0, .bool false] 106)) = W0 at k1 k2 k3 k4 b ⊢
  obtain ⟨c0, c1, c2, c15, c16⟩ := mcs_cells k1 h12
  go_wp2_with (first | refine wpl_ldM rfl _ rfl w.heap.size rfl k1 h12 ?_ | refine wpl_stM (PA := PA) (pn := pn) (pc := pc) (br := br) (wt := false) (rq := rq) (OY := OY) (yn := yn) (yc := yc) (cl := false) rfl _ _ rfl (w.heap.size + 3) rfl rfl h12 k4 rfl ?_)
  intro w6 k6 g6
  have HQ := Lib.hid ((b.trans (below_grown g6 (by omega) k4.lt)))
  clear b k1 k2 k3 k4 g6 c0 c1 c2 c15 c16
  go_wp2_with fail
  refine bodyPost_ret (resMt Try.results114 _ _ rfl rfl k6 h12) rfl ?_
  exact ⟨rfl, HQ.out⟩
set_option maxRecDepth 100000 in
set_option maxHeartbeats 4000000 in
theorem manswer_no (PA : Option Addr) (pn pc : Nat) (br : Bool) (OY : Option Addr) (yn yc : Nat) (q p : RQ) (Kw : Option Addr) (nkw ckw : Nat) (Vw : Option Addr) (nvw cvw : Nat) (K : Option Addr) (nk ck : Nat) (V : Option Addr) (nv cv : Nat) (st : Int) (VA : Option Addr) (nva cva af ac an : Nat) (SA : Option Addr) (ns sc : Nat) (cl : Bool) (w : World) (rkw : Rd w w.heap.size Kw nkw ckw q.lk) (rvw : Rd w w.heap.size Vw nvw cvw q.lv) (rk : Rd w w.heap.size K nk ck p.lk) (rv : Rd w w.heap.size V nv cv p.lv) (SL : List (ByteArray × ByteArray)) (rS : Rz w w.heap.size 2 SA ns sc (SL.map stCells).flatten) (hsl : SL.length = ns) (hns : ns ≤ 9223372036854775800) (hno : reqSame q.op p.op q.bd p.bd q.qt p.qt q.fu p.fu q.oq p.oq q.fl p.fl q.ex p.ex q.cs p.cs q.dl p.dl q.ni p.ni q.lk p.lk q.lv p.lv = true → wrongA st p.op nva af ac an ns SL = true) : Calls Try.prog 114 #[.agg (mcs PA pn pc br true (reqL q Kw nkw ckw Vw nvw cvw) OY yn yc false), .agg (reqL p K nk ck V nv cv).toArray, .agg (ansL st VA nva cva af ac an SA ns sc cl).toArray] w fun e w' => e = .returned (.tuple #[.agg (mcs PA pn pc br true (reqL q Kw nkw ckw Vw nvw cvw) OY yn yc false), .int .i64 2]) ∧ Below w.heap.size w w' := by
  have HSA : Hid (∀ W, Below w.heap.size w W → Calls Try.prog 45 #[.agg (reqL q Kw nkw ckw Vw nvw cvw).toArray, .agg (reqL p K nk ck V nv cv).toArray] W (PSame (reqSame q.op p.op q.bd p.bd q.qt p.qt q.fu p.fu q.oq p.oq q.fl p.fl q.ex p.ex q.cs p.cs q.dl p.dl q.ni p.ni q.lk p.lk q.lv p.lv) W)) := Lib.hid (fun W b => by have h := rqsame_any q.op p.op q.bd p.bd q.qt p.qt q.fu p.fu q.oq p.oq q.fl p.fl q.ex p.ex q.cs p.cs q.dl p.dl q.ni p.ni Kw K Vw V nkw ckw nk ck nvw cvw nv cv q.lk p.lk q.lv p.lv W ((rkw.below b).more b.size) ((rk.below b).more b.size) ((rvw.below b).more b.size) ((rv.below b).more b.size); exact h)
  have HCK : Hid (∀ W, Below w.heap.size w W → Calls Try.prog 25 #[.agg (reqL p K nk ck V nv cv).toArray, .agg (ansL st VA nva cva af ac an SA ns sc cl).toArray] W (CkQ (wrongA st p.op nva af ac an ns SL) W)) := Lib.hid (fun W b => by have h := check_any p.op p.qt p.fu p.bd p.oq (.slice K nk ck) (.slice V nv cv) p.fl p.ex p.cs p.dl p.ni st VA nva cva af ac an SA ns sc cl SL W ((rS.below b).more b.size) hns hsl; exact h)
  generalize wrongA st p.op nva af ac an ns SL = wr at HCK hno
  generalize reqSame q.op p.op q.bd p.bd q.qt p.qt q.fu p.fu q.oq p.oq q.fl p.fl q.ex p.ex q.cs p.cs q.dl p.dl q.ni p.ni q.lk p.lk q.lv p.lv = sm at HSA hno
  have HNO := Lib.hid hno
  clear rkw rvw rk rv rS hsl hns hno
  have q12 := reqL12 q Kw nkw ckw Vw nvw cvw
  have p12 := reqL12 p K nk ck V nv cv
  have k1 := Blk.new w (mcs PA pn pc br true (reqL q Kw nkw ckw Vw nvw cvw) OY yn yc false) 106
  have k2 := Blk.new (w.alloc (.cells (mcs PA pn pc br true (reqL q Kw nkw ckw Vw nvw cvw) OY yn yc false) 106)) (reqL p K nk ck V nv cv).toArray 26
  replace k1 := k1.alloc (.cells (reqL p K nk ck V nv cv).toArray 26)
  have k3 := Blk.new ((w.alloc (.cells (mcs PA pn pc br true (reqL q Kw nkw ckw Vw nvw cvw) OY yn yc false) 106)).alloc (.cells (reqL p K nk ck V nv cv).toArray 26)) (ansL st VA nva cva af ac an SA ns sc cl).toArray 29
  replace k1 := k1.alloc (.cells (ansL st VA nva cva af ac an SA ns sc cl).toArray 29)
  replace k2 := k2.alloc (.cells (ansL st VA nva cva af ac an SA ns sc cl).toArray 29)
  have k4 := Blk.new (((w.alloc (.cells (mcs PA pn pc br true (reqL q Kw nkw ckw Vw nvw cvw) OY yn yc false) 106)).alloc (.cells (reqL p K nk ck V nv cv).toArray 26)).alloc (.cells (ansL st VA nva cva af ac an SA ns sc cl).toArray 29)) #[.slice none 0 0, .bool false, .bool false, .int .i64 0, .bool false, .bool false, .int .i64 0, .int .u32 0, .slice none 0 0, .slice none 0 0, .int .u32 0, .int .u32 0, .int .u64 0, .int .u64 0, .int .u64 0, .slice none 0 0, .bool false] 106
  replace k1 := k1.alloc (.cells #[.slice none 0 0, .bool false, .bool false, .int .i64 0, .bool false, .bool false, .int .i64 0, .int .u32 0, .slice none 0 0, .slice none 0 0, .int .u32 0, .int .u32 0, .int .u64 0, .int .u64 0, .int .u64 0, .slice none 0 0, .bool false] 106)
  replace k2 := k2.alloc (.cells #[.slice none 0 0, .bool false, .bool false, .int .i64 0, .bool false, .bool false, .int .i64 0, .int .u32 0, .slice none 0 0, .slice none 0 0, .int .u32 0, .int .u32 0, .int .u64 0, .int .u64 0, .int .u64 0, .slice none 0 0, .bool false] 106)
  replace k3 := k3.alloc (.cells #[.slice none 0 0, .bool false, .bool false, .int .i64 0, .bool false, .bool false, .int .i64 0, .int .u32 0, .slice none 0 0, .slice none 0 0, .int .u32 0, .int .u32 0, .int .u64 0, .int .u64 0, .int .u64 0, .slice none 0 0, .bool false] 106)
  have b := (below_a1' (below_a1' (below_a1' (below_a1' (Below.refl w.heap.size w) (.cells (mcs PA pn pc br true (reqL q Kw nkw ckw Vw nvw cvw) OY yn yc false) 106)) (.cells (reqL p K nk ck V nv cv).toArray 26)) (.cells (ansL st VA nva cva af ac an SA ns sc cl).toArray 29)) (.cells #[.slice none 0 0, .bool false, .bool false, .int .i64 0, .bool false, .bool false, .int .i64 0, .int .u32 0, .slice none 0 0, .slice none 0 0, .int .u32 0, .int .u32 0, .int .u64 0, .int .u64 0, .int .u64 0, .slice none 0 0, .bool false] 106))
  simp only [World.size_alloc] at k2 k3 k4
  go_enter Try.func114, Try.ntmps114
  go_upto_region 1 with fail
  generalize ((((w.alloc (.cells (mcs PA pn pc br true (reqL q Kw nkw ckw Vw nvw cvw) OY yn yc false) 106)).alloc (.cells (reqL p K nk ck V nv cv).toArray 26)).alloc (.cells (ansL st VA nva cva af ac an SA ns sc cl).toArray 29)).alloc (.cells #[.slice none 0 0, .bool false, .bool false, .int .i64 0, .bool false, .bool false, .int .i64 0, .int .u32 0, .slice none 0 0, .slice none 0 0, .int .u32 0, .int .u32 0, .int .u64 0, .int .u64 0, .int .u64 0, .slice none 0 0, .bool false] 106)) = W0 at k1 k2 k3 k4 b ⊢
  obtain ⟨c0, c1, c2, c15, c16⟩ := mcs_cells k1 q12
  go_wp2_with (first | refine wpl_ldQ rfl _ rfl w.heap.size rfl k1 q12 ?_ | refine wpg_ldR (rq := (reqL p K nk ck V nv cv)) rfl _ rfl (w.heap.size + 1) rfl k2 p12 ?_ | refine wpg_ldA (ac := (ansL st VA nva cva af ac an SA ns sc cl)) rfl _ rfl (w.heap.size + 2) rfl k3 rfl ?_)
  refine (HSA.out W0 b).mono ?_
  rintro e w3 ⟨rfl, b1⟩
  replace k1 := k1.step b1
  replace k2 := k2.step b1
  replace k3 := k3.step b1
  replace k4 := k4.step b1
  replace b := below_step b b1
  clear b1 c0 c1 c2 c15 c16
  obtain ⟨c0, c1, c2, c15, c16⟩ := mcs_cells k1 q12
  cases sm with
  | false =>
    go_wp2_with (first | refine wpl_ldM rfl _ rfl w.heap.size rfl k1 q12 ?_ | refine wpl_stM (PA := PA) (pn := pn) (pc := pc) (br := br) (wt := true) (rq := (reqL q Kw nkw ckw Vw nvw cvw)) (OY := OY) (yn := yn) (yc := yc) (cl := false) rfl _ _ rfl (w.heap.size + 3) rfl rfl q12 k4 rfl ?_)
    intro w6 k6 g6
    have HQ := Lib.hid ((b.trans (below_grown g6 (by omega) k4.lt)))
    clear b k1 k2 k3 k4 g6 c0 c1 c2 c15 c16
    go_wp2_with fail
    refine bodyPost_ret (resMt Try.results114 _ _ rfl rfl k6 q12) rfl ?_
    exact ⟨rfl, HQ.out⟩
  | true =>
    have hwr := HNO.out rfl
    subst hwr
    go_wp2_with (first | refine wpl_ldQ rfl _ rfl w.heap.size rfl k1 q12 ?_ | refine wpg_ldR (rq := (reqL p K nk ck V nv cv)) rfl _ rfl (w.heap.size + 1) rfl k2 p12 ?_ | refine wpg_ldA (ac := (ansL st VA nva cva af ac an SA ns sc cl)) rfl _ rfl (w.heap.size + 2) rfl k3 rfl ?_)
    refine (HCK.out w3 b).mono ?_
    rintro e w4 ⟨rfl, b1⟩
    replace k1 := k1.step b1
    replace k2 := k2.step b1
    replace k3 := k3.step b1
    replace k4 := k4.step b1
    replace b := below_step b b1
    clear b1 c0 c1 c2 c15 c16
    obtain ⟨c0, c1, c2, c15, c16⟩ := mcs_cells k1 q12
    go_wp2_with (first | refine wpl_ldM rfl _ rfl w.heap.size rfl k1 q12 ?_ | refine wpl_stM (PA := PA) (pn := pn) (pc := pc) (br := br) (wt := true) (rq := (reqL q Kw nkw ckw Vw nvw cvw)) (OY := OY) (yn := yn) (yc := yc) (cl := false) rfl _ _ rfl (w.heap.size + 3) rfl rfl q12 k4 rfl ?_)
    intro w6 k6 g6
    have HQ := Lib.hid ((b.trans (below_grown g6 (by omega) k4.lt)))
    clear b k1 k2 k3 k4 g6 c0 c1 c2 c15 c16
    go_wp2_with fail
    refine bodyPost_ret (resMt Try.results114 _ _ rfl rfl k6 q12) rfl ?_
    exact ⟨rfl, HQ.out⟩
def MAns_okQ (PA : Option Addr) (pn pc : Nat) (br : Bool) (yn : Nat) (lo R : List UInt8) (w : World) (e : Ending) (w' : World) : Prop := ∃ (A' : Option Addr) (c' : Nat), e = .returned (.tuple #[.agg (mcs PA pn pc br false zrq A' (yn + R.length) c' false), .int .i64 0]) ∧ Own w' w.heap.size A' (yn + R.length) c' (lo ++ R) ∧ Below w.heap.size w w'
set_option maxRecDepth 100000 in
set_option maxHeartbeats 8000000 in
theorem manswer_ok (PA : Option Addr) (pn pc : Nat) (br : Bool) (OY : Option Addr) (yn yc : Nat) (q : RQ) (Kw : Option Addr) (nkw ckw : Nat) (Vw : Option Addr) (nvw cvw : Nat) (K : Option Addr) (nk ck : Nat) (V : Option Addr) (nv cv : Nat) (st : Int) (VA : Option Addr) (nva cva af ac an : Nat) (SA : Option Addr) (ns sc : Nat) (lva lo : List UInt8) (w : World) (rkw : Rd w w.heap.size Kw nkw ckw q.lk) (rvw : Rd w w.heap.size Vw nvw cvw q.lv) (rk : Rd w w.heap.size K nk ck q.lk) (rv : Rd w w.heap.size V nv cv q.lv) (SL : List (ByteArray × ByteArray)) (rS : Rz w w.heap.size 2 SA ns sc (SL.map stCells).flatten) (hsl : SL.length = ns) (hns : ns ≤ 9223372036854775800) (ra : Rd w w.heap.size VA nva cva lva) (ry : Rd w w.heap.size OY yn yc lo) (haf : af < 4294967296) (hac : ac < 18446744073709551616) (han : an < 18446744073709551616) (hoq : q.oq < 4294967296) (hnk : nk ≤ 1000000) (hyn : yn ≤ 100000000000) (hw : wrongA st q.op nva af ac an ns SL = false) (R : List UInt8) (hR : ofR q.op q.qt q.fu q.oq st nva af ac an ns q.lk lva SL = (R, 0)) (hRl : R.length ≤ 1000000) : Calls Try.prog 114 #[.agg (mcs PA pn pc br true (reqL q Kw nkw ckw Vw nvw cvw) OY yn yc false), .agg (reqL q K nk ck V nv cv).toArray, .agg (ansL st VA nva cva af ac an SA ns sc false).toArray] w (MAns_okQ PA pn pc br yn lo R w) := by
  have HSA : Hid (∀ W, Below w.heap.size w W → Calls Try.prog 45 #[.agg (reqL q Kw nkw ckw Vw nvw cvw).toArray, .agg (reqL q K nk ck V nv cv).toArray] W (PSame (true) W)) := Lib.hid (fun W b => by have h := rqsame_any q.op q.op q.bd q.bd q.qt q.qt q.fu q.fu q.oq q.oq q.fl q.fl q.ex q.ex q.cs q.cs q.dl q.dl q.ni q.ni Kw K Vw V nkw ckw nk ck nvw cvw nv cv q.lk q.lk q.lv q.lv W ((rkw.below b).more b.size) ((rk.below b).more b.size) ((rvw.below b).more b.size) ((rv.below b).more b.size); rw [reqSame_yes ⟨rfl, rfl, rfl, rfl, rfl, rfl, rfl, rfl, rfl, rfl, rfl, rfl⟩] at h; exact h)
  have HCK : Hid (∀ W, Below w.heap.size w W → Calls Try.prog 25 #[.agg (reqL q K nk ck V nv cv).toArray, .agg (ansL st VA nva cva af ac an SA ns sc false).toArray] W (CkQ (false) W)) := Lib.hid (fun W b => by have h := check_any q.op q.qt q.fu q.bd q.oq (.slice K nk ck) (.slice V nv cv) q.fl q.ex q.cs q.dl q.ni st VA nva cva af ac an SA ns sc false SL W ((rS.below b).more b.size) hns hsl; rw [hw] at h; exact h)
  have HOF : Hid (∀ W, Below w.heap.size w W → Calls Try.prog 22 #[.agg (reqL q K nk ck V nv cv).toArray, .agg (ansL st VA nva cva af ac an SA ns sc false).toArray] W (OfQ (R, 0) W)) := Lib.hid (fun W b => by have h := of_any q.op q.qt q.fu q.bd q.oq K nk ck q.lk (.slice V nv cv) q.fl q.ex q.cs q.dl q.ni st VA nva cva lva af ac an SA ns sc SL false W ((rk.below b).more b.size) ((ra.below b).more b.size) ((rS.below b).more b.size) hsl hnk haf hac han hns hoq; rw [hR] at h; exact h)
  have HP : Hid (∀ W, Below w.heap.size w W → ∀ A n c, Rd W W.heap.size A n c R → Calls Try.prog 128 #[.agg (mcs PA pn pc br true (reqL q Kw nkw ckw Vw nvw cvw) OY yn yc false), .slice A n c] W (MPutQ PA pn pc br true (reqL q Kw nkw ckw Vw nvw cvw) false (yn + n) (lo ++ R) W)) := Lib.hid (fun W b A n c ow => mput_any PA pn pc br true (reqL q Kw nkw ckw Vw nvw cvw) OY yn yc false (reqL12 q Kw nkw ckw Vw nvw cvw) lo A n c R W ((ry.below b).more b.size) ow (by have := ow.len; omega))
  clear rkw rvw rk rv rS ra ry hsl hns haf hac han hoq hnk hyn hw hR hRl
  have q12 := reqL12 q Kw nkw ckw Vw nvw cvw
  have p12 := reqL12 q K nk ck V nv cv
  have k1 := Blk.new w (mcs PA pn pc br true (reqL q Kw nkw ckw Vw nvw cvw) OY yn yc false) 106
  have k2 := Blk.new (w.alloc (.cells (mcs PA pn pc br true (reqL q Kw nkw ckw Vw nvw cvw) OY yn yc false) 106)) (reqL q K nk ck V nv cv).toArray 26
  replace k1 := k1.alloc (.cells (reqL q K nk ck V nv cv).toArray 26)
  have k3 := Blk.new ((w.alloc (.cells (mcs PA pn pc br true (reqL q Kw nkw ckw Vw nvw cvw) OY yn yc false) 106)).alloc (.cells (reqL q K nk ck V nv cv).toArray 26)) (ansL st VA nva cva af ac an SA ns sc false).toArray 29
  replace k1 := k1.alloc (.cells (ansL st VA nva cva af ac an SA ns sc false).toArray 29)
  replace k2 := k2.alloc (.cells (ansL st VA nva cva af ac an SA ns sc false).toArray 29)
  have k4 := Blk.new (((w.alloc (.cells (mcs PA pn pc br true (reqL q Kw nkw ckw Vw nvw cvw) OY yn yc false) 106)).alloc (.cells (reqL q K nk ck V nv cv).toArray 26)).alloc (.cells (ansL st VA nva cva af ac an SA ns sc false).toArray 29)) #[.slice none 0 0, .bool false, .bool false, .int .i64 0, .bool false, .bool false, .int .i64 0, .int .u32 0, .slice none 0 0, .slice none 0 0, .int .u32 0, .int .u32 0, .int .u64 0, .int .u64 0, .int .u64 0, .slice none 0 0, .bool false] 106
  replace k1 := k1.alloc (.cells #[.slice none 0 0, .bool false, .bool false, .int .i64 0, .bool false, .bool false, .int .i64 0, .int .u32 0, .slice none 0 0, .slice none 0 0, .int .u32 0, .int .u32 0, .int .u64 0, .int .u64 0, .int .u64 0, .slice none 0 0, .bool false] 106)
  replace k2 := k2.alloc (.cells #[.slice none 0 0, .bool false, .bool false, .int .i64 0, .bool false, .bool false, .int .i64 0, .int .u32 0, .slice none 0 0, .slice none 0 0, .int .u32 0, .int .u32 0, .int .u64 0, .int .u64 0, .int .u64 0, .slice none 0 0, .bool false] 106)
  replace k3 := k3.alloc (.cells #[.slice none 0 0, .bool false, .bool false, .int .i64 0, .bool false, .bool false, .int .i64 0, .int .u32 0, .slice none 0 0, .slice none 0 0, .int .u32 0, .int .u32 0, .int .u64 0, .int .u64 0, .int .u64 0, .slice none 0 0, .bool false] 106)
  have b := (below_a1' (below_a1' (below_a1' (below_a1' (Below.refl w.heap.size w) (.cells (mcs PA pn pc br true (reqL q Kw nkw ckw Vw nvw cvw) OY yn yc false) 106)) (.cells (reqL q K nk ck V nv cv).toArray 26)) (.cells (ansL st VA nva cva af ac an SA ns sc false).toArray 29)) (.cells #[.slice none 0 0, .bool false, .bool false, .int .i64 0, .bool false, .bool false, .int .i64 0, .int .u32 0, .slice none 0 0, .slice none 0 0, .int .u32 0, .int .u32 0, .int .u64 0, .int .u64 0, .int .u64 0, .slice none 0 0, .bool false] 106))
  simp only [World.size_alloc] at k2 k3 k4
  go_enter Try.func114, Try.ntmps114
  go_upto_region 1 with fail
  generalize ((((w.alloc (.cells (mcs PA pn pc br true (reqL q Kw nkw ckw Vw nvw cvw) OY yn yc false) 106)).alloc (.cells (reqL q K nk ck V nv cv).toArray 26)).alloc (.cells (ansL st VA nva cva af ac an SA ns sc false).toArray 29)).alloc (.cells #[.slice none 0 0, .bool false, .bool false, .int .i64 0, .bool false, .bool false, .int .i64 0, .int .u32 0, .slice none 0 0, .slice none 0 0, .int .u32 0, .int .u32 0, .int .u64 0, .int .u64 0, .int .u64 0, .slice none 0 0, .bool false] 106)) = W0 at k1 k2 k3 k4 b ⊢
  obtain ⟨c0, c1, c2, c15, c16⟩ := mcs_cells k1 q12
  go_wp2_with (first | refine wpl_ldQ rfl _ rfl w.heap.size rfl k1 q12 ?_ | refine wpg_ldR (rq := (reqL q K nk ck V nv cv)) rfl _ rfl (w.heap.size + 1) rfl k2 p12 ?_ | refine wpg_ldA (ac := (ansL st VA nva cva af ac an SA ns sc false)) rfl _ rfl (w.heap.size + 2) rfl k3 rfl ?_)
  refine (HSA.out W0 b).mono ?_
  rintro e w3 ⟨rfl, b1⟩
  replace k1 := k1.step b1
  replace k2 := k2.step b1
  replace k3 := k3.step b1
  replace k4 := k4.step b1
  replace b := below_step b b1
  clear b1 c0 c1 c2 c15 c16
  obtain ⟨c0, c1, c2, c15, c16⟩ := mcs_cells k1 q12
  go_wp2_with (first | refine wpl_ldQ rfl _ rfl w.heap.size rfl k1 q12 ?_ | refine wpg_ldR (rq := (reqL q K nk ck V nv cv)) rfl _ rfl (w.heap.size + 1) rfl k2 p12 ?_ | refine wpg_ldA (ac := (ansL st VA nva cva af ac an SA ns sc false)) rfl _ rfl (w.heap.size + 2) rfl k3 rfl ?_)
  refine (HCK.out w3 b).mono ?_
  rintro e w4 ⟨rfl, b1⟩
  replace k1 := k1.step b1
  replace k2 := k2.step b1
  replace k3 := k3.step b1
  replace k4 := k4.step b1
  replace b := below_step b b1
  clear b1 c0 c1 c2 c15 c16
  obtain ⟨c0, c1, c2, c15, c16⟩ := mcs_cells k1 q12
  go_wp2_with (first | refine wpl_ldQ rfl _ rfl w.heap.size rfl k1 q12 ?_ | refine wpg_ldR (rq := (reqL q K nk ck V nv cv)) rfl _ rfl (w.heap.size + 1) rfl k2 p12 ?_ | refine wpg_ldA (ac := (ansL st VA nva cva af ac an SA ns sc false)) rfl _ rfl (w.heap.size + 2) rfl k3 rfl ?_)
  refine (HOF.out w4 b).mono ?_
  rintro e w5 ⟨N, A3, c3, rfl, o3, b1⟩
  dsimp only at o3
  have r3 := o3.rd
  clear o3
  replace k1 := k1.step b1
  replace k2 := k2.step b1
  replace k3 := k3.step b1
  replace k4 := k4.step b1
  replace b := below_step b b1
  clear b1 c0 c1 c2 c15 c16
  obtain ⟨c0, c1, c2, c15, c16⟩ := mcs_cells k1 q12
  have hml := r3.len
  subst hml
  go_wp2_with (first | refine wpl_ldM rfl _ rfl w.heap.size rfl k1 q12 ?_)
  refine (HP.out w5 b A3 R.length c3 r3).mono ?_
  rintro e w7 ⟨A5, c5, rfl, o5, b1⟩
  have hb5 : w.heap.size + 3 < w5.heap.size := k4.lt
  replace o5 := o5.more (B' := w.heap.size + 4) hb5
  clear HSA HCK HOF HP r3
  replace k1 := k1.step b1
  replace k2 := k2.step b1
  replace k3 := k3.step b1
  replace k4 := k4.step b1
  replace b := below_step b b1
  clear b1 c0 c1 c2 c15 c16
  obtain ⟨c0, c1, c2, c15, c16⟩ := mcs_cells k1 q12
  go_wp2_with (first | refine wpl_stM (PA := PA) (pn := pn) (pc := pc) (br := br) (wt := true) (rq := (reqL q Kw nkw ckw Vw nvw cvw)) (OY := A5) (yn := (yn + R.length)) (yc := c5) (cl := false) (old := [.slice PA pn pc, .bool br, .bool true] ++ (reqL q Kw nkw ckw Vw nvw cvw) ++ [.slice OY yn yc, .bool false]) rfl _ _ rfl w.heap.size rfl rfl q12 k1 rfl ?_)
  intro w8 k1' g8
  replace k2 := k2.leftC g8 (by omega)
  replace k3 := k3.leftC g8 (by omega)
  replace k4 := k4.leftC g8 (by omega)
  replace o5 := o5.kept g8 (by omega)
  replace b := b.trans (below_grown g8 (Nat.le_refl _) k1.lt)
  clear k1 g8 c0 c1 c2 c15 c16
  have k1 := k1'
  clear k1'
  obtain ⟨c0, c1, c2, c15, c16⟩ := mcs_cells k1 q12
  have x2 := k1.frozen 2
  have gq := rdr_grown_set w8 w.heap.size 2 (.bool false)
  have k1' := mcs_set2 k1 false
  have k2' := k2.leftC gq (by omega)
  have k3' := k3.leftC gq (by omega)
  have k4' := k4.leftC gq (by omega)
  have o5' := o5.kept gq (by omega)
  have b' := b.trans (below_grown gq (Nat.le_refl _) k1.lt)
  go_wp2_with (first | refine wpl_stQ rfl _ _ rfl w.heap.size rfl zrq rfl q12 zrq12 k1' ?_)
  intro w9 k1 g9
  clear x2 gq c0 c1 c2 c15 c16
  clear k2 k3 k4 o5 b
  have k2 := k2'.leftC g9 (by omega)
  have k3 := k3'.leftC g9 (by omega)
  have k4 := k4'.leftC g9 (by omega)
  have o5 := o5'.kept g9 (by omega)
  have b := b'.trans (below_grown g9 (Nat.le_refl _) k1'.lt)
  clear k1' k2' k3' k4' o5' b' g9
  have c6 := ansL6 k3
  obtain ⟨c0, c1, c2, c15, c16⟩ := mcs_cells k1 zrq12
  go_wp2_with (first | refine wpl_ldM rfl _ rfl w.heap.size rfl k1 zrq12 ?_ | refine wpl_stM (PA := PA) (pn := pn) (pc := pc) (br := br) (wt := false) (rq := zrq) (OY := A5) (yn := (yn + R.length)) (yc := c5) (cl := false) rfl _ _ rfl (w.heap.size + 3) rfl rfl zrq12 k4 rfl ?_)
  intro w6 k6 g6
  have HQ := Lib.hid (And.intro ((o5.kept g6 (by omega)).more (B' := w.heap.size) (by omega)) (b.trans (below_grown g6 (by omega) k4.lt)))
  clear b k1 k2 k3 k4 g6 c0 c1 c2 c15 c16 o5 c6
  go_wp2_with fail
  refine bodyPost_ret (resMt Try.results114 _ _ rfl rfl k6 zrq12) rfl ?_
  exact ⟨A5, c5, rfl, HQ.out.1, HQ.out.2⟩
def MAns_closeQ (yn : Nat) (lo R : List UInt8) (w : World) (e : Ending) (w' : World) : Prop := ∃ (A' : Option Addr) (c' : Nat), e = .returned (.tuple #[.agg (mcs none 0 0 false false zrq A' (yn + R.length) c' true), .int .i64 0]) ∧ Own w' w.heap.size A' (yn + R.length) c' (lo ++ R) ∧ Below w.heap.size w w'
set_option maxRecDepth 100000 in
set_option maxHeartbeats 8000000 in
theorem manswer_close (PA : Option Addr) (pn pc : Nat) (br : Bool) (OY : Option Addr) (yn yc : Nat) (q : RQ) (Kw : Option Addr) (nkw ckw : Nat) (Vw : Option Addr) (nvw cvw : Nat) (K : Option Addr) (nk ck : Nat) (V : Option Addr) (nv cv : Nat) (st : Int) (VA : Option Addr) (nva cva af ac an : Nat) (SA : Option Addr) (ns sc : Nat) (lva lo : List UInt8) (w : World) (rkw : Rd w w.heap.size Kw nkw ckw q.lk) (rvw : Rd w w.heap.size Vw nvw cvw q.lv) (rk : Rd w w.heap.size K nk ck q.lk) (rv : Rd w w.heap.size V nv cv q.lv) (SL : List (ByteArray × ByteArray)) (rS : Rz w w.heap.size 2 SA ns sc (SL.map stCells).flatten) (hsl : SL.length = ns) (hns : ns ≤ 9223372036854775800) (ra : Rd w w.heap.size VA nva cva lva) (ry : Rd w w.heap.size OY yn yc lo) (haf : af < 4294967296) (hac : ac < 18446744073709551616) (han : an < 18446744073709551616) (hoq : q.oq < 4294967296) (hnk : nk ≤ 1000000) (hyn : yn ≤ 100000000000) (hw : wrongA st q.op nva af ac an ns SL = false) (R : List UInt8) (hR : ofR q.op q.qt q.fu q.oq st nva af ac an ns q.lk lva SL = (R, 0)) (hRl : R.length ≤ 1000000) : Calls Try.prog 114 #[.agg (mcs PA pn pc br true (reqL q Kw nkw ckw Vw nvw cvw) OY yn yc false), .agg (reqL q K nk ck V nv cv).toArray, .agg (ansL st VA nva cva af ac an SA ns sc true).toArray] w (MAns_closeQ yn lo R w) := by
  have HSA : Hid (∀ W, Below w.heap.size w W → Calls Try.prog 45 #[.agg (reqL q Kw nkw ckw Vw nvw cvw).toArray, .agg (reqL q K nk ck V nv cv).toArray] W (PSame (true) W)) := Lib.hid (fun W b => by have h := rqsame_any q.op q.op q.bd q.bd q.qt q.qt q.fu q.fu q.oq q.oq q.fl q.fl q.ex q.ex q.cs q.cs q.dl q.dl q.ni q.ni Kw K Vw V nkw ckw nk ck nvw cvw nv cv q.lk q.lk q.lv q.lv W ((rkw.below b).more b.size) ((rk.below b).more b.size) ((rvw.below b).more b.size) ((rv.below b).more b.size); rw [reqSame_yes ⟨rfl, rfl, rfl, rfl, rfl, rfl, rfl, rfl, rfl, rfl, rfl, rfl⟩] at h; exact h)
  have HCK : Hid (∀ W, Below w.heap.size w W → Calls Try.prog 25 #[.agg (reqL q K nk ck V nv cv).toArray, .agg (ansL st VA nva cva af ac an SA ns sc true).toArray] W (CkQ (false) W)) := Lib.hid (fun W b => by have h := check_any q.op q.qt q.fu q.bd q.oq (.slice K nk ck) (.slice V nv cv) q.fl q.ex q.cs q.dl q.ni st VA nva cva af ac an SA ns sc true SL W ((rS.below b).more b.size) hns hsl; rw [hw] at h; exact h)
  have HOF : Hid (∀ W, Below w.heap.size w W → Calls Try.prog 22 #[.agg (reqL q K nk ck V nv cv).toArray, .agg (ansL st VA nva cva af ac an SA ns sc true).toArray] W (OfQ (R, 0) W)) := Lib.hid (fun W b => by have h := of_any q.op q.qt q.fu q.bd q.oq K nk ck q.lk (.slice V nv cv) q.fl q.ex q.cs q.dl q.ni st VA nva cva lva af ac an SA ns sc SL true W ((rk.below b).more b.size) ((ra.below b).more b.size) ((rS.below b).more b.size) hsl hnk haf hac han hns hoq; rw [hR] at h; exact h)
  have HP : Hid (∀ W, Below w.heap.size w W → ∀ A n c, Rd W W.heap.size A n c R → Calls Try.prog 128 #[.agg (mcs PA pn pc br true (reqL q Kw nkw ckw Vw nvw cvw) OY yn yc false), .slice A n c] W (MPutQ PA pn pc br true (reqL q Kw nkw ckw Vw nvw cvw) false (yn + n) (lo ++ R) W)) := Lib.hid (fun W b A n c ow => mput_any PA pn pc br true (reqL q Kw nkw ckw Vw nvw cvw) OY yn yc false (reqL12 q Kw nkw ckw Vw nvw cvw) lo A n c R W ((ry.below b).more b.size) ow (by have := ow.len; omega))
  clear rkw rvw rk rv rS ra ry hsl hns haf hac han hoq hnk hyn hw hR hRl
  have q12 := reqL12 q Kw nkw ckw Vw nvw cvw
  have p12 := reqL12 q K nk ck V nv cv
  have k1 := Blk.new w (mcs PA pn pc br true (reqL q Kw nkw ckw Vw nvw cvw) OY yn yc false) 106
  have k2 := Blk.new (w.alloc (.cells (mcs PA pn pc br true (reqL q Kw nkw ckw Vw nvw cvw) OY yn yc false) 106)) (reqL q K nk ck V nv cv).toArray 26
  replace k1 := k1.alloc (.cells (reqL q K nk ck V nv cv).toArray 26)
  have k3 := Blk.new ((w.alloc (.cells (mcs PA pn pc br true (reqL q Kw nkw ckw Vw nvw cvw) OY yn yc false) 106)).alloc (.cells (reqL q K nk ck V nv cv).toArray 26)) (ansL st VA nva cva af ac an SA ns sc true).toArray 29
  replace k1 := k1.alloc (.cells (ansL st VA nva cva af ac an SA ns sc true).toArray 29)
  replace k2 := k2.alloc (.cells (ansL st VA nva cva af ac an SA ns sc true).toArray 29)
  have k4 := Blk.new (((w.alloc (.cells (mcs PA pn pc br true (reqL q Kw nkw ckw Vw nvw cvw) OY yn yc false) 106)).alloc (.cells (reqL q K nk ck V nv cv).toArray 26)).alloc (.cells (ansL st VA nva cva af ac an SA ns sc true).toArray 29)) #[.slice none 0 0, .bool false, .bool false, .int .i64 0, .bool false, .bool false, .int .i64 0, .int .u32 0, .slice none 0 0, .slice none 0 0, .int .u32 0, .int .u32 0, .int .u64 0, .int .u64 0, .int .u64 0, .slice none 0 0, .bool false] 106
  replace k1 := k1.alloc (.cells #[.slice none 0 0, .bool false, .bool false, .int .i64 0, .bool false, .bool false, .int .i64 0, .int .u32 0, .slice none 0 0, .slice none 0 0, .int .u32 0, .int .u32 0, .int .u64 0, .int .u64 0, .int .u64 0, .slice none 0 0, .bool false] 106)
  replace k2 := k2.alloc (.cells #[.slice none 0 0, .bool false, .bool false, .int .i64 0, .bool false, .bool false, .int .i64 0, .int .u32 0, .slice none 0 0, .slice none 0 0, .int .u32 0, .int .u32 0, .int .u64 0, .int .u64 0, .int .u64 0, .slice none 0 0, .bool false] 106)
  replace k3 := k3.alloc (.cells #[.slice none 0 0, .bool false, .bool false, .int .i64 0, .bool false, .bool false, .int .i64 0, .int .u32 0, .slice none 0 0, .slice none 0 0, .int .u32 0, .int .u32 0, .int .u64 0, .int .u64 0, .int .u64 0, .slice none 0 0, .bool false] 106)
  have b := (below_a1' (below_a1' (below_a1' (below_a1' (Below.refl w.heap.size w) (.cells (mcs PA pn pc br true (reqL q Kw nkw ckw Vw nvw cvw) OY yn yc false) 106)) (.cells (reqL q K nk ck V nv cv).toArray 26)) (.cells (ansL st VA nva cva af ac an SA ns sc true).toArray 29)) (.cells #[.slice none 0 0, .bool false, .bool false, .int .i64 0, .bool false, .bool false, .int .i64 0, .int .u32 0, .slice none 0 0, .slice none 0 0, .int .u32 0, .int .u32 0, .int .u64 0, .int .u64 0, .int .u64 0, .slice none 0 0, .bool false] 106))
  simp only [World.size_alloc] at k2 k3 k4
  go_enter Try.func114, Try.ntmps114
  go_upto_region 1 with fail
  generalize ((((w.alloc (.cells (mcs PA pn pc br true (reqL q Kw nkw ckw Vw nvw cvw) OY yn yc false) 106)).alloc (.cells (reqL q K nk ck V nv cv).toArray 26)).alloc (.cells (ansL st VA nva cva af ac an SA ns sc true).toArray 29)).alloc (.cells #[.slice none 0 0, .bool false, .bool false, .int .i64 0, .bool false, .bool false, .int .i64 0, .int .u32 0, .slice none 0 0, .slice none 0 0, .int .u32 0, .int .u32 0, .int .u64 0, .int .u64 0, .int .u64 0, .slice none 0 0, .bool false] 106)) = W0 at k1 k2 k3 k4 b ⊢
  obtain ⟨c0, c1, c2, c15, c16⟩ := mcs_cells k1 q12
  go_wp2_with (first | refine wpl_ldQ rfl _ rfl w.heap.size rfl k1 q12 ?_ | refine wpg_ldR (rq := (reqL q K nk ck V nv cv)) rfl _ rfl (w.heap.size + 1) rfl k2 p12 ?_ | refine wpg_ldA (ac := (ansL st VA nva cva af ac an SA ns sc true)) rfl _ rfl (w.heap.size + 2) rfl k3 rfl ?_)
  refine (HSA.out W0 b).mono ?_
  rintro e w3 ⟨rfl, b1⟩
  replace k1 := k1.step b1
  replace k2 := k2.step b1
  replace k3 := k3.step b1
  replace k4 := k4.step b1
  replace b := below_step b b1
  clear b1 c0 c1 c2 c15 c16
  obtain ⟨c0, c1, c2, c15, c16⟩ := mcs_cells k1 q12
  go_wp2_with (first | refine wpl_ldQ rfl _ rfl w.heap.size rfl k1 q12 ?_ | refine wpg_ldR (rq := (reqL q K nk ck V nv cv)) rfl _ rfl (w.heap.size + 1) rfl k2 p12 ?_ | refine wpg_ldA (ac := (ansL st VA nva cva af ac an SA ns sc true)) rfl _ rfl (w.heap.size + 2) rfl k3 rfl ?_)
  refine (HCK.out w3 b).mono ?_
  rintro e w4 ⟨rfl, b1⟩
  replace k1 := k1.step b1
  replace k2 := k2.step b1
  replace k3 := k3.step b1
  replace k4 := k4.step b1
  replace b := below_step b b1
  clear b1 c0 c1 c2 c15 c16
  obtain ⟨c0, c1, c2, c15, c16⟩ := mcs_cells k1 q12
  go_wp2_with (first | refine wpl_ldQ rfl _ rfl w.heap.size rfl k1 q12 ?_ | refine wpg_ldR (rq := (reqL q K nk ck V nv cv)) rfl _ rfl (w.heap.size + 1) rfl k2 p12 ?_ | refine wpg_ldA (ac := (ansL st VA nva cva af ac an SA ns sc true)) rfl _ rfl (w.heap.size + 2) rfl k3 rfl ?_)
  refine (HOF.out w4 b).mono ?_
  rintro e w5 ⟨N, A3, c3, rfl, o3, b1⟩
  dsimp only at o3
  have r3 := o3.rd
  clear o3
  replace k1 := k1.step b1
  replace k2 := k2.step b1
  replace k3 := k3.step b1
  replace k4 := k4.step b1
  replace b := below_step b b1
  clear b1 c0 c1 c2 c15 c16
  obtain ⟨c0, c1, c2, c15, c16⟩ := mcs_cells k1 q12
  have hml := r3.len
  subst hml
  go_wp2_with (first | refine wpl_ldM rfl _ rfl w.heap.size rfl k1 q12 ?_)
  refine (HP.out w5 b A3 R.length c3 r3).mono ?_
  rintro e w7 ⟨A5, c5, rfl, o5, b1⟩
  have hb5 : w.heap.size + 3 < w5.heap.size := k4.lt
  replace o5 := o5.more (B' := w.heap.size + 4) hb5
  clear HSA HCK HOF HP r3
  replace k1 := k1.step b1
  replace k2 := k2.step b1
  replace k3 := k3.step b1
  replace k4 := k4.step b1
  replace b := below_step b b1
  clear b1 c0 c1 c2 c15 c16
  obtain ⟨c0, c1, c2, c15, c16⟩ := mcs_cells k1 q12
  go_wp2_with (first | refine wpl_stM (PA := PA) (pn := pn) (pc := pc) (br := br) (wt := true) (rq := (reqL q Kw nkw ckw Vw nvw cvw)) (OY := A5) (yn := (yn + R.length)) (yc := c5) (cl := false) (old := [.slice PA pn pc, .bool br, .bool true] ++ (reqL q Kw nkw ckw Vw nvw cvw) ++ [.slice OY yn yc, .bool false]) rfl _ _ rfl w.heap.size rfl rfl q12 k1 rfl ?_)
  intro w8 k1' g8
  replace k2 := k2.leftC g8 (by omega)
  replace k3 := k3.leftC g8 (by omega)
  replace k4 := k4.leftC g8 (by omega)
  replace o5 := o5.kept g8 (by omega)
  replace b := b.trans (below_grown g8 (Nat.le_refl _) k1.lt)
  clear k1 g8 c0 c1 c2 c15 c16
  have k1 := k1'
  clear k1'
  obtain ⟨c0, c1, c2, c15, c16⟩ := mcs_cells k1 q12
  have x2 := k1.frozen 2
  have gq := rdr_grown_set w8 w.heap.size 2 (.bool false)
  have k1' := mcs_set2 k1 false
  have k2' := k2.leftC gq (by omega)
  have k3' := k3.leftC gq (by omega)
  have k4' := k4.leftC gq (by omega)
  have o5' := o5.kept gq (by omega)
  have b' := b.trans (below_grown gq (Nat.le_refl _) k1.lt)
  go_wp2_with (first | refine wpl_stQ rfl _ _ rfl w.heap.size rfl zrq rfl q12 zrq12 k1' ?_)
  intro w9 k1 g9
  clear x2 gq c0 c1 c2 c15 c16
  clear k2 k3 k4 o5 b
  have k2 := k2'.leftC g9 (by omega)
  have k3 := k3'.leftC g9 (by omega)
  have k4 := k4'.leftC g9 (by omega)
  have o5 := o5'.kept g9 (by omega)
  have b := b'.trans (below_grown g9 (Nat.le_refl _) k1'.lt)
  clear k1' k2' k3' k4' o5' b' g9
  have c6 := ansL6 k3
  obtain ⟨c0, c1, c2, c15, c16⟩ := mcs_cells k1 zrq12
  go_wp2_with (first | refine wpl_ldM rfl _ rfl w.heap.size rfl k1 zrq12 ?_)
  refine (mclose_any PA pn pc br false zrq A5 (yn + R.length) c5 false zrq12 w9).mono ?_
  rintro e w10 ⟨rfl, b1⟩
  replace o5 := o5.step b1
  replace k1 := k1.step b1
  replace k2 := k2.step b1
  replace k3 := k3.step b1
  replace k4 := k4.step b1
  replace b := below_step b b1
  clear b1 c0 c1 c2 c15 c16
  obtain ⟨c0, c1, c2, c15, c16⟩ := mcs_cells k1 zrq12
  clear c6
  go_wp2_with (first | refine wpl_stM (PA := none) (pn := 0) (pc := 0) (br := false) (wt := false) (rq := zrq) (OY := A5) (yn := (yn + R.length)) (yc := c5) (cl := true) (old := [.slice PA pn pc, .bool br, .bool false] ++ zrq ++ [.slice A5 (yn + R.length) c5, .bool false]) rfl _ _ rfl w.heap.size rfl rfl zrq12 k1 rfl ?_)
  intro w11 k1' g8
  replace k2 := k2.leftC g8 (by omega)
  replace k3 := k3.leftC g8 (by omega)
  replace k4 := k4.leftC g8 (by omega)
  replace o5 := o5.kept g8 (by omega)
  replace b := b.trans (below_grown g8 (Nat.le_refl _) k1.lt)
  clear k1 g8 c0 c1 c2 c15 c16
  have k1 := k1'
  clear k1'
  obtain ⟨c0, c1, c2, c15, c16⟩ := mcs_cells k1 zrq12
  go_wp2_with (first | refine wpl_ldM rfl _ rfl w.heap.size rfl k1 zrq12 ?_ | refine wpl_stM (PA := none) (pn := 0) (pc := 0) (br := false) (wt := false) (rq := zrq) (OY := A5) (yn := (yn + R.length)) (yc := c5) (cl := true) rfl _ _ rfl (w.heap.size + 3) rfl rfl zrq12 k4 rfl ?_)
  intro w6 k6 g6
  have HQ := Lib.hid (And.intro ((o5.kept g6 (by omega)).more (B' := w.heap.size) (by omega)) (b.trans (below_grown g6 (by omega) k4.lt)))
  clear b k1 k2 k3 k4 g6 c0 c1 c2 c15 c16 o5
  go_wp2_with fail
  refine bodyPost_ret (resMt Try.results114 _ _ rfl rfl k6 zrq12) rfl ?_
  exact ⟨A5, c5, rfl, HQ.out.1, HQ.out.2⟩
end
section
set_option linter.unusedSimpArgs false
open Go.RowKit
open Go
def IsM (m : Array Value) : Prop := m.size = 17 ∧ m.all (·.oneCell') = true
theorem isM_mcs {PA : Option Addr} {pn pc : Nat} {br wt : Bool} {rq : List Value} {OY : Option Addr} {yn yc : Nat} {cl : Bool} (h : Rq12 rq) : IsM (mcs PA pn pc br wt rq OY yn yc cl) := ⟨mcs_size h, mcs_one h⟩
def opL (k : Int) (BA : Option Addr) (bn bc : Nat) (rqo ac : List Value) : List Value := .int .i64 k :: .slice BA bn bc :: (rqo ++ ac)
theorem opL_rq {w : World} {g : Nat} {T : TypeId} {k : Int} {BA : Option Addr} {bn bc : Nat} {rqo ac : List Value} (h : Blk w g (opL k BA bn bc rqo ac).toArray T) : w.rangeAt g 2 rqo := fun j v hv => by
  refine (cell_of_row w g (2 + j) _ _ (0, 0) h).trans ?_
  have hj := (List.getElem?_eq_some_iff.1 hv).1
  unfold opL
  rw [List.getElem?_toArray, show 2 + j = j + 1 + 1 by omega, List.getElem?_cons_succ, List.getElem?_cons_succ, List.getElem?_append_left hj]
  exact hv
theorem opL_an {w : World} {g : Nat} {T : TypeId} {k : Int} {BA : Option Addr} {bn bc : Nat} {rqo ac : List Value} (h : Blk w g (opL k BA bn bc rqo ac).toArray T) (h12 : Rq12 rqo) : w.rangeAt g 14 ac := fun j v hv => by
  refine (cell_of_row w g (14 + j) _ _ (0, 0) h).trans ?_
  unfold opL
  rw [List.getElem?_toArray, show 14 + j = 12 + j + 1 + 1 by omega, List.getElem?_cons_succ, List.getElem?_cons_succ, List.getElem?_append_right (by rw [h12.1]; omega), h12.1, Nat.add_sub_cancel_left]
  exact hv
theorem opL_01 {w : World} {g : Nat} {T : TypeId} {k : Int} {BA : Option Addr} {bn bc : Nat} {rqo ac : List Value} (h : Blk w g (opL k BA bn bc rqo ac).toArray T) : w.cell? ⟨g, 0, none⟩ = some (.int .i64 k) ∧ w.cell? ⟨g, 1, none⟩ = some (.slice BA bn bc) :=
  ⟨cell_of_row w g 0 _ _ (0, 0) h, cell_of_row w g 1 _ _ (0, 0) h⟩
theorem szOp : (Try.prog.info? 109).map (·.size) = some 21 := by kernel_rfl
theorem undOp : ∃ fs, Try.prog.underlying 109 = some (.struct fs) := ⟨_, Try.underlying109⟩
theorem opL_len {k : Int} {BA : Option Addr} {bn bc : Nat} {rqo ac : List Value} (h12 : Rq12 rqo) (h7 : ac.length = 7) : (opL k BA bn bc rqo ac).length = 21 := by simp [opL, h12.1, h7]
section
variable {ops : Array Oper} {rest : List Oper} {o : Oper} {a : Act} {w : World} {K : Act → World → Prop} {Q : Exit → Act → World → Prop} {E : Prop} {S : World → Prop} {m : Array Value} {rq ac : List Value}
theorem wpl_ldX (hgd : o.guard = none) (x : Operand) (ho : o.op = .load 106 x) (g : Nat) (hx : a.eval x = .pointer (some ⟨g, 0, none⟩)) (k : Blk w g m 106) (hm : IsM m)
    (h : wpList Try.prog ops Q rest (a.put o.dst (.agg m)) w) : wpList Try.prog ops Q (o :: rest) a w := by
  obtain ⟨fs, hu⟩ := undMod
  exact wpList_load_row hgd _ x ho g hx _ _ (0, 0) _ k hu rfl (by rw [hm.1]; exact szMod) h
theorem step_ldX (hw : Region.wanted o (yielded ops a.tmps) = true) (x : Operand) (ho : o.op = .load 106 x) (g : Nat) (hx : a.eval x = .pointer (some ⟨g, 0, none⟩)) (k : Blk w g m 106) (hm : IsM m)
    (h : K (a.put o.dst (.agg m)) w) : if Region.wanted o (yielded ops a.tmps) = true then Oper.wp Try.prog o a w K Q else E := by
  obtain ⟨fs, hu⟩ := undMod
  rw [if_pos hw]
  exact wp_load_row _ x ho g hx _ _ (0, 0) _ k hu rfl (by rw [hm.1]; exact szMod) h
theorem wp_stX (x y : Operand) (ho : o.op = .store 106 x y) (g : Nat) (hx : a.eval x = .pointer (some ⟨g, 0, none⟩)) (hy : a.eval y = .agg m) (hm : IsM m) {old : Array Value} (k : Blk w g old 106) (hl : old.size = 17)
    (h : ∀ w', Blk w' g m 106 → w.grownBy w' (some g) → K (a.put o.dst undef) w') : o.wp Try.prog a w K Q := by
  refine wp_stB _ x y ho g 0 hx m.toList hy (old := old.toList) k (by rw [Array.length_toList, Array.length_toList, hm.1, hl]; omega) (by rw [Array.length_toList, hm.1]; exact szMod) (fun v hv => ?_) (fun w' hk hg => h w' ?_ hg)
  · exact Array.all_eq_true_iff_forall_mem.1 hm.2 v (by simpa using hv)
  · rw [List.take_zero, List.nil_append, Array.length_toList, hm.1, List.drop_eq_nil_of_le (by rw [Array.length_toList, hl]; omega), List.append_nil, Array.toArray_toList] at hk
    exact hk
theorem wpl_stX (hgd : o.guard = none) (x y : Operand) (ho : o.op = .store 106 x y) (g : Nat) (hx : a.eval x = .pointer (some ⟨g, 0, none⟩)) (hy : a.eval y = .agg m) (hm : IsM m) {old : Array Value} (k : Blk w g old 106) (hl : old.size = 17)
    (h : ∀ w', Blk w' g m 106 → w.grownBy w' (some g) → wpList Try.prog ops Q rest (a.put o.dst undef) w') : wpList Try.prog ops Q (o :: rest) a w :=
  wpList_plain hgd fun _ hK => wp_stX x y ho g hx hy hm k hl fun w' h1 h2 => hK _ _ (h w' h1 h2)
theorem step_stX (hw : Region.wanted o (yielded ops a.tmps) = true) (x y : Operand) (ho : o.op = .store 106 x y) (g : Nat) (hx : a.eval x = .pointer (some ⟨g, 0, none⟩)) (hy : a.eval y = .agg m) (hm : IsM m) {old : Array Value} (k : Blk w g old 106) (hl : old.size = 17)
    (h : ∀ w', Blk w' g m 106 → w.grownBy w' (some g) → K (a.put o.dst undef) w') : if Region.wanted o (yielded ops a.tmps) = true then Oper.wp Try.prog o a w K Q else E := by
  rw [if_pos hw]
  exact wp_stX x y ho g hx hy hm k hl h
theorem wpl_ldO (hgd : o.guard = none) (x : Operand) (ho : o.op = .load 109 x) (g : Nat) (hx : a.eval x = .pointer (some ⟨g, 0, none⟩)) {os : List Value} (k : Blk w g os.toArray 109) (hl : os.length = 21)
    (h : wpList Try.prog ops Q rest (a.put o.dst (.agg os.toArray)) w) : wpList Try.prog ops Q (o :: rest) a w := by
  obtain ⟨fs, hu⟩ := undOp
  exact wpList_load_row hgd _ x ho g hx _ _ (0, 0) _ k hu rfl (by rw [List.size_toArray, hl]; exact szOp) h
theorem wpl_ldRo (hgd : o.guard = none) (x : Operand) (ho : o.op = .load 26 x) (g i : Nat) (hx : a.eval x = .pointer (some ⟨g, i, none⟩)) (k : w.rangeAt g i rq) (h12 : Rq12 rq)
    (h : wpList Try.prog ops Q rest (a.put o.dst (.agg rq.toArray)) w) : wpList Try.prog ops Q (o :: rest) a w := by
  obtain ⟨fs, hu⟩ := undRq
  exact wpList_load_mid hgd _ x ho g i hx rq _ k hu rfl (by rw [h12.1]; exact szRq) h
theorem wpl_ldAo (hgd : o.guard = none) (x : Operand) (ho : o.op = .load 29 x) (g i : Nat) (hx : a.eval x = .pointer (some ⟨g, i, none⟩)) (k : w.rangeAt g i ac) (h7 : ac.length = 7)
    (h : wpList Try.prog ops Q rest (a.put o.dst (.agg ac.toArray)) w) : wpList Try.prog ops Q (o :: rest) a w := by
  obtain ⟨fs, hu⟩ := undAns
  exact wpList_load_mid hgd _ x ho g i hx ac _ k hu rfl (by rw [h7]; exact szAns) h
theorem yi_ldRo (hw : Region.wanted o (yielded ops a.tmps) = true) (x : Operand) (ho : o.op = .load 26 x) (g i : Nat) (hx : a.eval x = .pointer (some ⟨g, i, none⟩)) (h12 : Rq12 rq) (hS : ∀ w, S w → w.rangeAt g i rq) :
    YieldsIf Try.prog ops S o (.agg rq.toArray) a := by
  obtain ⟨fs, hu⟩ := undRq
  exact yieldsIf_load_mid hw _ x ho g i hx rq _ hS hu rfl (by rw [h12.1]; exact szRq)
theorem yi_ldAo (hw : Region.wanted o (yielded ops a.tmps) = true) (x : Operand) (ho : o.op = .load 29 x) (g i : Nat) (hx : a.eval x = .pointer (some ⟨g, i, none⟩)) (h7 : ac.length = 7) (hS : ∀ w, S w → w.rangeAt g i ac) :
    YieldsIf Try.prog ops S o (.agg ac.toArray) a := by
  obtain ⟨fs, hu⟩ := undAns
  exact yieldsIf_load_mid hw _ x ho g i hx ac _ hS hu rfl (by rw [h7]; exact szAns)
end
def RdN (w : World) (F : Nat → Prop) (A : Option Addr) (n c : Nat) (l : List UInt8) : Prop := Rd w w.heap.size A n c l ∧ (0 < n → ∀ k, obk A = some k → k < w.heap.size ∧ ¬ F k)
theorem RdN.kp {w w' : World} {F F' : Nat → Prop} {A : Option Addr} {n c : Nat} {l : List UInt8} (r : RdN w F A n c l) {G : Nat → Prop} (h : Kp w w' G) (hG : ∀ k, k < w.heap.size → G k → F k) (hF : ∀ k, k < w.heap.size → F' k → F k) : RdN w' F' A n c l := by
  rcases Nat.eq_zero_or_pos n with h0 | h0
  · subst h0
    obtain ⟨⟨a1, a2, a3, a4, a5, a6⟩, r2⟩ := r
    refine ⟨⟨a1, a2, a3, a4, fun _ _ h => absurd h (by omega), fun ad j v hA hu => ?_⟩, fun h => absurd h (by omega)⟩
    have := (List.getElem?_eq_some_iff.1 hu).1
    omega
  · have h1 : RdF w F A n c l := ⟨r.1, r.2 h0⟩
    have h2 := h1.kp h hG hF
    exact ⟨h2.1, fun _ => h2.2⟩
def RzN (w : World) (F : Nat → Prop) (z : Nat) (A : Option Addr) (n c : Nat) (xs : List Value) : Prop := Rz w w.heap.size z A n c xs ∧ (0 < n → ∀ k, obk A = some k → k < w.heap.size ∧ ¬ F k)
theorem RzN.kp {w w' : World} {F F' : Nat → Prop} {z : Nat} {A : Option Addr} {n c : Nat} {xs : List Value} (r : RzN w F z A n c xs) {G : Nat → Prop} (h : Kp w w' G) (hG : ∀ k, k < w.heap.size → G k → F k) (hF : ∀ k, k < w.heap.size → F' k → F k) : RzN w' F' z A n c xs := by
  obtain ⟨⟨a1, a2, a3, a4, a5, a6⟩, r2⟩ := r
  refine ⟨⟨a1, a2, a3, a4, fun ad hA hn => Nat.lt_of_lt_of_le (a5 ad hA hn) h.size, fun ad j v hA hu => ?_⟩, fun hn k hk => ?_⟩
  · subst hA
    have hn : 0 < n := by
      rcases Nat.eq_zero_or_pos n with h0 | h0
      · subst h0
        have := (List.getElem?_eq_some_iff.1 hu).1
        omega
      · exact h0
    obtain ⟨b1, b2⟩ := r2 hn ad.block rfl
    rw [World.cell?_of_block (w := w) (h.block _ (by rw [block_add]; exact b1) (by rw [block_add]; exact fun hg => b2 (hG _ b1 hg)))]
    exact a6 ad j v rfl hu
  · obtain ⟨b1, b2⟩ := r2 hn k hk
    exact ⟨Nat.lt_of_lt_of_le b1 h.size, fun hf => b2 (hF k b1 hf)⟩
def kdN (j : Nat) : Int := match j with | 0 => 0 | 1 => 0 | 2 => 1 | 3 => 2 | 4 => 2 | 5 => 2 | 6 => 3 | _ => 4
def kdI (k : Int) : Int := kdN (k % 8).toNat
set_option maxRecDepth 100000 in
set_option maxHeartbeats 4000000 in
theorem kind_any (k : Int) (BA : Option Addr) (bn bc : Nat) (rqo ac : List Value) (w : World) : Calls Try.prog 111 #[.agg (opL k BA bn bc rqo ac).toArray] w fun e w' => e = .returned (.int .i64 (kdI k)) ∧ Below w.heap.size w w' := by
  have k1 := Blk.new w (opL k BA bn bc rqo ac).toArray 109
  have b := below_a1' (Below.refl w.heap.size w) (.cells (opL k BA bn bc rqo ac).toArray 109)
  obtain ⟨j, hj⟩ : ∃ j : Nat, j = (k % 8).toNat := ⟨_, rfl⟩
  have hj8 : j < 8 := by omega
  have hu : (IntKind.u64.wrap k).tmod 8 = (j : Int) := by
    have e : IntKind.u64.wrap k = k % 18446744073709551616 := by simp [IntKind.wrap, IntKind.signed, IntKind.bits]
    rw [e, Int.tmod_eq_emod_of_nonneg (by omega)]
    omega
  have hkd : kdI k = kdN j := by unfold kdI; rw [← hj]
  rw [hkd]
  have HB := Lib.hid b
  go_enter Try.func111, Try.ntmps111
  go_upto_region 1 with fail
  generalize w.alloc (.cells (opL k BA bn bc rqo ac).toArray 109) = W0 at k1 b HB ⊢
  obtain ⟨z0, z1⟩ := opL_01 k1
  clear hj hkd k1 b
  have h8 : j = 0 ∨ j = 1 ∨ j = 2 ∨ j = 3 ∨ j = 4 ∨ j = 5 ∨ j = 6 ∨ j = 7 := by omega
  clear hj8
  rcases h8 with rfl | rfl | rfl | rfl | rfl | rfl | rfl | rfl
  · have hu : (IntKind.u64.wrap k).tmod 8 = 0 := hu
    have x : ∀ w : World, (Instr.index 179 (.agg #[.int .i64 0, .int .i64 0, .int .i64 1, .int .i64 2, .int .i64 2, .int .i64 2, .int .i64 3, .int .i64 4]) (.int .u64 0)).run Try.prog w = .ok (.int .i64 0) w := fun _ => by kernel_rfl
    go_wp2_with fail
    go_ret
    exact ⟨rfl, HB.out⟩
  · have hu : (IntKind.u64.wrap k).tmod 8 = 1 := hu
    have x : ∀ w : World, (Instr.index 179 (.agg #[.int .i64 0, .int .i64 0, .int .i64 1, .int .i64 2, .int .i64 2, .int .i64 2, .int .i64 3, .int .i64 4]) (.int .u64 1)).run Try.prog w = .ok (.int .i64 0) w := fun _ => by kernel_rfl
    go_wp2_with fail
    go_ret
    exact ⟨rfl, HB.out⟩
  · have hu : (IntKind.u64.wrap k).tmod 8 = 2 := hu
    have x : ∀ w : World, (Instr.index 179 (.agg #[.int .i64 0, .int .i64 0, .int .i64 1, .int .i64 2, .int .i64 2, .int .i64 2, .int .i64 3, .int .i64 4]) (.int .u64 2)).run Try.prog w = .ok (.int .i64 1) w := fun _ => by kernel_rfl
    go_wp2_with fail
    go_ret
    exact ⟨rfl, HB.out⟩
  · have hu : (IntKind.u64.wrap k).tmod 8 = 3 := hu
    have x : ∀ w : World, (Instr.index 179 (.agg #[.int .i64 0, .int .i64 0, .int .i64 1, .int .i64 2, .int .i64 2, .int .i64 2, .int .i64 3, .int .i64 4]) (.int .u64 3)).run Try.prog w = .ok (.int .i64 2) w := fun _ => by kernel_rfl
    go_wp2_with fail
    go_ret
    exact ⟨rfl, HB.out⟩
  · have hu : (IntKind.u64.wrap k).tmod 8 = 4 := hu
    have x : ∀ w : World, (Instr.index 179 (.agg #[.int .i64 0, .int .i64 0, .int .i64 1, .int .i64 2, .int .i64 2, .int .i64 2, .int .i64 3, .int .i64 4]) (.int .u64 4)).run Try.prog w = .ok (.int .i64 2) w := fun _ => by kernel_rfl
    go_wp2_with fail
    go_ret
    exact ⟨rfl, HB.out⟩
  · have hu : (IntKind.u64.wrap k).tmod 8 = 5 := hu
    have x : ∀ w : World, (Instr.index 179 (.agg #[.int .i64 0, .int .i64 0, .int .i64 1, .int .i64 2, .int .i64 2, .int .i64 2, .int .i64 3, .int .i64 4]) (.int .u64 5)).run Try.prog w = .ok (.int .i64 2) w := fun _ => by kernel_rfl
    go_wp2_with fail
    go_ret
    exact ⟨rfl, HB.out⟩
  · have hu : (IntKind.u64.wrap k).tmod 8 = 6 := hu
    have x : ∀ w : World, (Instr.index 179 (.agg #[.int .i64 0, .int .i64 0, .int .i64 1, .int .i64 2, .int .i64 2, .int .i64 2, .int .i64 3, .int .i64 4]) (.int .u64 6)).run Try.prog w = .ok (.int .i64 3) w := fun _ => by kernel_rfl
    go_wp2_with fail
    go_ret
    exact ⟨rfl, HB.out⟩
  · have hu : (IntKind.u64.wrap k).tmod 8 = 7 := hu
    have x : ∀ w : World, (Instr.index 179 (.agg #[.int .i64 0, .int .i64 0, .int .i64 1, .int .i64 2, .int .i64 2, .int .i64 2, .int .i64 3, .int .i64 4]) (.int .u64 7)).run Try.prog w = .ok (.int .i64 4) w := fun _ => by kernel_rfl
    go_wp2_with fail
    go_ret
    exact ⟨rfl, HB.out⟩
end
section
set_option linter.unusedSimpArgs false
open Go.RowKit
theorem Wr.kp {w w' : World} {B U n : Nat} {A : Option Addr} (h : Wr w B U A n) {F : Nat → Prop} (hk : Kp w w' F) (hF : ∀ k, B ≤ k → k < U → ¬ F k) : Wr w' B U A n := by
  rcases h with h | ⟨g, cs, hA, hB, hU, hh, hn⟩
  · exact .inl h
  · exact .inr ⟨g, cs, hA, hB, hU, (hk.block g (Array.getElem?_eq_some_iff.1 hh).1 (hF g hB hU)).trans hh, hn⟩
set_option maxRecDepth 100000 in
set_option maxHeartbeats 16000000 in
theorem wdoes0 (w : World) (gc gy : Nat) (k : Int) (BA : Option Addr) (bn bc : Nat) (rqo ac : List Value) (h12 : Rq12 rqo) (h7 : ac.length = 7) (G : Nat → Prop) (hG : ∀ k, G k → k < w.heap.size) (hgy : G gy) (m0 : Array Value) (hm0 : IsM m0) (kg : Blk w gy m0 106) (R : World → Prop) (hR : ∀ W, R W → ∃ v0 v1 v2 b m, Blk W gc #[v0, v1, v2, .bool b] 160 ∧ Blk W gy m 106 ∧ m[16]? = some (.bool b)) (hk : kdI k = 0) (lb : List UInt8) (rb : RdN w G BA bn bc lb) (hbn : bn ≤ 140737488355328) (HC : ∀ W A1 c1, Below w.heap.size w W → Rd W W.heap.size A1 bn c1 lb → Calls Try.prog 65 #[.pointer (some ⟨gc, 0, none⟩), .slice A1 bn c1] W (fun e W1 => ∃ er, e = .returned (.int .i64 er) ∧ Kp W W1 G ∧ Blk W1 gy m0 106 ∧ ∀ W2, Below W1.heap.size W1 W2 → Calls Try.prog 112 #[.agg m0, .slice BA bn bc] W2 (fun e W3 => ∃ m1, e = .returned (.tuple #[.agg m1, .int .i64 er]) ∧ IsM m1 ∧ Below W2.heap.size W2 W3 ∧ ∀ W4 W5, Blk W4 gy m1 106 → Kp W3 W4 (fun k => k = gy) → Kp W4 W5 (fun k => w.heap.size ≤ k ∧ k < W.heap.size) → R W5))) : Calls Try.prog 72 #[.pointer (some ⟨gc, 0, none⟩), .pointer (some ⟨gy, 0, none⟩), .agg (opL k BA bn bc rqo ac).toArray] w fun e w' => e = .returned (.bool true) ∧ R w' ∧ Kp w w' G := by
  have HC := Lib.hid HC
  have HBN := Lib.hid hbn
  clear hbn
  have kb := Blk.new w (opL k BA bn bc rqo ac).toArray 109
  have b := below_a1' (Below.refl w.heap.size w) (.cells (opL k BA bn bc rqo ac).toArray 109)
  have HGL := Lib.hid hG
  have hlo : (opL k BA bn bc rqo ac).length = 21 := opL_len h12 h7
  have HGY : Hid (gy < w.heap.size) := Lib.hid (hG gy hgy)
  have HR := Lib.hid hR
  have hgy' := Lib.hid hgy
  clear hG hR hgy
  go_enter Try.func72, Try.ntmps72
  go_upto_region 2 with fail
  generalize w.alloc (.cells (opL k BA bn bc rqo ac).toArray 109) = W0 at kb b ⊢
  go_wp2_with (first | refine wpl_ldO rfl _ rfl w.heap.size rfl kb hlo ?_)
  refine (kind_any k BA bn bc rqo ac W0).mono ?_
  rintro e W1 ⟨rfl, b1⟩
  rw [hk]
  replace kb := kb.step b1
  replace b := below_step b b1
  replace kg : Blk W1 gy m0 106 := kg.step b
  clear b1 hk hlo
  have hw0 : w.heap.size < W1.heap.size := kb.lt
  have o0 : Own (W1.alloc (.cells #[] 5)) (w.heap.size + 1) (some ⟨W1.heap.size, 0, none⟩) 0 0 [] := Own.emptyK W1 _ _ rfl hw0
  replace kb := kb.alloc (.cells #[] 5)
  replace kg := kg.alloc (.cells #[] 5)
  replace b := below_a1' b (.cells #[] 5)
  have ra := rb.kp (Kp.of_below b G) (fun _ _ e => e) (fun _ _ e => e)
  obtain ⟨z0, z1⟩ := opL_01 kb
  go_wp2_with (at_builtin; refine wpList_app8 _ rfl _ _ rfl (w.heap.size + 1) (some ⟨W1.heap.size, 0, none⟩) 0 0 [] rfl o0 _ BA bn bc lb rfl ra.1 (by have := HBN.out; omega) (by rw [World.size_alloc]; omega) ?_)
  intro A2 c2 W2 o2 b2
  have kb2 : Blk W2 w.heap.size (opL k BA bn bc rqo ac).toArray 109 := (b2.block _ (by omega)).trans kb
  have kg2 : Blk W2 gy m0 106 := (b2.block _ (by have := HGY.out; omega)).trans kg
  replace b := b.trans (b2.mono (by omega))
  clear kb kg b2 o0 ra z0 z1 hw0
  go_wp2_with fail
  refine (HC.out W2 A2 c2 b o2.rd).mono ?_
  rintro e W3 ⟨er, rfl, hk3, kg3, HM⟩
  replace HM := Lib.hid HM
  have hfr : ∀ k, obk A2 = some k → w.heap.size + 1 ≤ k ∧ k < W2.heap.size := fun k hk => World.ownsRow.lt o2 k (by rw [obk_eq]; exact hk)
  have HWR : Hid (Wr W2 (w.heap.size + 1) W2.heap.size A2 bn) := Lib.hid o2.wr
  have kb3 := hk3.blk kb2 (fun e => by have := HGL.out _ e; omega)
  have o3 := o2.kp hk3 (fun k hk e => by have h1 := hfr k hk; have h2 := HGL.out k e; omega)
  have bk := (Kp.of_below b G).after hk3 (fun _ _ e => e)
  have HK3 := Lib.hid hk3
  have hs3 := hk3.size
  clear hk3 kb2 kg2 o2 b
  have bm := Below.refl W3.heap.size W3
  go_upto_region 16 with fail
  refine wp_region_noPanic ?_
  refine region_T (fun wx => Blk wx w.heap.size (opL k BA bn bc rqo ac).toArray 109) 13 (by kernel_rfl) ?_
  have bD : Below W3.heap.size W3 W3.drew := (Below.refl _ _).drew
  have hHeld := kb3.step bD
  replace kg3 := kg3.step bD
  replace bm := below_step bm bD
  clear kb3 bD
  generalize W3.drew = Y0 at hHeld kg3 bm ⊢
  refine takeA (i := 0) (v := ?_) rfl (fun _ _ _ h => h) (Or.inl ⟨by rfl, ?_⟩) hHeld ?_
  rotate_left
  · (intro wx hSw; go_simp; try (with_reducible rfl))
  try simp only [Act.put, List.setIfInBounds_toArray, List.set_cons_zero, List.set_cons_succ]
  refine takeA (i := 1) (v := ?_) rfl (fun _ _ _ h => h) (Or.inl ⟨by rfl, ?_⟩) hHeld ?_
  rotate_left
  · (intro wx hSw; go_simp; try (with_reducible rfl))
  try simp only [Act.put, List.setIfInBounds_toArray, List.set_cons_zero, List.set_cons_succ]
  refine takeA (i := 4) (v := ?_) rfl (fun _ _ _ h => h) (Or.inl ⟨by rfl, ?_⟩) hHeld ?_
  rotate_left
  · (intro wx hSw; go_simp; try (with_reducible rfl))
  try simp only [Act.put, List.setIfInBounds_toArray, List.set_cons_zero, List.set_cons_succ]
  refine takeA (i := 5) (v := ?_) rfl (fun _ _ _ h => h) (Or.inl ⟨by rfl, ?_⟩) hHeld ?_
  rotate_left
  · (intro wx hSw; obtain ⟨z0, z1⟩ := opL_01 hSw; go_simp; try (with_reducible rfl))
  try simp only [Act.put, List.setIfInBounds_toArray, List.set_cons_zero, List.set_cons_succ]
  refine takeA (i := 2) (v := ?_) rfl (fun _ _ _ h => h) (Or.inl ⟨by rfl, ?_⟩) hHeld ?_
  rotate_left
  · (intro wx hSw; go_simp; try (with_reducible rfl))
  try simp only [Act.put, List.setIfInBounds_toArray, List.set_cons_zero, List.set_cons_succ]
  refine oneT (i := 3) rfl (by kernel_rfl) (fun KK hK => ?_)
  refine step_ldX rfl _ rfl gy rfl kg3 hm0 ?_
  refine hK.out _ _ (fun _ => hHeld) ?_
  clear hK KK
  try simp only [Act.put, List.setIfInBounds_toArray, List.set_cons_zero, List.set_cons_succ]
  refine oneT (i := 6) rfl (by kernel_rfl) (fun KK hK => ?_)
  go_simp
  refine (HM.out Y0 bm).mono ?_
  rintro e Y1 ⟨m1, rfl, hm1, b4, HX⟩
  replace HX := Lib.hid HX
  replace hHeld := hHeld.step b4
  replace kg3 := kg3.step b4
  replace bm := below_step bm b4
  clear b4
  refine hK.out _ _ (fun _ => hHeld) ?_
  clear hK KK
  try simp only [Act.put, List.setIfInBounds_toArray, List.set_cons_zero, List.set_cons_succ]
  refine takeA (i := 7) (v := ?_) rfl (fun _ _ _ h => h) (Or.inl ⟨by rfl, ?_⟩) hHeld ?_
  rotate_left
  · (intro wx hSw; go_simp; try (with_reducible rfl))
  try simp only [Act.put, List.setIfInBounds_toArray, List.set_cons_zero, List.set_cons_succ]
  refine takeA (i := 8) (v := ?_) rfl (fun _ _ _ h => h) (Or.inl ⟨by rfl, ?_⟩) hHeld ?_
  rotate_left
  · (intro wx hSw; go_simp; try (with_reducible rfl))
  try simp only [Act.put, List.setIfInBounds_toArray, List.set_cons_zero, List.set_cons_succ]
  refine takeA (i := 9) (v := ?_) rfl (fun _ _ _ h => h) (Or.inl ⟨by rfl, ?_⟩) hHeld ?_
  rotate_left
  · (intro wx hSw; go_simp; try (with_reducible rfl))
  try simp only [Act.put, List.setIfInBounds_toArray, List.set_cons_zero, List.set_cons_succ]
  refine takeA (i := 10) (v := ?_) rfl (fun _ _ _ h => h) (Or.inl ⟨by rfl, ?_⟩) hHeld ?_
  rotate_left
  · (intro wx hSw; go_simp; try (with_reducible rfl))
  try simp only [Act.put, List.setIfInBounds_toArray, List.set_cons_zero, List.set_cons_succ]
  refine oneT (i := 11) rfl (by kernel_rfl) (fun KK hK => ?_)
  refine step_stX (m := m1) rfl _ _ rfl gy rfl rfl hm1 kg3 hm0.1 (fun Y2 kg5 g5 => ?_)
  have hHeld2 := hHeld.leftC g5 (by have := HGY.out; omega)
  clear hHeld
  have hHeld := hHeld2
  clear hHeld2
  refine hK.out _ _ (fun _ => hHeld) ?_
  clear hK KK
  try simp only [Act.put, List.setIfInBounds_toArray, List.set_cons_zero, List.set_cons_succ]
  refine takeA (i := 12) (v := ?_) rfl (fun _ _ _ h => h) (Or.inl ⟨by rfl, ?_⟩) hHeld ?_
  rotate_left
  · (intro wx hSw; go_simp; try (with_reducible rfl))
  try simp only [Act.put, List.setIfInBounds_toArray, List.set_cons_zero, List.set_cons_succ]
  refine doneT (by kernel_rfl) ?_ _
  refine NoPanic.normal ?_
  have kb := hHeld
  clear hHeld
  have hkm := Kp.of_below bm G
  have hk5 : Kp Y1 Y2 (fun k => k = gy) := Kp.of_grown g5
  have hkg : Kp W3 Y2 G := hkm.after hk5 (fun k _ e => by rw [e]; exact hgy'.out)
  replace bk := bk.after hkg (fun _ _ e => e)
  have o4 := o3.kp hkg (fun k hk e => by have h1 := hfr k hk; have h2 := HGL.out k e; omega)
  have rb4 := rb.kp bk (fun _ _ e => e) (fun _ _ e => e)
  have hwr : Wr Y2 (w.heap.size + 1) W2.heap.size A2 bn := HWR.out.kp (HK3.out.after hkg (fun _ _ e => e)) (fun k h1 _ e => by have := HGL.out k e; omega)
  have HEQ : Hid (Calls Try.prog 74 #[.slice A2 bn c2, .slice BA bn bc] Y2 fun e w' => e = .returned (.bool true) ∧ Y2 = w') := Lib.hid (by have h := bytesEqual_any A2 BA bn c2 bn bc _ _ lb lb Y2 o4.rd rb4.1; rw [show (lb == lb) = true by simp] at h; exact h)
  replace HX : Hid (∀ W5, Kp Y2 W5 (fun k => w.heap.size ≤ k ∧ k < W2.heap.size) → R W5) := Lib.hid (fun W5 h => HX.out Y2 W5 kg5 hk5 h)
  have HBM : Hid (bn ≤ 9223372036854775800) := Lib.hid (by have := HBN.out; omega)
  clear hkm hk5 hkg o3 o4 rb4 HM bm kg3 kg5 g5 HK3 HWR hfr hs3
  obtain ⟨z0, z1⟩ := opL_01 kb
  go_wp2_with fail
  refine HEQ.out.mono ?_
  rintro e Y3 ⟨rfl, hY⟩
  subst hY
  clear HEQ
  go_wp2_with fail
  clear z0 z1
  go_loopw [10, 72] (fun y i wr => ∃ j : Nat, j ≤ bn ∧ i = .int .i64 (j : Nat) ∧ Wr wr (w.heap.size + 1) W2.heap.size A2 bn ∧ Kp Y2 wr (fun k => w.heap.size ≤ k ∧ k < W2.heap.size)) (fun _ i _ => bn - (intOf i).toNat)
  case atStart => exact ⟨0, Nat.zero_le _, rfl, hwr, Kp.refl _ _⟩
  case round =>
    clear hwr kb
    obtain ⟨j, hj, rfl, hwr, hkp⟩ := hrel
    by_cases hlt : j < bn
    · obtain ⟨g, v, hA, hBg, hU, hl, hc, hf⟩ := hwr.at_ hlt
      subst hA
      have hlt' : ((j : Int) < (bn : Int)) = True := eq_true (by omega)
      have HLT : Hid (j + 1 ≤ bn) := Lib.hid (by omega)
      have HJP : IntKind.i64.wrap ((j : Int) + 1) = (j : Int) + 1 := IntWalk.i64_in _ (by have := HBM.out; omega)
      have HRL := Lib.hid (And.intro (hwr.set g j (.int .u8 238)) (hkp.after (Kp.of_grown (rdr_grown_set wr g j (.int .u8 238))) (fun k _ e => by rw [e]; exact ⟨by omega, hU⟩)))
      clear hlt hwr hkp
      go_wp2_with fail
      go_roundw
      case rel => exact ⟨j + 1, HLT.out, by first | rfl | go_num, HRL.out.1, HRL.out.2⟩
      case measure => have := HLT.out; simp [intOf]; omega
    · have hlt' : ((j : Int) < (bn : Int)) = False := eq_false (by omega)
      clear hlt hwr
      obtain ⟨v0, v1, v2, bb, mm, hc, hy, hmm⟩ := HR.out _ ((fun {W5} (h : Kp wr W5 (fun k => w.heap.size ≤ k ∧ k < W2.heap.size)) => HX.out W5 (hkp.trans h)) (Kp.refl _ _))
      go_upto_region 43 with fail
      refine wp_region_noPanic ?_
      refine region_T (fun wx => Blk wx gc #[v0, v1, v2, .bool bb] 160 ∧ Blk wx gy mm 106) 13 (by kernel_rfl) ?_
      have bD : Below wr.heap.size wr wr.drew := (Below.refl _ _).drew
      have hHeld := And.intro (hc.step bD) (hy.step bD)
      have HQ : Hid (R wr.drew ∧ Kp w wr.drew G) := Lib.hid ⟨(fun {W5} (h : Kp wr W5 (fun k => w.heap.size ≤ k ∧ k < W2.heap.size)) => HX.out W5 (hkp.trans h)) (Kp.of_below bD _), (bk.after hkp (fun k h e => by omega)).after (Kp.of_below bD G) (fun _ _ e => e)⟩
      clear hc hy bD
      generalize wr.drew = Z0 at hHeld HQ ⊢
      refine takeA (i := 0) (v := ?_) rfl (fun _ _ _ h => h) (Or.inl ⟨by rfl, ?_⟩) hHeld ?_
      rotate_left
      · (intro wx hSw; go_simp; try (with_reducible rfl))
      try simp only [Act.put, List.setIfInBounds_toArray, List.set_cons_zero, List.set_cons_succ]
      refine takeA (i := 1) (v := ?_) rfl (fun _ _ _ h => h) (Or.inl ⟨by rfl, ?_⟩) hHeld ?_
      rotate_left
      · (intro wx hSw; go_simp; try (with_reducible rfl))
      try simp only [Act.put, List.setIfInBounds_toArray, List.set_cons_zero, List.set_cons_succ]
      refine takeA (i := 2) (v := ?_) rfl (fun _ _ _ h => h) (Or.inl ⟨by rfl, ?_⟩) hHeld ?_
      rotate_left
      · (intro wx hSw; go_simp; try (with_reducible rfl))
      try simp only [Act.put, List.setIfInBounds_toArray, List.set_cons_zero, List.set_cons_succ]
      refine takeA (i := 3) (v := ?_) rfl (fun _ _ _ h => h) (Or.inl ⟨by rfl, ?_⟩) hHeld ?_
      rotate_left
      · (intro wx hSw; go_simp; try (with_reducible rfl))
      try simp only [Act.put, List.setIfInBounds_toArray, List.set_cons_zero, List.set_cons_succ]
      refine takeA (i := 4) (v := ?_) rfl (fun _ _ _ h => h) (Or.inl ⟨by rfl, ?_⟩) hHeld ?_
      rotate_left
      · (intro wx hSw; go_simp; try (with_reducible rfl))
      try simp only [Act.put, List.setIfInBounds_toArray, List.set_cons_zero, List.set_cons_succ]
      refine takeA (i := 6) (v := ?_) rfl (fun _ _ _ h => h) (Or.inl ⟨by rfl, ?_⟩) hHeld ?_
      rotate_left
      · (intro wx hSw; go_simp; try (with_reducible rfl))
      try simp only [Act.put, List.setIfInBounds_toArray, List.set_cons_zero, List.set_cons_succ]
      refine takeA (i := 7) (v := ?_) rfl (fun _ _ _ h => h) (Or.inl ⟨by rfl, ?_⟩) hHeld ?_
      rotate_left
      · (intro wx hSw; go_simp; try (with_reducible rfl))
      try simp only [Act.put, List.setIfInBounds_toArray, List.set_cons_zero, List.set_cons_succ]
      refine takeA (i := 8) (v := ?_) rfl (fun _ _ _ h => h) (Or.inl ⟨by rfl, ?_⟩) hHeld ?_
      rotate_left
      · (intro wx hSw; go_simp; try (with_reducible rfl))
      try simp only [Act.put, List.setIfInBounds_toArray, List.set_cons_zero, List.set_cons_succ]
      refine takeA (i := 9) (v := ?_) rfl (fun _ _ _ h => h) (Or.inl ⟨by rfl, ?_⟩) hHeld ?_
      rotate_left
      · (intro wx hSw; have hc16 := (cell_of_row wx gy 16 _ _ (0, 0) hSw.2).trans hmm; go_simp; try (with_reducible rfl))
      try simp only [Act.put, List.setIfInBounds_toArray, List.set_cons_zero, List.set_cons_succ]
      refine oneT (i := 5) rfl (by kernel_rfl) (fun KK hK => ?_)
      go_simp
      refine (cclosed_any gc v0 v1 v2 bb Z0 hHeld.1).mono ?_
      rintro e Z1 ⟨rfl, hZ⟩
      subst hZ
      refine hK.out _ _ (fun _ => hHeld) ?_
      clear hK KK
      try simp only [Act.put, List.setIfInBounds_toArray, List.set_cons_zero, List.set_cons_succ]
      refine takeA (i := 10) (v := ?_) rfl (fun _ _ _ h => h) (Or.inl ⟨by rfl, ?_⟩) hHeld ?_
      rotate_left
      · (intro wx hSw; go_simp; try (with_reducible rfl))
      try simp only [Act.put, List.setIfInBounds_toArray, List.set_cons_zero, List.set_cons_succ]
      refine takeA (i := 11) (v := ?_) rfl (fun _ _ _ h => h) (Or.inl ⟨by rfl, ?_⟩) hHeld ?_
      rotate_left
      · (intro wx hSw; go_simp; try (with_reducible rfl))
      try simp only [Act.put, List.setIfInBounds_toArray, List.set_cons_zero, List.set_cons_succ]
      refine takeA (i := 12) (v := ?_) rfl (fun _ _ _ h => h) (Or.inl ⟨by rfl, ?_⟩) hHeld ?_
      rotate_left
      · (intro wx hSw; go_simp; try (with_reducible rfl))
      try simp only [Act.put, List.setIfInBounds_toArray, List.set_cons_zero, List.set_cons_succ]
      refine doneT (by kernel_rfl) ?_ _
      refine NoPanic.normal ?_
      clear hHeld
      go_wp2_with fail
      go_ret
      exact ⟨rfl, HQ.out⟩
end
section
set_option linter.unusedSimpArgs false
open Go.RowKit
set_option maxRecDepth 100000 in
set_option maxHeartbeats 16000000 in
theorem wdoes1 (w : World) (gc gy : Nat) (k : Int) (BA : Option Addr) (bn bc : Nat) (rqo ac : List Value) (h12 : Rq12 rqo) (h7 : ac.length = 7) (G : Nat → Prop) (hG : ∀ k, G k → k < w.heap.size) (hgy : G gy) (m0 : Array Value) (hm0 : IsM m0) (kg : Blk w gy m0 106) (R : World → Prop) (hR : ∀ W, R W → ∃ v0 v1 v2 b m, Blk W gc #[v0, v1, v2, .bool b] 160 ∧ Blk W gy m 106 ∧ m[16]? = some (.bool b)) (hk : kdI k = 1) (HC : ∀ W, Below w.heap.size w W → Calls Try.prog 64 #[.pointer (some ⟨gc, 0, none⟩)] W (fun e W1 => ∃ q K nk ck V nv cv ok lk, e = .returned (.tuple #[.agg (reqL q K nk ck V nv cv).toArray, .bool ok]) ∧ Own W1 W.heap.size K nk ck lk ∧ Kp W W1 G ∧ Blk W1 gy m0 106 ∧ ∀ W2, Below W1.heap.size W1 W2 → Calls Try.prog 113 #[.agg m0] W2 (fun e W3 => ∃ m1 rm, e = .returned (.tuple #[.agg m1, .agg rm.toArray, .bool ok]) ∧ IsM m1 ∧ Below W2.heap.size W2 W3 ∧ Rq12 rm ∧ (∀ W4, Kp W3 W4 (fun k => k = gy) → Calls Try.prog 45 #[.agg (reqL q K nk ck V nv cv).toArray, .agg rm.toArray] W4 (PSame true W4)) ∧ ∀ W4 W5, Blk W4 gy m1 106 → Kp W3 W4 (fun k => k = gy) → Kp W4 W5 (fun k => obk K = some k) → R W5))) : Calls Try.prog 72 #[.pointer (some ⟨gc, 0, none⟩), .pointer (some ⟨gy, 0, none⟩), .agg (opL k BA bn bc rqo ac).toArray] w fun e w' => e = .returned (.bool true) ∧ R w' ∧ Kp w w' G := by
  have HC := Lib.hid HC
  have kb := Blk.new w (opL k BA bn bc rqo ac).toArray 109
  have b := below_a1' (Below.refl w.heap.size w) (.cells (opL k BA bn bc rqo ac).toArray 109)
  have HGL := Lib.hid hG
  have hlo : (opL k BA bn bc rqo ac).length = 21 := opL_len h12 h7
  have HGY : Hid (gy < w.heap.size) := Lib.hid (hG gy hgy)
  have HR := Lib.hid hR
  have hgy' := Lib.hid hgy
  clear hG hR hgy
  go_enter Try.func72, Try.ntmps72
  go_upto_region 2 with fail
  generalize w.alloc (.cells (opL k BA bn bc rqo ac).toArray 109) = W0 at kb b ⊢
  go_wp2_with (first | refine wpl_ldO rfl _ rfl w.heap.size rfl kb hlo ?_)
  refine (kind_any k BA bn bc rqo ac W0).mono ?_
  rintro e W1 ⟨rfl, b1⟩
  rw [hk]
  replace kb := kb.step b1
  replace b := below_step b b1
  replace kg : Blk W1 gy m0 106 := kg.step b
  clear b1 hk hlo
  go_wp2_with fail
  refine (HC.out W1 b).mono ?_
  rintro e W3 ⟨q, K, nk, ck, V, nv, cv, ok, lk, rfl, oK, hk3, kg3, HM⟩
  have hs13 := hk3.size
  replace HM := Lib.hid HM
  have HBW := Lib.hid b.size
  have hfr : ∀ k, obk K = some k → W1.heap.size ≤ k ∧ k < W3.heap.size := fun k hk => World.ownsRow.lt oK k (by rw [obk_eq]; exact hk)
  have HWR : Hid (Wr W3 W1.heap.size W3.heap.size K nk) := Lib.hid oK.wr
  have hcm := oK.rd.cap
  have hmx := oK.rd.max
  unfold maxLen at hmx
  have HBM : Hid (nk ≤ 9223372036854775807) := Lib.hid (by omega)
  have bk := (Kp.of_below b G).after hk3 (fun _ _ e => e)
  clear hk3 kb kg b oK HC hcm hmx
  have q12 := reqL12 q K nk ck V nv cv
  have q12 := reqL12 q K nk ck V nv cv
  have k11 := Blk.new W3 #[.int .i64 0, .bool false, .bool false, .int .i64 0, .int .u32 0, .slice none 0 0, .slice none 0 0, .int .u32 0, .int .u32 0, .int .u64 0, .int .u64 0, .int .u64 0] 26
  have bm := below_a1' (Below.refl W3.heap.size W3) (.cells #[.int .i64 0, .bool false, .bool false, .int .i64 0, .int .u32 0, .slice none 0 0, .slice none 0 0, .int .u32 0, .int .u32 0, .int .u64 0, .int .u64 0, .int .u64 0] 26)
  replace kg3 := kg3.alloc (.cells #[.int .i64 0, .bool false, .bool false, .int .i64 0, .int .u32 0, .slice none 0 0, .slice none 0 0, .int .u32 0, .int .u32 0, .int .u64 0, .int .u64 0, .int .u64 0] 26)
  go_wp2_with (first | refine wpl_stR (rq := (reqL q K nk ck V nv cv)) (old := [.int .i64 0, .bool false, .bool false, .int .i64 0, .int .u32 0, .slice none 0 0, .slice none 0 0, .int .u32 0, .int .u32 0, .int .u64 0, .int .u64 0, .int .u64 0]) rfl _ _ rfl W3.heap.size rfl rfl q12 k11 rfl ?_)
  intro W4 k11' g11
  replace kg3 := kg3.leftC g11 (by have := HGY.out; have := HBW.out; have := bk.size; omega)
  replace bm := bm.trans (below_grown g11 (Nat.le_refl _) k11.lt)
  clear k11 g11
  have k11 := k11'
  clear k11'
  go_wp2_with (first | refine wpl_ldX rfl _ rfl gy rfl kg3 hm0 ?_)
  refine (HM.out W4 bm).mono ?_
  rintro e W5 ⟨m1, rm, rfl, hm1, b4, hr12, HS, HX⟩
  replace HS := Lib.hid HS
  replace HX := Lib.hid HX
  replace k11 := k11.step b4
  have h11 := k11.lt
  replace kg3 := kg3.step b4
  replace bm := below_step bm b4
  have bx := Below.refl W5.heap.size W5
  clear b4 HM
  have k13 := (Blk.new W5 #[.slice none 0 0, .bool false, .bool false, .int .i64 0, .bool false, .bool false, .int .i64 0, .int .u32 0, .slice none 0 0, .slice none 0 0, .int .u32 0, .int .u32 0, .int .u64 0, .int .u64 0, .int .u64 0, .slice none 0 0, .bool false] 106).alloc (.cells #[.int .i64 0, .bool false, .bool false, .int .i64 0, .int .u32 0, .slice none 0 0, .slice none 0 0, .int .u32 0, .int .u32 0, .int .u64 0, .int .u64 0, .int .u64 0] 26)
  have k14 := Blk.new (W5.alloc (.cells #[.slice none 0 0, .bool false, .bool false, .int .i64 0, .bool false, .bool false, .int .i64 0, .int .u32 0, .slice none 0 0, .slice none 0 0, .int .u32 0, .int .u32 0, .int .u64 0, .int .u64 0, .int .u64 0, .slice none 0 0, .bool false] 106)) #[.int .i64 0, .bool false, .bool false, .int .i64 0, .int .u32 0, .slice none 0 0, .slice none 0 0, .int .u32 0, .int .u32 0, .int .u64 0, .int .u64 0, .int .u64 0] 26
  rw [World.size_alloc] at k14
  replace k11 := (k11.alloc (.cells #[.slice none 0 0, .bool false, .bool false, .int .i64 0, .bool false, .bool false, .int .i64 0, .int .u32 0, .slice none 0 0, .slice none 0 0, .int .u32 0, .int .u32 0, .int .u64 0, .int .u64 0, .int .u64 0, .slice none 0 0, .bool false] 106)).alloc (.cells #[.int .i64 0, .bool false, .bool false, .int .i64 0, .int .u32 0, .slice none 0 0, .slice none 0 0, .int .u32 0, .int .u32 0, .int .u64 0, .int .u64 0, .int .u64 0] 26)
  replace kg3 := (kg3.alloc (.cells #[.slice none 0 0, .bool false, .bool false, .int .i64 0, .bool false, .bool false, .int .i64 0, .int .u32 0, .slice none 0 0, .slice none 0 0, .int .u32 0, .int .u32 0, .int .u64 0, .int .u64 0, .int .u64 0, .slice none 0 0, .bool false] 106)).alloc (.cells #[.int .i64 0, .bool false, .bool false, .int .i64 0, .int .u32 0, .slice none 0 0, .slice none 0 0, .int .u32 0, .int .u32 0, .int .u64 0, .int .u64 0, .int .u64 0] 26)
  replace bx := below_a1' (below_a1' bx (.cells #[.slice none 0 0, .bool false, .bool false, .int .i64 0, .bool false, .bool false, .int .i64 0, .int .u32 0, .slice none 0 0, .slice none 0 0, .int .u32 0, .int .u32 0, .int .u64 0, .int .u64 0, .int .u64 0, .slice none 0 0, .bool false] 106)) (.cells #[.int .i64 0, .bool false, .bool false, .int .i64 0, .int .u32 0, .slice none 0 0, .slice none 0 0, .int .u32 0, .int .u32 0, .int .u64 0, .int .u64 0, .int .u64 0] 26)
  have hg5 : gy < W5.heap.size := by have := HGY.out; have := HBW.out; have := bk.size; have := bm.size; omega
  have hg5 : gy < W5.heap.size := by have := HGY.out; have := HBW.out; have := bk.size; have := bm.size; omega
  go_wp2_with (first | refine wpl_stX (m := m1) rfl _ _ rfl W5.heap.size rfl rfl hm1 k13 rfl ?_)
  intro W6 k13' g13
  replace k14 := k14.leftC g13 (by omega)
  replace k11 := k11.leftC g13 (by omega)
  replace kg3 := kg3.leftC g13 (by omega)
  replace bx := bx.trans (below_grown g13 (Nat.le_refl _) k13.lt)
  clear k13 g13
  have k13 := k13'
  clear k13'
  go_wp2_with (first | refine wpl_stR (rq := rm) (old := [.int .i64 0, .bool false, .bool false, .int .i64 0, .int .u32 0, .slice none 0 0, .slice none 0 0, .int .u32 0, .int .u32 0, .int .u64 0, .int .u64 0, .int .u64 0]) rfl _ _ rfl (W5.heap.size + 1) rfl rfl hr12 k14 rfl ?_)
  intro W7 k14' g14
  replace k13 := k13.leftC g14 (by omega)
  replace k11 := k11.leftC g14 (by omega)
  replace kg3 := kg3.leftC g14 (by omega)
  replace bx := bx.trans (below_grown g14 (by omega) k14.lt)
  clear k14 g14
  have k14 := k14'
  clear k14'
  go_wp2_with (first | refine wpl_ldX rfl _ rfl W5.heap.size rfl k13 hm1 ?_ | refine wpl_stX (m := m1) rfl _ _ rfl gy rfl rfl hm1 kg3 hm0.1 ?_)
  intro W8 kg8 g8
  replace k14 := k14.leftC g8 (by omega)
  replace k11 := k11.leftC g8 (by have := HGY.out; have := HBW.out; have := bk.size; omega)
  have hk8 : Kp W5 W8 (fun k => k = gy) := (Kp.of_below bx (fun k => k = gy)).after (Kp.of_grown g8) (fun _ _ e => e)
  have hkb : Kp W3 W8 G := (Kp.of_below bm G).after hk8 (fun k _ e => by rw [e]; exact hgy'.out)
  have hwr := HWR.out.kp hkb (fun k h1 _ e => by have := HGL.out k e; have := HBW.out; omega)
  have HFR := Lib.hid hfr
  have HW13 : Hid (W1.heap.size ≤ W3.heap.size) := Lib.hid hs13
  replace bk := bk.after hkb (fun _ _ e => e)
  have HSM := Lib.hid (HS.out W8 hk8)
  replace HX : Hid (∀ W5, Kp W8 W5 (fun k => obk K = some k) → R W5) := Lib.hid (fun W5 h => HX.out W8 W5 kg8 hk8 h)
  have HK11 : Hid (∀ k, obk K = some k → k ≠ W3.heap.size) := Lib.hid (fun k hk e => by have := (hfr k hk).2; omega)
  clear hk8 hkb kg3 kg8 g8 bm bx k13 HS HWR hfr hs13
  go_wp2_with (first | refine wpg_ldR (rq := (reqL q K nk ck V nv cv)) rfl _ rfl W3.heap.size rfl k11 q12 ?_ | refine wpg_ldR (rq := rm) rfl _ rfl (W5.heap.size + 1) rfl k14 hr12 ?_)
  refine HSM.out.mono ?_
  rintro e Y2 ⟨rfl, b1⟩
  replace k11 := k11.step b1
  have hwr2 := hwr.kp (Kp.of_below b1 (fun _ => False)) (fun _ _ _ e => e)
  replace bk := bk.after (Kp.of_below b1 G) (fun _ _ e => e)
  replace HX : Hid (∀ W5, Kp Y2 W5 (fun k => obk K = some k) → R W5) := Lib.hid (fun W5 h => HX.out W5 ((Kp.of_below b1 _).trans h))
  clear b1 HSM k14 hwr hr12 hg5
  have r5 : Y2.cell? ⟨W3.heap.size, 5, none⟩ = some (.slice K nk ck) := cell_of_row Y2 W3.heap.size 5 _ _ (0, 0) k11
  go_wp2_with fail
  clear r5
  go_loopw [16, 109] (fun y i wr => ∃ j : Nat, j ≤ nk ∧ i = .int .i64 (j : Nat) ∧ Wr wr W1.heap.size W3.heap.size K nk ∧ Blk wr W3.heap.size (reqL q K nk ck V nv cv).toArray 26 ∧ Kp Y2 wr (fun k => obk K = some k)) (fun _ i _ => nk - (intOf i).toNat)
  case atStart => exact ⟨0, Nat.zero_le _, rfl, hwr2, k11, Kp.refl _ _⟩
  case round =>
    clear hwr2 k11
    obtain ⟨j, hj, rfl, hwr, k11, hkp⟩ := hrel
    have r5 : wr.cell? ⟨W3.heap.size, 5, none⟩ = some (.slice K nk ck) := cell_of_row wr W3.heap.size 5 _ _ (0, 0) k11
    by_cases hlt : j < nk
    · obtain ⟨g, v, hA, hBg, hU, hl, hc, hf⟩ := hwr.at_ hlt
      subst hA
      have hlt' : ((j : Int) < (nk : Int)) = True := eq_true (by omega)
      have HLT : Hid (j + 1 ≤ nk) := Lib.hid (by omega)
      have HJP : IntKind.i64.wrap ((j : Int) + 1) = (j : Int) + 1 := IntWalk.i64_in _ (by have := HBM.out; omega)
      have HRL := Lib.hid (And.intro (hwr.set g j (.int .u8 238)) (And.intro (k11.far (p := ⟨g, j, none⟩) (show W3.heap.size ≠ g by omega) (.int .u8 238)) (hkp.after (Kp.of_grown (rdr_grown_set wr g j (.int .u8 238))) (fun k _ e => by rw [e]; rfl))))
      clear hlt hwr hkp k11
      go_wp2_with fail
      go_roundw
      case rel => exact ⟨j + 1, HLT.out, by first | rfl | go_num, HRL.out.1, HRL.out.2.1, HRL.out.2.2⟩
      case measure => have := HLT.out; simp [intOf]; omega
    · have hlt' : ((j : Int) < (nk : Int)) = False := eq_false (by omega)
      clear hlt hwr k11 r5
      obtain ⟨v0, v1, v2, bb, mm, hc, hy, hmm⟩ := HR.out _ ((fun {W5} (h : Kp wr W5 (fun k => obk K = some k)) => HX.out W5 (hkp.trans h)) (Kp.refl _ _))
      go_upto_region 43 with fail
      refine wp_region_noPanic ?_
      refine region_T (fun wx => Blk wx gc #[v0, v1, v2, .bool bb] 160 ∧ Blk wx gy mm 106) 13 (by kernel_rfl) ?_
      have bD : Below wr.heap.size wr wr.drew := (Below.refl _ _).drew
      have hHeld := And.intro (hc.step bD) (hy.step bD)
      have HQ : Hid (R wr.drew ∧ Kp w wr.drew G) := Lib.hid ⟨(fun {W5} (h : Kp wr W5 (fun k => obk K = some k)) => HX.out W5 (hkp.trans h)) (Kp.of_below bD _), (bk.after hkp (fun k h e => by have h1 := (HFR.out k e).1; have h2 := HBW.out; omega)).after (Kp.of_below bD G) (fun _ _ e => e)⟩
      clear hc hy bD
      generalize wr.drew = Z0 at hHeld HQ ⊢
      refine takeA (i := 0) (v := ?_) rfl (fun _ _ _ h => h) (Or.inl ⟨by rfl, ?_⟩) hHeld ?_
      rotate_left
      · (intro wx hSw; go_simp; try (with_reducible rfl))
      try simp only [Act.put, List.setIfInBounds_toArray, List.set_cons_zero, List.set_cons_succ]
      refine takeA (i := 1) (v := ?_) rfl (fun _ _ _ h => h) (Or.inl ⟨by rfl, ?_⟩) hHeld ?_
      rotate_left
      · (intro wx hSw; go_simp; try (with_reducible rfl))
      try simp only [Act.put, List.setIfInBounds_toArray, List.set_cons_zero, List.set_cons_succ]
      refine takeA (i := 2) (v := ?_) rfl (fun _ _ _ h => h) (Or.inl ⟨by rfl, ?_⟩) hHeld ?_
      rotate_left
      · (intro wx hSw; go_simp; try (with_reducible rfl))
      try simp only [Act.put, List.setIfInBounds_toArray, List.set_cons_zero, List.set_cons_succ]
      refine takeA (i := 3) (v := ?_) rfl (fun _ _ _ h => h) (Or.inl ⟨by rfl, ?_⟩) hHeld ?_
      rotate_left
      · (intro wx hSw; go_simp; try (with_reducible rfl))
      try simp only [Act.put, List.setIfInBounds_toArray, List.set_cons_zero, List.set_cons_succ]
      refine takeA (i := 4) (v := ?_) rfl (fun _ _ _ h => h) (Or.inl ⟨by rfl, ?_⟩) hHeld ?_
      rotate_left
      · (intro wx hSw; go_simp; try (with_reducible rfl))
      try simp only [Act.put, List.setIfInBounds_toArray, List.set_cons_zero, List.set_cons_succ]
      refine takeA (i := 6) (v := ?_) rfl (fun _ _ _ h => h) (Or.inl ⟨by rfl, ?_⟩) hHeld ?_
      rotate_left
      · (intro wx hSw; go_simp; try (with_reducible rfl))
      try simp only [Act.put, List.setIfInBounds_toArray, List.set_cons_zero, List.set_cons_succ]
      refine takeA (i := 7) (v := ?_) rfl (fun _ _ _ h => h) (Or.inl ⟨by rfl, ?_⟩) hHeld ?_
      rotate_left
      · (intro wx hSw; go_simp; try (with_reducible rfl))
      try simp only [Act.put, List.setIfInBounds_toArray, List.set_cons_zero, List.set_cons_succ]
      refine takeA (i := 8) (v := ?_) rfl (fun _ _ _ h => h) (Or.inl ⟨by rfl, ?_⟩) hHeld ?_
      rotate_left
      · (intro wx hSw; go_simp; try (with_reducible rfl))
      try simp only [Act.put, List.setIfInBounds_toArray, List.set_cons_zero, List.set_cons_succ]
      refine takeA (i := 9) (v := ?_) rfl (fun _ _ _ h => h) (Or.inl ⟨by rfl, ?_⟩) hHeld ?_
      rotate_left
      · (intro wx hSw; have hc16 := (cell_of_row wx gy 16 _ _ (0, 0) hSw.2).trans hmm; go_simp; try (with_reducible rfl))
      try simp only [Act.put, List.setIfInBounds_toArray, List.set_cons_zero, List.set_cons_succ]
      refine oneT (i := 5) rfl (by kernel_rfl) (fun KK hK => ?_)
      go_simp
      refine (cclosed_any gc v0 v1 v2 bb Z0 hHeld.1).mono ?_
      rintro e Z1 ⟨rfl, hZ⟩
      subst hZ
      refine hK.out _ _ (fun _ => hHeld) ?_
      clear hK KK
      try simp only [Act.put, List.setIfInBounds_toArray, List.set_cons_zero, List.set_cons_succ]
      refine takeA (i := 10) (v := ?_) rfl (fun _ _ _ h => h) (Or.inl ⟨by rfl, ?_⟩) hHeld ?_
      rotate_left
      · (intro wx hSw; go_simp; try (with_reducible rfl))
      try simp only [Act.put, List.setIfInBounds_toArray, List.set_cons_zero, List.set_cons_succ]
      refine takeA (i := 11) (v := ?_) rfl (fun _ _ _ h => h) (Or.inl ⟨by rfl, ?_⟩) hHeld ?_
      rotate_left
      · (intro wx hSw; go_simp; try (with_reducible rfl))
      try simp only [Act.put, List.setIfInBounds_toArray, List.set_cons_zero, List.set_cons_succ]
      refine takeA (i := 12) (v := ?_) rfl (fun _ _ _ h => h) (Or.inl ⟨by rfl, ?_⟩) hHeld ?_
      rotate_left
      · (intro wx hSw; go_simp; try (with_reducible rfl))
      try simp only [Act.put, List.setIfInBounds_toArray, List.set_cons_zero, List.set_cons_succ]
      refine doneT (by kernel_rfl) ?_ _
      refine NoPanic.normal ?_
      clear hHeld
      go_wp2_with fail
      go_ret
      exact ⟨rfl, HQ.out⟩
end
section
set_option linter.unusedSimpArgs false
open Go.RowKit
set_option maxRecDepth 100000 in
set_option maxHeartbeats 16000000 in
theorem wdoes2 (w : World) (gc gy : Nat) (k : Int) (BA : Option Addr) (bn bc : Nat) (rqo ac : List Value) (h12 : Rq12 rqo) (h7 : ac.length = 7) (G : Nat → Prop) (hG : ∀ k, G k → k < w.heap.size) (hgy : G gy) (m0 : Array Value) (hm0 : IsM m0) (kg : Blk w gy m0 106) (R : World → Prop) (hR : ∀ W, R W → ∃ v0 v1 v2 b m, Blk W gc #[v0, v1, v2, .bool b] 160 ∧ Blk W gy m 106 ∧ m[16]? = some (.bool b)) (hk : kdI k = 2) (q : RQ) (K : Option Addr) (nk ck : Nat) (V : Option Addr) (nv cv : Nat) (rk : Rd w w.heap.size K nk ck q.lk) (rv : Rd w w.heap.size V nv cv q.lv) (hnk : nk ≤ 1000000) (hnv : nv ≤ 1000000) (hrq : ∀ W, Blk W gy m0 106 → W.rangeAt gy 3 (reqL q K nk ck V nv cv)) (HC : ∀ W A1 c1 A2 c2, Below w.heap.size w W → Rd W W.heap.size A1 nk c1 q.lk → Rd W W.heap.size A2 nv c2 q.lv → Calls Try.prog 66 #[.pointer (some ⟨gc, 0, none⟩), .agg (reqL q A1 nk c1 A2 nv c2).toArray, .agg ac.toArray] W (fun e W1 => ∃ er, e = .returned (.int .i64 er) ∧ Kp W W1 G ∧ Blk W1 gy m0 106 ∧ (Rd W1 W1.heap.size A1 nk c1 q.lk → Rd W1 W1.heap.size A2 nv c2 q.lv → ∀ W2, Below W1.heap.size W1 W2 → Calls Try.prog 114 #[.agg m0, .agg (reqL q A1 nk c1 A2 nv c2).toArray, .agg ac.toArray] W2 (fun e W3 => ∃ m1, e = .returned (.tuple #[.agg m1, .int .i64 er]) ∧ IsM m1 ∧ Below W2.heap.size W2 W3 ∧ ∀ W4 W5, Blk W4 gy m1 106 → Kp W3 W4 (fun k => k = gy) → Kp W4 W5 (fun _ => False) → R W5)))) : Calls Try.prog 72 #[.pointer (some ⟨gc, 0, none⟩), .pointer (some ⟨gy, 0, none⟩), .agg (opL k BA bn bc rqo ac).toArray] w fun e w' => e = .returned (.bool true) ∧ R w' ∧ Kp w w' G := by
  have HC := Lib.hid HC
  have HRQ := Lib.hid hrq
  clear hrq
  have kb := Blk.new w (opL k BA bn bc rqo ac).toArray 109
  have b := below_a1' (Below.refl w.heap.size w) (.cells (opL k BA bn bc rqo ac).toArray 109)
  have HGL := Lib.hid hG
  have hlo : (opL k BA bn bc rqo ac).length = 21 := opL_len h12 h7
  have HGY : Hid (gy < w.heap.size) := Lib.hid (hG gy hgy)
  have HR := Lib.hid hR
  have hgy' := Lib.hid hgy
  clear hG hR hgy
  go_enter Try.func72, Try.ntmps72
  go_upto_region 2 with fail
  generalize w.alloc (.cells (opL k BA bn bc rqo ac).toArray 109) = W0 at kb b ⊢
  go_wp2_with (first | refine wpl_ldO rfl _ rfl w.heap.size rfl kb hlo ?_)
  refine (kind_any k BA bn bc rqo ac W0).mono ?_
  rintro e W1 ⟨rfl, b1⟩
  rw [hk]
  replace kb := kb.step b1
  replace b := below_step b b1
  replace kg : Blk W1 gy m0 106 := kg.step b
  clear b1 hk hlo
  have q12 := reqL12 q K nk ck V nv cv
  replace rk := (rk.below b).more b.size
  replace rv := (rv.below b).more b.size
  have HKV := Lib.hid (And.intro hnk hnv)
  clear hnk hnv
  have hgW : gy < W1.heap.size := kg.lt
  have k1 := Blk.new W1 #[.int .i64 0, .bool false, .bool false, .int .i64 0, .int .u32 0, .slice none 0 0, .slice none 0 0, .int .u32 0, .int .u32 0, .int .u64 0, .int .u64 0, .int .u64 0] 26
  have bx := below_a1' (Below.refl W1.heap.size W1) (.cells #[.int .i64 0, .bool false, .bool false, .int .i64 0, .int .u32 0, .slice none 0 0, .slice none 0 0, .int .u32 0, .int .u32 0, .int .u64 0, .int .u64 0, .int .u64 0] 26)
  have hr3 := HRQ.out _ (kg.alloc (.cells #[.int .i64 0, .bool false, .bool false, .int .i64 0, .int .u32 0, .slice none 0 0, .slice none 0 0, .int .u32 0, .int .u32 0, .int .u64 0, .int .u64 0, .int .u64 0] 26))
  go_wp2_with (first | refine wpl_ldRo rfl _ rfl gy 3 rfl (HRQ.out _ kg) q12 ?_ | refine wpl_stR (rq := (reqL q K nk ck V nv cv)) (old := [.int .i64 0, .bool false, .bool false, .int .i64 0, .int .u32 0, .slice none 0 0, .slice none 0 0, .int .u32 0, .int .u32 0, .int .u64 0, .int .u64 0, .int .u64 0]) rfl _ _ rfl W1.heap.size rfl rfl q12 k1 rfl ?_)
  intro W2 k1' g1
  replace bx := bx.trans (below_grown g1 (Nat.le_refl _) k1.lt)
  clear k1 g1 hr3
  have k1 := k1'
  clear k1'
  go_upto_region 37 with fail
  go_cut [] (fun wx => ∃ g3 c3 g7 c7, Blk wx W1.heap.size (reqL q (some ⟨g3, 0, none⟩) nk c3 (some ⟨g7, 0, none⟩) nv c7).toArray 26 ∧ Own wx (W1.heap.size + 1) (some ⟨g3, 0, none⟩) nk c3 q.lk ∧ Own wx (W1.heap.size + 1) (some ⟨g7, 0, none⟩) nv c7 q.lv ∧ Below W1.heap.size W1 wx)
  case first =>
    refine wp_region_noPanic ?_
    refine region_T (fun wx => Blk wx W1.heap.size (reqL q K nk ck V nv cv).toArray 26) 9 (by kernel_rfl) ?_
    have hq1 := HKV.out
    clear HC kb b kg
    have bD : Below W2.heap.size W2 W2.drew := (Below.refl _ _).drew
    have hHeld := k1.step bD
    replace bx := bx.trans (bD.mono bx.size)
    clear k1 bD
    generalize W2.drew = V0 at hHeld bx ⊢
    refine takeA (i := 1) (v := ?_) rfl (fun _ _ _ h => h) (Or.inl ⟨by rfl, ?_⟩) hHeld ?_
    rotate_left
    · (intro wx hSw; go_simp; try (with_reducible rfl))
    try simp only [Act.put, List.setIfInBounds_toArray, List.set_cons_zero, List.set_cons_succ]
    refine takeA (i := 2) (v := ?_) rfl (fun _ _ _ h => h) (Or.inl ⟨by rfl, ?_⟩) hHeld ?_
    rotate_left
    · (intro wx hSw; have s5 : wx.cell? ⟨W1.heap.size, 5, none⟩ = some (.slice K nk ck) := cell_of_row wx W1.heap.size 5 _ _ (0, 0) hSw; go_simp; try (with_reducible rfl))
    try simp only [Act.put, List.setIfInBounds_toArray, List.set_cons_zero, List.set_cons_succ]
    refine takeA (i := 5) (v := ?_) rfl (fun _ _ _ h => h) (Or.inl ⟨by rfl, ?_⟩) hHeld ?_
    rotate_left
    · (intro wx hSw; go_simp; try (with_reducible rfl))
    try simp only [Act.put, List.setIfInBounds_toArray, List.set_cons_zero, List.set_cons_succ]
    refine takeA (i := 6) (v := ?_) rfl (fun _ _ _ h => h) (Or.inl ⟨by rfl, ?_⟩) hHeld ?_
    rotate_left
    · (intro wx hSw; have s5 : wx.cell? ⟨W1.heap.size, 6, none⟩ = some (.slice V nv cv) := cell_of_row wx W1.heap.size 6 _ _ (0, 0) hSw; go_simp; try (with_reducible rfl))
    try simp only [Act.put, List.setIfInBounds_toArray, List.set_cons_zero, List.set_cons_succ]
    refine twoT (i := 0) (j := 4) rfl rfl (by kernel_rfl) (fun KK hK => ?_) (fun KK hK => ?_)
    · have k1 := hHeld
      clear hHeld
      go_simp
      have o0 : Own (V0.alloc (.cells #[] 5)) (W1.heap.size + 1) (some ⟨V0.heap.size, 0, none⟩) 0 0 [] := Own.emptyK V0 _ _ rfl k1.lt
      have ba := below_a1' (Below.refl V0.heap.size V0) (.cells #[] 5)
      have k1 := k1.alloc (.cells #[] 5)
      have bx := below_step bx ba
      generalize hW : V0.alloc (.cells #[] 5) = V1 at o0 k1 bx ba ⊢
      clear hW
      have hl0 := o0.base.2
      have hHeld := k1
      refine hK.out _ _ (fun _ => hHeld) ?_
      clear hK KK
      try simp only [Act.put, List.setIfInBounds_toArray, List.set_cons_zero, List.set_cons_succ]
      refine twoT (i := 3) (j := 4) rfl rfl (by kernel_rfl) (fun KK hK => ?_) (fun KK hK => ?_)
      · have k1 := hHeld
        clear hHeld
        refine step_app8g _ rfl _ _ rfl (W1.heap.size + 1) (V0.heap.size) 0 0 [] rfl o0 W1.heap.size K nk ck q.lk rfl (rk.below bx) (by omega) k1.lt ?_
        intro g3 c3 V2 o3 gb3 hg3
        have h0 := o0.base
        simp only [Nat.zero_add, List.nil_append] at o3 ⊢
        have bx := bx.trans (below_grown gb3 (by omega) h0.2)
        have k1 := k1.left gb3 (by omega)
        have hl3 := o3.base.2
        have hHeld := k1
        refine hK.out _ _ (fun _ => hHeld) ?_
        clear hK KK
        try simp only [Act.put, List.setIfInBounds_toArray, List.set_cons_zero, List.set_cons_succ]
        refine takeA (i := 8) (v := ?_) rfl (fun _ _ _ h => h) (Or.inl ⟨by rfl, ?_⟩) hHeld ?_
        rotate_left
        · (intro wx hSw; go_simp; try (with_reducible rfl))
        try simp only [Act.put, List.setIfInBounds_toArray, List.set_cons_zero, List.set_cons_succ]
        refine oneT (i := 4) rfl (by kernel_rfl) (fun KK hK => ?_)
        have k1 := hHeld
        clear hHeld
        go_simp
        have o4 : Own (V2.alloc (.cells #[] 5)) (W1.heap.size + 1) (some ⟨V2.heap.size, 0, none⟩) 0 0 [] := Own.emptyK V2 _ _ rfl k1.lt
        have ba := below_a1' (Below.refl V2.heap.size V2) (.cells #[] 5)
        have k1 := k1.alloc (.cells #[] 5)
        have bx := below_step bx ba
        have o3 := o3.below ba
        generalize hW : V2.alloc (.cells #[] 5) = V3 at o4 k1 bx ba o3 ⊢
        clear hW
        have hl4 := o4.base.2
        have hHeld := k1
        refine hK.out _ _ (fun _ => hHeld) ?_
        clear hK KK
        try simp only [Act.put, List.setIfInBounds_toArray, List.set_cons_zero, List.set_cons_succ]
        refine oneT (i := 7) rfl (by kernel_rfl) (fun KK hK => ?_)
        have k1 := hHeld
        clear hHeld
        refine step_app8g _ rfl _ _ rfl (W1.heap.size + 1) (V2.heap.size) 0 0 [] rfl o4 W1.heap.size V nv cv q.lv rfl (rv.below bx) (by omega) k1.lt ?_
        intro g7 c7 V4 o7 gb7 hg7
        have h4 := o4.base
        simp only [Nat.zero_add, List.nil_append] at o7 ⊢
        have bx := bx.trans (below_grown gb7 (by omega) h4.2)
        have k1 := k1.left gb7 (by omega)
        have o3 := o3.left gb7 (by have := o3.base; omega)
        have hl7 := o7.base.2
        have hHeld := k1
        refine hK.out _ _ (fun _ => hHeld) ?_
        clear hK KK
        try simp only [Act.put, List.setIfInBounds_toArray, List.set_cons_zero, List.set_cons_succ]
        have k1 := hHeld
        have y5 := k1.frozen 5
        have y6 := k1.frozen 6
        have e5 : V4.cell? ⟨W1.heap.size, 5, none⟩ = some (.slice K nk ck) := cell_of_row V4 W1.heap.size 5 _ _ (0, 0) k1
        have e6 : V4.cell? ⟨W1.heap.size, 6, none⟩ = some (.slice V nv cv) := cell_of_row V4 W1.heap.size 6 _ _ (0, 0) k1
        refine oneT (i := 9) rfl (by kernel_rfl) (fun KK hK => ?_)
        go_simp
        refine hK.out _ _ (fun h => absurd h (by decide)) ?_
        clear hK KK
        try simp only [Act.put, List.setIfInBounds_toArray, List.set_cons_zero, List.set_cons_succ]
        refine oneT (i := 10) rfl (by kernel_rfl) (fun KK hK => ?_)
        go_simp
        refine hK.out _ _ (fun h => absurd h (by decide)) ?_
        clear hK KK
        try simp only [Act.put, List.setIfInBounds_toArray, List.set_cons_zero, List.set_cons_succ]
        refine oneT (i := 11) rfl (by kernel_rfl) (fun KK hK => ?_)
        go_simp
        refine hK.out _ _ (fun h => absurd h (by decide)) ?_
        clear hK KK
        try simp only [Act.put, List.setIfInBounds_toArray, List.set_cons_zero, List.set_cons_succ]
        refine doneT (by kernel_rfl) ?_ _
        refine NoPanic.normal ?_
        go_wp2_with fail
        go_meet
        have gs := grown_trans (rdr_grown_set V4 W1.heap.size 5 (.slice (some ⟨g3, 0, none⟩) nk c3)) (rdr_grown_set _ W1.heap.size 6 (.slice (some ⟨g7, 0, none⟩) nv c7))
        exact ⟨g3, c3, g7, c7, (k1.set_ 5 (.slice (some ⟨g3, 0, none⟩) nk c3)).set_ 6 (.slice (some ⟨g7, 0, none⟩) nv c7), o3.kept gs (by omega), o7.kept gs (by omega), bx.trans (below_grown gs (Nat.le_refl _) k1.lt)⟩
      · have k1 := hHeld
        clear hHeld
        go_simp
        have o4 : Own (V1.alloc (.cells #[] 5)) (W1.heap.size + 1) (some ⟨V1.heap.size, 0, none⟩) 0 0 [] := Own.emptyK V1 _ _ rfl k1.lt
        have ba := below_a1' (Below.refl V1.heap.size V1) (.cells #[] 5)
        have k1 := k1.alloc (.cells #[] 5)
        have bx := below_step bx ba
        have o0 := o0.below ba
        generalize hW : V1.alloc (.cells #[] 5) = V2 at o4 k1 bx ba o0 ⊢
        clear hW
        have hl4 := o4.base.2
        have hHeld := k1
        refine hK.out _ _ (fun _ => hHeld) ?_
        clear hK KK
        try simp only [Act.put, List.setIfInBounds_toArray, List.set_cons_zero, List.set_cons_succ]
        refine oneT (i := 3) rfl (by kernel_rfl) (fun KK hK => ?_)
        have k1 := hHeld
        clear hHeld
        refine step_app8g _ rfl _ _ rfl (W1.heap.size + 1) (V0.heap.size) 0 0 [] rfl o0 W1.heap.size K nk ck q.lk rfl (rk.below bx) (by omega) k1.lt ?_
        intro g3 c3 V3 o3 gb3 hg3
        have h0 := o0.base
        simp only [Nat.zero_add, List.nil_append] at o3 ⊢
        have bx := bx.trans (below_grown gb3 (by omega) h0.2)
        have k1 := k1.left gb3 (by omega)
        have o4 := o4.left gb3 (by have := o4.base; omega)
        have hl3 := o3.base.2
        have hHeld := k1
        refine hK.out _ _ (fun _ => hHeld) ?_
        clear hK KK
        try simp only [Act.put, List.setIfInBounds_toArray, List.set_cons_zero, List.set_cons_succ]
        refine takeA (i := 8) (v := ?_) rfl (fun _ _ _ h => h) (Or.inl ⟨by rfl, ?_⟩) hHeld ?_
        rotate_left
        · (intro wx hSw; go_simp; try (with_reducible rfl))
        try simp only [Act.put, List.setIfInBounds_toArray, List.set_cons_zero, List.set_cons_succ]
        refine oneT (i := 7) rfl (by kernel_rfl) (fun KK hK => ?_)
        have k1 := hHeld
        clear hHeld
        refine step_app8g _ rfl _ _ rfl (W1.heap.size + 1) (V1.heap.size) 0 0 [] rfl o4 W1.heap.size V nv cv q.lv rfl (rv.below bx) (by omega) k1.lt ?_
        intro g7 c7 V4 o7 gb7 hg7
        have h4 := o4.base
        simp only [Nat.zero_add, List.nil_append] at o7 ⊢
        have bx := bx.trans (below_grown gb7 (by omega) h4.2)
        have k1 := k1.left gb7 (by omega)
        have o3 := o3.left gb7 (by have := o3.base; omega)
        have hl7 := o7.base.2
        have hHeld := k1
        refine hK.out _ _ (fun _ => hHeld) ?_
        clear hK KK
        try simp only [Act.put, List.setIfInBounds_toArray, List.set_cons_zero, List.set_cons_succ]
        have k1 := hHeld
        have y5 := k1.frozen 5
        have y6 := k1.frozen 6
        have e5 : V4.cell? ⟨W1.heap.size, 5, none⟩ = some (.slice K nk ck) := cell_of_row V4 W1.heap.size 5 _ _ (0, 0) k1
        have e6 : V4.cell? ⟨W1.heap.size, 6, none⟩ = some (.slice V nv cv) := cell_of_row V4 W1.heap.size 6 _ _ (0, 0) k1
        refine oneT (i := 9) rfl (by kernel_rfl) (fun KK hK => ?_)
        go_simp
        refine hK.out _ _ (fun h => absurd h (by decide)) ?_
        clear hK KK
        try simp only [Act.put, List.setIfInBounds_toArray, List.set_cons_zero, List.set_cons_succ]
        refine oneT (i := 10) rfl (by kernel_rfl) (fun KK hK => ?_)
        go_simp
        refine hK.out _ _ (fun h => absurd h (by decide)) ?_
        clear hK KK
        try simp only [Act.put, List.setIfInBounds_toArray, List.set_cons_zero, List.set_cons_succ]
        refine oneT (i := 11) rfl (by kernel_rfl) (fun KK hK => ?_)
        go_simp
        refine hK.out _ _ (fun h => absurd h (by decide)) ?_
        clear hK KK
        try simp only [Act.put, List.setIfInBounds_toArray, List.set_cons_zero, List.set_cons_succ]
        refine doneT (by kernel_rfl) ?_ _
        refine NoPanic.normal ?_
        go_wp2_with fail
        go_meet
        have gs := grown_trans (rdr_grown_set V4 W1.heap.size 5 (.slice (some ⟨g3, 0, none⟩) nk c3)) (rdr_grown_set _ W1.heap.size 6 (.slice (some ⟨g7, 0, none⟩) nv c7))
        exact ⟨g3, c3, g7, c7, (k1.set_ 5 (.slice (some ⟨g3, 0, none⟩) nk c3)).set_ 6 (.slice (some ⟨g7, 0, none⟩) nv c7), o3.kept gs (by omega), o7.kept gs (by omega), bx.trans (below_grown gs (Nat.le_refl _) k1.lt)⟩
    · have k1 := hHeld
      clear hHeld
      go_simp
      have o4 : Own (V0.alloc (.cells #[] 5)) (W1.heap.size + 1) (some ⟨V0.heap.size, 0, none⟩) 0 0 [] := Own.emptyK V0 _ _ rfl k1.lt
      have ba := below_a1' (Below.refl V0.heap.size V0) (.cells #[] 5)
      have k1 := k1.alloc (.cells #[] 5)
      have bx := below_step bx ba
      generalize hW : V0.alloc (.cells #[] 5) = V1 at o4 k1 bx ba ⊢
      clear hW
      have hl4 := o4.base.2
      have hHeld := k1
      refine hK.out _ _ (fun _ => hHeld) ?_
      clear hK KK
      try simp only [Act.put, List.setIfInBounds_toArray, List.set_cons_zero, List.set_cons_succ]
      refine oneT (i := 0) rfl (by kernel_rfl) (fun KK hK => ?_)
      have k1 := hHeld
      clear hHeld
      go_simp
      have o0 : Own (V1.alloc (.cells #[] 5)) (W1.heap.size + 1) (some ⟨V1.heap.size, 0, none⟩) 0 0 [] := Own.emptyK V1 _ _ rfl k1.lt
      have ba := below_a1' (Below.refl V1.heap.size V1) (.cells #[] 5)
      have k1 := k1.alloc (.cells #[] 5)
      have bx := below_step bx ba
      have o4 := o4.below ba
      generalize hW : V1.alloc (.cells #[] 5) = V2 at o0 k1 bx ba o4 ⊢
      clear hW
      have hl0 := o0.base.2
      have hHeld := k1
      refine hK.out _ _ (fun _ => hHeld) ?_
      clear hK KK
      try simp only [Act.put, List.setIfInBounds_toArray, List.set_cons_zero, List.set_cons_succ]
      refine oneT (i := 3) rfl (by kernel_rfl) (fun KK hK => ?_)
      have k1 := hHeld
      clear hHeld
      refine step_app8g _ rfl _ _ rfl (W1.heap.size + 1) (V1.heap.size) 0 0 [] rfl o0 W1.heap.size K nk ck q.lk rfl (rk.below bx) (by omega) k1.lt ?_
      intro g3 c3 V3 o3 gb3 hg3
      have h0 := o0.base
      simp only [Nat.zero_add, List.nil_append] at o3 ⊢
      have bx := bx.trans (below_grown gb3 (by omega) h0.2)
      have k1 := k1.left gb3 (by omega)
      have o4 := o4.left gb3 (by have := o4.base; omega)
      have hl3 := o3.base.2
      have hHeld := k1
      refine hK.out _ _ (fun _ => hHeld) ?_
      clear hK KK
      try simp only [Act.put, List.setIfInBounds_toArray, List.set_cons_zero, List.set_cons_succ]
      refine takeA (i := 8) (v := ?_) rfl (fun _ _ _ h => h) (Or.inl ⟨by rfl, ?_⟩) hHeld ?_
      rotate_left
      · (intro wx hSw; go_simp; try (with_reducible rfl))
      try simp only [Act.put, List.setIfInBounds_toArray, List.set_cons_zero, List.set_cons_succ]
      refine oneT (i := 7) rfl (by kernel_rfl) (fun KK hK => ?_)
      have k1 := hHeld
      clear hHeld
      refine step_app8g _ rfl _ _ rfl (W1.heap.size + 1) (V0.heap.size) 0 0 [] rfl o4 W1.heap.size V nv cv q.lv rfl (rv.below bx) (by omega) k1.lt ?_
      intro g7 c7 V4 o7 gb7 hg7
      have h4 := o4.base
      simp only [Nat.zero_add, List.nil_append] at o7 ⊢
      have bx := bx.trans (below_grown gb7 (by omega) h4.2)
      have k1 := k1.left gb7 (by omega)
      have o3 := o3.left gb7 (by have := o3.base; omega)
      have hl7 := o7.base.2
      have hHeld := k1
      refine hK.out _ _ (fun _ => hHeld) ?_
      clear hK KK
      try simp only [Act.put, List.setIfInBounds_toArray, List.set_cons_zero, List.set_cons_succ]
      have k1 := hHeld
      have y5 := k1.frozen 5
      have y6 := k1.frozen 6
      have e5 : V4.cell? ⟨W1.heap.size, 5, none⟩ = some (.slice K nk ck) := cell_of_row V4 W1.heap.size 5 _ _ (0, 0) k1
      have e6 : V4.cell? ⟨W1.heap.size, 6, none⟩ = some (.slice V nv cv) := cell_of_row V4 W1.heap.size 6 _ _ (0, 0) k1
      refine oneT (i := 9) rfl (by kernel_rfl) (fun KK hK => ?_)
      go_simp
      refine hK.out _ _ (fun h => absurd h (by decide)) ?_
      clear hK KK
      try simp only [Act.put, List.setIfInBounds_toArray, List.set_cons_zero, List.set_cons_succ]
      refine oneT (i := 10) rfl (by kernel_rfl) (fun KK hK => ?_)
      go_simp
      refine hK.out _ _ (fun h => absurd h (by decide)) ?_
      clear hK KK
      try simp only [Act.put, List.setIfInBounds_toArray, List.set_cons_zero, List.set_cons_succ]
      refine oneT (i := 11) rfl (by kernel_rfl) (fun KK hK => ?_)
      go_simp
      refine hK.out _ _ (fun h => absurd h (by decide)) ?_
      clear hK KK
      try simp only [Act.put, List.setIfInBounds_toArray, List.set_cons_zero, List.set_cons_succ]
      refine doneT (by kernel_rfl) ?_ _
      refine NoPanic.normal ?_
      go_wp2_with fail
      go_meet
      have gs := grown_trans (rdr_grown_set V4 W1.heap.size 5 (.slice (some ⟨g3, 0, none⟩) nk c3)) (rdr_grown_set _ W1.heap.size 6 (.slice (some ⟨g7, 0, none⟩) nv c7))
      exact ⟨g3, c3, g7, c7, (k1.set_ 5 (.slice (some ⟨g3, 0, none⟩) nk c3)).set_ 6 (.slice (some ⟨g7, 0, none⟩) nv c7), o3.kept gs (by omega), o7.kept gs (by omega), bx.trans (below_grown gs (Nat.le_refl _) k1.lt)⟩
  case rest =>
    obtain ⟨g3, c3, g7, c7, k17, o3, o7, bw⟩ := hcut
    have p12 := reqL12 q (some ⟨g3, 0, none⟩) nk c3 (some ⟨g7, 0, none⟩) nv c7
    have hs1 := b.size
    have hw1 := kb.lt
    replace kb := (bw.block _ hw1).trans kb
    replace kb : Blk wc w.heap.size (opL k BA bn bc rqo ac).toArray 109 := kb
    replace b := b.trans (bw.mono hs1)
    clear bx k1 bw kg
    go_wp2_with (first | refine wpg_ldR (rq := (reqL q (some ⟨g3, 0, none⟩) nk c3 (some ⟨g7, 0, none⟩) nv c7)) rfl _ rfl W1.heap.size rfl k17 p12 ?_ | refine wpl_ldAo rfl _ rfl w.heap.size 14 rfl (opL_an kb h12) h7 ?_)
    refine (HC.out wc _ _ _ _ b o3.rd o7.rd).mono ?_
    rintro e W3 ⟨er, rfl, hk3, kg3, HM⟩
    have hb3 := o3.base
    have hb7 := o7.base
    have o3' := o3.kp hk3 (fun k hk e => by have h1 := HGL.out k e; have h2 : g3 = k := Option.some.inj hk; omega)
    have o7' := o7.kp hk3 (fun k hk e => by have h1 := HGL.out k e; have h2 : g7 = k := Option.some.inj hk; omega)
    replace HM := Lib.hid (HM o3'.rd o7'.rd)
    have kb3 := hk3.blk kb (fun e => by have := HGL.out _ e; omega)
    have k3 := hk3.blk k17 (fun e => by have := HGL.out _ e; omega)
    have bk := (Kp.of_below b G).after hk3 (fun _ _ e => e)
    have HS1 := Lib.hid hs1
    clear hk3 kb b HC o3 o7 o3' o7' k17 hb3 hb7 hw1
    have bm := Below.refl W3.heap.size W3
    go_upto_region 39 with fail
    refine wp_region_noPanic ?_
    refine region_T (fun wx => Blk wx w.heap.size (opL k BA bn bc rqo ac).toArray 109 ∧ Blk wx W1.heap.size (reqL q (some ⟨g3, 0, none⟩) nk c3 (some ⟨g7, 0, none⟩) nv c7).toArray 26) 14 (by kernel_rfl) ?_
    have bD : Below W3.heap.size W3 W3.drew := (Below.refl _ _).drew
    have hHeld := And.intro (kb3.step bD) (k3.step bD)
    replace kg3 := kg3.step bD
    replace bm := below_step bm bD
    clear kb3 k3 bD
    generalize W3.drew = Y0 at hHeld kg3 bm ⊢
    refine takeA (i := 0) (v := ?_) rfl (fun _ _ _ h => h) (Or.inl ⟨by rfl, ?_⟩) hHeld ?_
    rotate_left
    · (intro wx hSw; go_simp; try (with_reducible rfl))
    try simp only [Act.put, List.setIfInBounds_toArray, List.set_cons_zero, List.set_cons_succ]
    refine takeA (i := 1) (v := ?_) rfl (fun _ _ _ h => h) (Or.inl ⟨by rfl, ?_⟩) hHeld ?_
    rotate_left
    · (intro wx hSw; go_simp; try (with_reducible rfl))
    try simp only [Act.put, List.setIfInBounds_toArray, List.set_cons_zero, List.set_cons_succ]
    refine takeA (i := 4) rfl (fun _ _ _ h => h) (yi_ldR (rq := (reqL q (some ⟨g3, 0, none⟩) nk c3 (some ⟨g7, 0, none⟩) nv c7)) rfl _ rfl W1.heap.size rfl p12 (fun _ h => h.2)) hHeld ?_
    try simp only [Act.put, List.setIfInBounds_toArray, List.set_cons_zero, List.set_cons_succ]
    refine takeA (i := 5) (v := ?_) rfl (fun _ _ _ h => h) (Or.inl ⟨by rfl, ?_⟩) hHeld ?_
    rotate_left
    · (intro wx hSw; go_simp; try (with_reducible rfl))
    try simp only [Act.put, List.setIfInBounds_toArray, List.set_cons_zero, List.set_cons_succ]
    refine takeA (i := 6) rfl (fun _ _ _ h => h) (yi_ldAo rfl _ rfl w.heap.size 14 rfl h7 (fun _ h => opL_an h.1 h12)) hHeld ?_
    try simp only [Act.put, List.setIfInBounds_toArray, List.set_cons_zero, List.set_cons_succ]
    refine takeA (i := 2) (v := ?_) rfl (fun _ _ _ h => h) (Or.inl ⟨by rfl, ?_⟩) hHeld ?_
    rotate_left
    · (intro wx hSw; go_simp; try (with_reducible rfl))
    try simp only [Act.put, List.setIfInBounds_toArray, List.set_cons_zero, List.set_cons_succ]
    refine oneT (i := 3) rfl (by kernel_rfl) (fun KK hK => ?_)
    refine step_ldX rfl _ rfl gy rfl kg3 hm0 ?_
    refine hK.out _ _ (fun _ => hHeld) ?_
    clear hK KK
    try simp only [Act.put, List.setIfInBounds_toArray, List.set_cons_zero, List.set_cons_succ]
    refine oneT (i := 7) rfl (by kernel_rfl) (fun KK hK => ?_)
    go_simp
    refine (HM.out Y0 bm).mono ?_
    rintro e Y1 ⟨m1, rfl, hm1, b4, HX⟩
    replace HX := Lib.hid HX
    replace hHeld := And.intro (hHeld.1.step b4) (hHeld.2.step b4)
    replace kg3 := kg3.step b4
    replace bm := below_step bm b4
    clear b4
    refine hK.out _ _ (fun _ => hHeld) ?_
    clear hK KK
    try simp only [Act.put, List.setIfInBounds_toArray, List.set_cons_zero, List.set_cons_succ]
    refine takeA (i := 8) (v := ?_) rfl (fun _ _ _ h => h) (Or.inl ⟨by rfl, ?_⟩) hHeld ?_
    rotate_left
    · (intro wx hSw; go_simp; try (with_reducible rfl))
    try simp only [Act.put, List.setIfInBounds_toArray, List.set_cons_zero, List.set_cons_succ]
    refine takeA (i := 9) (v := ?_) rfl (fun _ _ _ h => h) (Or.inl ⟨by rfl, ?_⟩) hHeld ?_
    rotate_left
    · (intro wx hSw; go_simp; try (with_reducible rfl))
    try simp only [Act.put, List.setIfInBounds_toArray, List.set_cons_zero, List.set_cons_succ]
    refine takeA (i := 10) (v := ?_) rfl (fun _ _ _ h => h) (Or.inl ⟨by rfl, ?_⟩) hHeld ?_
    rotate_left
    · (intro wx hSw; go_simp; try (with_reducible rfl))
    try simp only [Act.put, List.setIfInBounds_toArray, List.set_cons_zero, List.set_cons_succ]
    refine takeA (i := 11) (v := ?_) rfl (fun _ _ _ h => h) (Or.inl ⟨by rfl, ?_⟩) hHeld ?_
    rotate_left
    · (intro wx hSw; go_simp; try (with_reducible rfl))
    try simp only [Act.put, List.setIfInBounds_toArray, List.set_cons_zero, List.set_cons_succ]
    refine oneT (i := 12) rfl (by kernel_rfl) (fun KK hK => ?_)
    refine step_stX (m := m1) rfl _ _ rfl gy rfl rfl hm1 kg3 hm0.1 (fun Y2 kg5 g5 => ?_)
    have hHeld2 := And.intro (hHeld.1.leftC g5 (by have := HGY.out; omega)) (hHeld.2.leftC g5 (by have := HGY.out; have := HS1.out; omega))
    clear hHeld
    have hHeld := hHeld2
    clear hHeld2
    refine hK.out _ _ (fun _ => hHeld) ?_
    clear hK KK
    try simp only [Act.put, List.setIfInBounds_toArray, List.set_cons_zero, List.set_cons_succ]
    refine takeA (i := 13) (v := ?_) rfl (fun _ _ _ h => h) (Or.inl ⟨by rfl, ?_⟩) hHeld ?_
    rotate_left
    · (intro wx hSw; go_simp; try (with_reducible rfl))
    try simp only [Act.put, List.setIfInBounds_toArray, List.set_cons_zero, List.set_cons_succ]
    refine doneT (by kernel_rfl) ?_ _
    refine NoPanic.normal ?_
    clear hHeld
    have hkm := Kp.of_below bm G
    have hk5 : Kp Y1 Y2 (fun k => k = gy) := Kp.of_grown g5
    have hkg : Kp W3 Y2 G := hkm.after hk5 (fun k _ e => by rw [e]; exact hgy'.out)
    replace bk := bk.after hkg (fun _ _ e => e)
    replace HX : Hid (∀ W5, Kp Y2 W5 (fun _ => False) → R W5) := Lib.hid (fun W5 h => HX.out Y2 W5 kg5 hk5 h)
    clear hkm hk5 hkg HM bm kg3 kg5 g5
    obtain ⟨v0, v1, v2, bb, mm, hc, hy, hmm⟩ := HR.out _ ((fun {W5} (h : Kp Y2 W5 (fun _ => False)) => HX.out W5 h) (Kp.refl _ _))
    go_upto_region 43 with fail
    refine wp_region_noPanic ?_
    refine region_T (fun wx => Blk wx gc #[v0, v1, v2, .bool bb] 160 ∧ Blk wx gy mm 106) 13 (by kernel_rfl) ?_
    have bD : Below Y2.heap.size Y2 Y2.drew := (Below.refl _ _).drew
    have hHeld := And.intro (hc.step bD) (hy.step bD)
    have HQ : Hid (R Y2.drew ∧ Kp w Y2.drew G) := Lib.hid ⟨(fun {W5} (h : Kp Y2 W5 (fun _ => False)) => HX.out W5 h) (Kp.of_below bD _), (bk).after (Kp.of_below bD G) (fun _ _ e => e)⟩
    clear hc hy bD
    generalize Y2.drew = Z0 at hHeld HQ ⊢
    refine takeA (i := 0) (v := ?_) rfl (fun _ _ _ h => h) (Or.inl ⟨by rfl, ?_⟩) hHeld ?_
    rotate_left
    · (intro wx hSw; go_simp; try (with_reducible rfl))
    try simp only [Act.put, List.setIfInBounds_toArray, List.set_cons_zero, List.set_cons_succ]
    refine takeA (i := 1) (v := ?_) rfl (fun _ _ _ h => h) (Or.inl ⟨by rfl, ?_⟩) hHeld ?_
    rotate_left
    · (intro wx hSw; go_simp; try (with_reducible rfl))
    try simp only [Act.put, List.setIfInBounds_toArray, List.set_cons_zero, List.set_cons_succ]
    refine takeA (i := 2) (v := ?_) rfl (fun _ _ _ h => h) (Or.inl ⟨by rfl, ?_⟩) hHeld ?_
    rotate_left
    · (intro wx hSw; go_simp; try (with_reducible rfl))
    try simp only [Act.put, List.setIfInBounds_toArray, List.set_cons_zero, List.set_cons_succ]
    refine takeA (i := 3) (v := ?_) rfl (fun _ _ _ h => h) (Or.inl ⟨by rfl, ?_⟩) hHeld ?_
    rotate_left
    · (intro wx hSw; go_simp; try (with_reducible rfl))
    try simp only [Act.put, List.setIfInBounds_toArray, List.set_cons_zero, List.set_cons_succ]
    refine takeA (i := 4) (v := ?_) rfl (fun _ _ _ h => h) (Or.inl ⟨by rfl, ?_⟩) hHeld ?_
    rotate_left
    · (intro wx hSw; go_simp; try (with_reducible rfl))
    try simp only [Act.put, List.setIfInBounds_toArray, List.set_cons_zero, List.set_cons_succ]
    refine takeA (i := 6) (v := ?_) rfl (fun _ _ _ h => h) (Or.inl ⟨by rfl, ?_⟩) hHeld ?_
    rotate_left
    · (intro wx hSw; go_simp; try (with_reducible rfl))
    try simp only [Act.put, List.setIfInBounds_toArray, List.set_cons_zero, List.set_cons_succ]
    refine takeA (i := 7) (v := ?_) rfl (fun _ _ _ h => h) (Or.inl ⟨by rfl, ?_⟩) hHeld ?_
    rotate_left
    · (intro wx hSw; go_simp; try (with_reducible rfl))
    try simp only [Act.put, List.setIfInBounds_toArray, List.set_cons_zero, List.set_cons_succ]
    refine takeA (i := 8) (v := ?_) rfl (fun _ _ _ h => h) (Or.inl ⟨by rfl, ?_⟩) hHeld ?_
    rotate_left
    · (intro wx hSw; go_simp; try (with_reducible rfl))
    try simp only [Act.put, List.setIfInBounds_toArray, List.set_cons_zero, List.set_cons_succ]
    refine takeA (i := 9) (v := ?_) rfl (fun _ _ _ h => h) (Or.inl ⟨by rfl, ?_⟩) hHeld ?_
    rotate_left
    · (intro wx hSw; have hc16 := (cell_of_row wx gy 16 _ _ (0, 0) hSw.2).trans hmm; go_simp; try (with_reducible rfl))
    try simp only [Act.put, List.setIfInBounds_toArray, List.set_cons_zero, List.set_cons_succ]
    refine oneT (i := 5) rfl (by kernel_rfl) (fun KK hK => ?_)
    go_simp
    refine (cclosed_any gc v0 v1 v2 bb Z0 hHeld.1).mono ?_
    rintro e Z1 ⟨rfl, hZ⟩
    subst hZ
    refine hK.out _ _ (fun _ => hHeld) ?_
    clear hK KK
    try simp only [Act.put, List.setIfInBounds_toArray, List.set_cons_zero, List.set_cons_succ]
    refine takeA (i := 10) (v := ?_) rfl (fun _ _ _ h => h) (Or.inl ⟨by rfl, ?_⟩) hHeld ?_
    rotate_left
    · (intro wx hSw; go_simp; try (with_reducible rfl))
    try simp only [Act.put, List.setIfInBounds_toArray, List.set_cons_zero, List.set_cons_succ]
    refine takeA (i := 11) (v := ?_) rfl (fun _ _ _ h => h) (Or.inl ⟨by rfl, ?_⟩) hHeld ?_
    rotate_left
    · (intro wx hSw; go_simp; try (with_reducible rfl))
    try simp only [Act.put, List.setIfInBounds_toArray, List.set_cons_zero, List.set_cons_succ]
    refine takeA (i := 12) (v := ?_) rfl (fun _ _ _ h => h) (Or.inl ⟨by rfl, ?_⟩) hHeld ?_
    rotate_left
    · (intro wx hSw; go_simp; try (with_reducible rfl))
    try simp only [Act.put, List.setIfInBounds_toArray, List.set_cons_zero, List.set_cons_succ]
    refine doneT (by kernel_rfl) ?_ _
    refine NoPanic.normal ?_
    clear hHeld
    go_wp2_with fail
    go_ret
    exact ⟨rfl, HQ.out⟩
end
section
set_option linter.unusedSimpArgs false
open Go.RowKit
set_option maxRecDepth 100000 in
set_option maxHeartbeats 16000000 in
theorem wdoes3 (w : World) (gc gy : Nat) (k : Int) (BA : Option Addr) (bn bc : Nat) (rqo ac : List Value) (h12 : Rq12 rqo) (h7 : ac.length = 7) (G : Nat → Prop) (hG : ∀ k, G k → k < w.heap.size) (hgy : G gy) (m0 : Array Value) (hm0 : IsM m0) (kg : Blk w gy m0 106) (R : World → Prop) (hR : ∀ W, R W → ∃ v0 v1 v2 b m, Blk W gc #[v0, v1, v2, .bool b] 160 ∧ Blk W gy m 106 ∧ m[16]? = some (.bool b)) (hk : kdI k = 3) (HC : ∀ W, Below w.heap.size w W → Calls Try.prog 66 #[.pointer (some ⟨gc, 0, none⟩), .agg rqo.toArray, .agg ac.toArray] W (fun e W1 => ∃ er, e = .returned (.int .i64 er) ∧ Kp W W1 G ∧ Blk W1 gy m0 106 ∧ ∀ W2, Below W1.heap.size W1 W2 → Calls Try.prog 114 #[.agg m0, .agg rqo.toArray, .agg ac.toArray] W2 (fun e W3 => ∃ m1, e = .returned (.tuple #[.agg m1, .int .i64 er]) ∧ IsM m1 ∧ Below W2.heap.size W2 W3 ∧ ∀ W4 W5, Blk W4 gy m1 106 → Kp W3 W4 (fun k => k = gy) → Kp W4 W5 (fun _ => False) → R W5))) : Calls Try.prog 72 #[.pointer (some ⟨gc, 0, none⟩), .pointer (some ⟨gy, 0, none⟩), .agg (opL k BA bn bc rqo ac).toArray] w fun e w' => e = .returned (.bool true) ∧ R w' ∧ Kp w w' G := by
  have HC := Lib.hid HC
  have kb := Blk.new w (opL k BA bn bc rqo ac).toArray 109
  have b := below_a1' (Below.refl w.heap.size w) (.cells (opL k BA bn bc rqo ac).toArray 109)
  have HGL := Lib.hid hG
  have hlo : (opL k BA bn bc rqo ac).length = 21 := opL_len h12 h7
  have HGY : Hid (gy < w.heap.size) := Lib.hid (hG gy hgy)
  have HR := Lib.hid hR
  have hgy' := Lib.hid hgy
  clear hG hR hgy
  go_enter Try.func72, Try.ntmps72
  go_upto_region 2 with fail
  generalize w.alloc (.cells (opL k BA bn bc rqo ac).toArray 109) = W0 at kb b ⊢
  go_wp2_with (first | refine wpl_ldO rfl _ rfl w.heap.size rfl kb hlo ?_)
  refine (kind_any k BA bn bc rqo ac W0).mono ?_
  rintro e W1 ⟨rfl, b1⟩
  rw [hk]
  replace kb := kb.step b1
  replace b := below_step b b1
  replace kg : Blk W1 gy m0 106 := kg.step b
  clear b1 hk hlo
  go_wp2_with (first | refine wpl_ldRo rfl _ rfl w.heap.size 2 rfl (opL_rq kb) h12 ?_ | refine wpl_ldAo rfl _ rfl w.heap.size 14 rfl (opL_an kb h12) h7 ?_)
  refine (HC.out W1 b).mono ?_
  rintro e W3 ⟨er, rfl, hk3, kg3, HM⟩
  replace HM := Lib.hid HM
  have kb3 := hk3.blk kb (fun e => by have := HGL.out _ e; omega)
  have bk := (Kp.of_below b G).after hk3 (fun _ _ e => e)
  clear hk3 kb kg b HC
  have bm := Below.refl W3.heap.size W3
  go_upto_region 42 with fail
  refine wp_region_noPanic ?_
  refine region_T (fun wx => Blk wx w.heap.size (opL k BA bn bc rqo ac).toArray 109) 15 (by kernel_rfl) ?_
  have bD : Below W3.heap.size W3 W3.drew := (Below.refl _ _).drew
  have hHeld := kb3.step bD
  replace kg3 := kg3.step bD
  replace bm := below_step bm bD
  clear kb3 bD
  generalize W3.drew = Y0 at hHeld kg3 bm ⊢
  refine takeA (i := 0) (v := ?_) rfl (fun _ _ _ h => h) (Or.inl ⟨by rfl, ?_⟩) hHeld ?_
  rotate_left
  · (intro wx hSw; go_simp; try (with_reducible rfl))
  try simp only [Act.put, List.setIfInBounds_toArray, List.set_cons_zero, List.set_cons_succ]
  refine takeA (i := 1) (v := ?_) rfl (fun _ _ _ h => h) (Or.inl ⟨by rfl, ?_⟩) hHeld ?_
  rotate_left
  · (intro wx hSw; go_simp; try (with_reducible rfl))
  try simp only [Act.put, List.setIfInBounds_toArray, List.set_cons_zero, List.set_cons_succ]
  refine takeA (i := 4) (v := ?_) rfl (fun _ _ _ h => h) (Or.inl ⟨by rfl, ?_⟩) hHeld ?_
  rotate_left
  · (intro wx hSw; go_simp; try (with_reducible rfl))
  try simp only [Act.put, List.setIfInBounds_toArray, List.set_cons_zero, List.set_cons_succ]
  refine takeA (i := 5) rfl (fun _ _ _ h => h) (yi_ldRo rfl _ rfl w.heap.size 2 rfl h12 (fun _ h => opL_rq h)) hHeld ?_
  try simp only [Act.put, List.setIfInBounds_toArray, List.set_cons_zero, List.set_cons_succ]
  refine takeA (i := 6) (v := ?_) rfl (fun _ _ _ h => h) (Or.inl ⟨by rfl, ?_⟩) hHeld ?_
  rotate_left
  · (intro wx hSw; go_simp; try (with_reducible rfl))
  try simp only [Act.put, List.setIfInBounds_toArray, List.set_cons_zero, List.set_cons_succ]
  refine takeA (i := 7) rfl (fun _ _ _ h => h) (yi_ldAo rfl _ rfl w.heap.size 14 rfl h7 (fun _ h => opL_an h h12)) hHeld ?_
  try simp only [Act.put, List.setIfInBounds_toArray, List.set_cons_zero, List.set_cons_succ]
  refine takeA (i := 2) (v := ?_) rfl (fun _ _ _ h => h) (Or.inl ⟨by rfl, ?_⟩) hHeld ?_
  rotate_left
  · (intro wx hSw; go_simp; try (with_reducible rfl))
  try simp only [Act.put, List.setIfInBounds_toArray, List.set_cons_zero, List.set_cons_succ]
  refine oneT (i := 3) rfl (by kernel_rfl) (fun KK hK => ?_)
  refine step_ldX rfl _ rfl gy rfl kg3 hm0 ?_
  refine hK.out _ _ (fun _ => hHeld) ?_
  clear hK KK
  try simp only [Act.put, List.setIfInBounds_toArray, List.set_cons_zero, List.set_cons_succ]
  refine oneT (i := 8) rfl (by kernel_rfl) (fun KK hK => ?_)
  go_simp
  refine (HM.out Y0 bm).mono ?_
  rintro e Y1 ⟨m1, rfl, hm1, b4, HX⟩
  replace HX := Lib.hid HX
  replace hHeld := hHeld.step b4
  replace kg3 := kg3.step b4
  replace bm := below_step bm b4
  clear b4
  refine hK.out _ _ (fun _ => hHeld) ?_
  clear hK KK
  try simp only [Act.put, List.setIfInBounds_toArray, List.set_cons_zero, List.set_cons_succ]
  refine takeA (i := 9) (v := ?_) rfl (fun _ _ _ h => h) (Or.inl ⟨by rfl, ?_⟩) hHeld ?_
  rotate_left
  · (intro wx hSw; go_simp; try (with_reducible rfl))
  try simp only [Act.put, List.setIfInBounds_toArray, List.set_cons_zero, List.set_cons_succ]
  refine takeA (i := 10) (v := ?_) rfl (fun _ _ _ h => h) (Or.inl ⟨by rfl, ?_⟩) hHeld ?_
  rotate_left
  · (intro wx hSw; go_simp; try (with_reducible rfl))
  try simp only [Act.put, List.setIfInBounds_toArray, List.set_cons_zero, List.set_cons_succ]
  refine takeA (i := 11) (v := ?_) rfl (fun _ _ _ h => h) (Or.inl ⟨by rfl, ?_⟩) hHeld ?_
  rotate_left
  · (intro wx hSw; go_simp; try (with_reducible rfl))
  try simp only [Act.put, List.setIfInBounds_toArray, List.set_cons_zero, List.set_cons_succ]
  refine takeA (i := 12) (v := ?_) rfl (fun _ _ _ h => h) (Or.inl ⟨by rfl, ?_⟩) hHeld ?_
  rotate_left
  · (intro wx hSw; go_simp; try (with_reducible rfl))
  try simp only [Act.put, List.setIfInBounds_toArray, List.set_cons_zero, List.set_cons_succ]
  refine oneT (i := 13) rfl (by kernel_rfl) (fun KK hK => ?_)
  refine step_stX (m := m1) rfl _ _ rfl gy rfl rfl hm1 kg3 hm0.1 (fun Y2 kg5 g5 => ?_)
  have hHeld2 := hHeld.leftC g5 (by have := HGY.out; omega)
  clear hHeld
  have hHeld := hHeld2
  clear hHeld2
  refine hK.out _ _ (fun _ => hHeld) ?_
  clear hK KK
  try simp only [Act.put, List.setIfInBounds_toArray, List.set_cons_zero, List.set_cons_succ]
  refine takeA (i := 14) (v := ?_) rfl (fun _ _ _ h => h) (Or.inl ⟨by rfl, ?_⟩) hHeld ?_
  rotate_left
  · (intro wx hSw; go_simp; try (with_reducible rfl))
  try simp only [Act.put, List.setIfInBounds_toArray, List.set_cons_zero, List.set_cons_succ]
  refine doneT (by kernel_rfl) ?_ _
  refine NoPanic.normal ?_
  clear hHeld
  have hkm := Kp.of_below bm G
  have hk5 : Kp Y1 Y2 (fun k => k = gy) := Kp.of_grown g5
  have hkg : Kp W3 Y2 G := hkm.after hk5 (fun k _ e => by rw [e]; exact hgy'.out)
  replace bk := bk.after hkg (fun _ _ e => e)
  replace HX : Hid (∀ W5, Kp Y2 W5 (fun _ => False) → R W5) := Lib.hid (fun W5 h => HX.out Y2 W5 kg5 hk5 h)
  clear hkm hk5 hkg HM bm kg3 kg5 g5
  obtain ⟨v0, v1, v2, bb, mm, hc, hy, hmm⟩ := HR.out _ ((fun {W5} (h : Kp Y2 W5 (fun _ => False)) => HX.out W5 h) (Kp.refl _ _))
  go_upto_region 43 with fail
  refine wp_region_noPanic ?_
  refine region_T (fun wx => Blk wx gc #[v0, v1, v2, .bool bb] 160 ∧ Blk wx gy mm 106) 13 (by kernel_rfl) ?_
  have bD : Below Y2.heap.size Y2 Y2.drew := (Below.refl _ _).drew
  have hHeld := And.intro (hc.step bD) (hy.step bD)
  have HQ : Hid (R Y2.drew ∧ Kp w Y2.drew G) := Lib.hid ⟨(fun {W5} (h : Kp Y2 W5 (fun _ => False)) => HX.out W5 h) (Kp.of_below bD _), (bk).after (Kp.of_below bD G) (fun _ _ e => e)⟩
  clear hc hy bD
  generalize Y2.drew = Z0 at hHeld HQ ⊢
  refine takeA (i := 0) (v := ?_) rfl (fun _ _ _ h => h) (Or.inl ⟨by rfl, ?_⟩) hHeld ?_
  rotate_left
  · (intro wx hSw; go_simp; try (with_reducible rfl))
  try simp only [Act.put, List.setIfInBounds_toArray, List.set_cons_zero, List.set_cons_succ]
  refine takeA (i := 1) (v := ?_) rfl (fun _ _ _ h => h) (Or.inl ⟨by rfl, ?_⟩) hHeld ?_
  rotate_left
  · (intro wx hSw; go_simp; try (with_reducible rfl))
  try simp only [Act.put, List.setIfInBounds_toArray, List.set_cons_zero, List.set_cons_succ]
  refine takeA (i := 2) (v := ?_) rfl (fun _ _ _ h => h) (Or.inl ⟨by rfl, ?_⟩) hHeld ?_
  rotate_left
  · (intro wx hSw; go_simp; try (with_reducible rfl))
  try simp only [Act.put, List.setIfInBounds_toArray, List.set_cons_zero, List.set_cons_succ]
  refine takeA (i := 3) (v := ?_) rfl (fun _ _ _ h => h) (Or.inl ⟨by rfl, ?_⟩) hHeld ?_
  rotate_left
  · (intro wx hSw; go_simp; try (with_reducible rfl))
  try simp only [Act.put, List.setIfInBounds_toArray, List.set_cons_zero, List.set_cons_succ]
  refine takeA (i := 4) (v := ?_) rfl (fun _ _ _ h => h) (Or.inl ⟨by rfl, ?_⟩) hHeld ?_
  rotate_left
  · (intro wx hSw; go_simp; try (with_reducible rfl))
  try simp only [Act.put, List.setIfInBounds_toArray, List.set_cons_zero, List.set_cons_succ]
  refine takeA (i := 6) (v := ?_) rfl (fun _ _ _ h => h) (Or.inl ⟨by rfl, ?_⟩) hHeld ?_
  rotate_left
  · (intro wx hSw; go_simp; try (with_reducible rfl))
  try simp only [Act.put, List.setIfInBounds_toArray, List.set_cons_zero, List.set_cons_succ]
  refine takeA (i := 7) (v := ?_) rfl (fun _ _ _ h => h) (Or.inl ⟨by rfl, ?_⟩) hHeld ?_
  rotate_left
  · (intro wx hSw; go_simp; try (with_reducible rfl))
  try simp only [Act.put, List.setIfInBounds_toArray, List.set_cons_zero, List.set_cons_succ]
  refine takeA (i := 8) (v := ?_) rfl (fun _ _ _ h => h) (Or.inl ⟨by rfl, ?_⟩) hHeld ?_
  rotate_left
  · (intro wx hSw; go_simp; try (with_reducible rfl))
  try simp only [Act.put, List.setIfInBounds_toArray, List.set_cons_zero, List.set_cons_succ]
  refine takeA (i := 9) (v := ?_) rfl (fun _ _ _ h => h) (Or.inl ⟨by rfl, ?_⟩) hHeld ?_
  rotate_left
  · (intro wx hSw; have hc16 := (cell_of_row wx gy 16 _ _ (0, 0) hSw.2).trans hmm; go_simp; try (with_reducible rfl))
  try simp only [Act.put, List.setIfInBounds_toArray, List.set_cons_zero, List.set_cons_succ]
  refine oneT (i := 5) rfl (by kernel_rfl) (fun KK hK => ?_)
  go_simp
  refine (cclosed_any gc v0 v1 v2 bb Z0 hHeld.1).mono ?_
  rintro e Z1 ⟨rfl, hZ⟩
  subst hZ
  refine hK.out _ _ (fun _ => hHeld) ?_
  clear hK KK
  try simp only [Act.put, List.setIfInBounds_toArray, List.set_cons_zero, List.set_cons_succ]
  refine takeA (i := 10) (v := ?_) rfl (fun _ _ _ h => h) (Or.inl ⟨by rfl, ?_⟩) hHeld ?_
  rotate_left
  · (intro wx hSw; go_simp; try (with_reducible rfl))
  try simp only [Act.put, List.setIfInBounds_toArray, List.set_cons_zero, List.set_cons_succ]
  refine takeA (i := 11) (v := ?_) rfl (fun _ _ _ h => h) (Or.inl ⟨by rfl, ?_⟩) hHeld ?_
  rotate_left
  · (intro wx hSw; go_simp; try (with_reducible rfl))
  try simp only [Act.put, List.setIfInBounds_toArray, List.set_cons_zero, List.set_cons_succ]
  refine takeA (i := 12) (v := ?_) rfl (fun _ _ _ h => h) (Or.inl ⟨by rfl, ?_⟩) hHeld ?_
  rotate_left
  · (intro wx hSw; go_simp; try (with_reducible rfl))
  try simp only [Act.put, List.setIfInBounds_toArray, List.set_cons_zero, List.set_cons_succ]
  refine doneT (by kernel_rfl) ?_ _
  refine NoPanic.normal ?_
  clear hHeld
  go_wp2_with fail
  go_ret
  exact ⟨rfl, HQ.out⟩
end
section
set_option linter.unusedSimpArgs false
open Go.RowKit
set_option maxRecDepth 100000 in
set_option maxHeartbeats 16000000 in
theorem wdoes4 (w : World) (gc gy : Nat) (k : Int) (BA : Option Addr) (bn bc : Nat) (rqo ac : List Value) (h12 : Rq12 rqo) (h7 : ac.length = 7) (G : Nat → Prop) (hG : ∀ k, G k → k < w.heap.size) (hgy : G gy) (m0 : Array Value) (hm0 : IsM m0) (kg : Blk w gy m0 106) (R : World → Prop) (hR : ∀ W, R W → ∃ v0 v1 v2 b m, Blk W gc #[v0, v1, v2, .bool b] 160 ∧ Blk W gy m 106 ∧ m[16]? = some (.bool b)) (hk : kdI k = 4) (HC : ∀ W, Below w.heap.size w W → Calls Try.prog 67 #[.pointer (some ⟨gc, 0, none⟩)] W (fun e W1 => ∃ OA on oc YA yc BO lo, e = .returned (.slice OA on oc) ∧ Own W1 BO OA on oc lo ∧ Kp W W1 G ∧ Blk W1 gy m0 106 ∧ m0[15]? = some (.slice YA on yc) ∧ RdF W1 (fun k => k = gy) YA on yc lo ∧ (∀ k, obk OA = some k → k ≠ gy ∧ (k < w.heap.size → G k)) ∧ ∀ W4 W5, Blk W4 gy (m0.setIfInBounds 15 (.slice none 0 0)) 106 → Kp W1 W4 (fun k => k = gy) → Kp W4 W5 (fun k => obk OA = some k) → R W5)) : Calls Try.prog 72 #[.pointer (some ⟨gc, 0, none⟩), .pointer (some ⟨gy, 0, none⟩), .agg (opL k BA bn bc rqo ac).toArray] w fun e w' => e = .returned (.bool true) ∧ R w' ∧ Kp w w' G := by
  have HC := Lib.hid HC
  have kb := Blk.new w (opL k BA bn bc rqo ac).toArray 109
  have b := below_a1' (Below.refl w.heap.size w) (.cells (opL k BA bn bc rqo ac).toArray 109)
  have HGL := Lib.hid hG
  have hlo : (opL k BA bn bc rqo ac).length = 21 := opL_len h12 h7
  have HGY : Hid (gy < w.heap.size) := Lib.hid (hG gy hgy)
  have HR := Lib.hid hR
  have hgy' := Lib.hid hgy
  clear hG hR hgy
  go_enter Try.func72, Try.ntmps72
  go_upto_region 2 with fail
  generalize w.alloc (.cells (opL k BA bn bc rqo ac).toArray 109) = W0 at kb b ⊢
  go_wp2_with (first | refine wpl_ldO rfl _ rfl w.heap.size rfl kb hlo ?_)
  refine (kind_any k BA bn bc rqo ac W0).mono ?_
  rintro e W1 ⟨rfl, b1⟩
  rw [hk]
  replace kb := kb.step b1
  replace b := below_step b b1
  replace kg : Blk W1 gy m0 106 := kg.step b
  clear b1 hk hlo
  go_wp2_with fail
  refine (HC.out W1 b).mono ?_
  rintro e W3 ⟨OA, on, oc, YA, yc, BO, lo, rfl, o3, hk3, kg3, hm15, ry, hOA, HX⟩
  replace HX := Lib.hid HX
  have HOA := Lib.hid hOA
  have bk := (Kp.of_below b G).after hk3 (fun _ _ e => e)
  clear hk3 kb kg b HC hOA
  have c15 := (cell_of_row W3 gy 15 _ _ (0, 0) kg3).trans hm15
  have x15 := kg3.frozen 15
  go_upto_region 6 with fail
  have g5 := rdr_grown_set W3 gy 15 (.slice none 0 0)
  have hk5 := Kp.of_grown g5
  have kg5 := kg3.set_ 15 (.slice none 0 0)
  replace bk := bk.after hk5 (fun k _ e => by rw [e]; exact hgy'.out)
  have o4 := o3.kp hk5 (fun k hk e => (HOA.out k hk).1 e)
  have ry4 := ry.kp hk5 (fun _ _ e => e) (fun _ _ e => e)
  clear c15 x15 o3 ry g5 kg3
  generalize hW : W3.setCell ⟨gy, 15, none⟩ (.slice none 0 0) = Y2 at hk5 kg5 bk o4 ry4 ⊢
  clear hW
  have HEQ : Hid (Calls Try.prog 74 #[.slice OA on oc, .slice YA on yc] Y2 fun e w' => e = .returned (.bool true) ∧ Y2 = w') := Lib.hid (by have h := bytesEqual_any OA YA on oc on yc _ _ lo lo Y2 o4.rd ry4.1; rw [show (lo == lo) = true by simp] at h; exact h)
  replace HX : Hid (∀ W5, Kp Y2 W5 (fun k => obk OA = some k) → R W5) := Lib.hid (fun W5 h => HX.out Y2 W5 kg5 hk5 h)
  have hwr := o4.wr
  have hcm := o4.rd.cap
  have hmx := o4.rd.max
  unfold maxLen at hmx
  have HBM : Hid (on ≤ 9223372036854775807) := Lib.hid (by omega)
  clear hcm hmx hk5 kg5 o4 ry4
  go_wp2_with fail
  refine HEQ.out.mono ?_
  rintro e Y3 ⟨rfl, hY⟩
  subst hY
  clear HEQ
  go_wp2_with fail
  go_loopw [20, 38] (fun y i wr => ∃ j : Nat, j ≤ on ∧ i = .int .i64 (j : Nat) ∧ Wr wr BO Y2.heap.size OA on ∧ Kp Y2 wr (fun k => obk OA = some k)) (fun _ i _ => on - (intOf i).toNat)
  case atStart => exact ⟨0, Nat.zero_le _, rfl, hwr, Kp.refl _ _⟩
  case round =>
    clear hwr
    obtain ⟨j, hj, rfl, hwr, hkp⟩ := hrel
    by_cases hlt : j < on
    · obtain ⟨g, v, hA, hBg, hU, hl, hc, hf⟩ := hwr.at_ hlt
      subst hA
      have hlt' : ((j : Int) < (on : Int)) = True := eq_true (by omega)
      have HLT : Hid (j + 1 ≤ on) := Lib.hid (by omega)
      have HJP : IntKind.i64.wrap ((j : Int) + 1) = (j : Int) + 1 := IntWalk.i64_in _ (by have := HBM.out; omega)
      have HRL := Lib.hid (And.intro (hwr.set g j (.int .u8 238)) (hkp.after (Kp.of_grown (rdr_grown_set wr g j (.int .u8 238))) (fun k _ e => by rw [e]; rfl)))
      clear hlt hwr hkp
      go_wp2_with fail
      go_roundw
      case rel => exact ⟨j + 1, HLT.out, by first | rfl | go_num, HRL.out.1, HRL.out.2⟩
      case measure => have := HLT.out; simp [intOf]; omega
    · have hlt' : ((j : Int) < (on : Int)) = False := eq_false (by omega)
      clear hlt hwr
      obtain ⟨v0, v1, v2, bb, mm, hc, hy, hmm⟩ := HR.out _ ((fun {W5} (h : Kp wr W5 (fun k => obk OA = some k)) => HX.out W5 (hkp.trans h)) (Kp.refl _ _))
      go_upto_region 43 with fail
      refine wp_region_noPanic ?_
      refine region_T (fun wx => Blk wx gc #[v0, v1, v2, .bool bb] 160 ∧ Blk wx gy mm 106) 13 (by kernel_rfl) ?_
      have bD : Below wr.heap.size wr wr.drew := (Below.refl _ _).drew
      have hHeld := And.intro (hc.step bD) (hy.step bD)
      have HQ : Hid (R wr.drew ∧ Kp w wr.drew G) := Lib.hid ⟨(fun {W5} (h : Kp wr W5 (fun k => obk OA = some k)) => HX.out W5 (hkp.trans h)) (Kp.of_below bD _), (bk.after hkp (fun k h e => (HOA.out k e).2 h)).after (Kp.of_below bD G) (fun _ _ e => e)⟩
      clear hc hy bD
      generalize wr.drew = Z0 at hHeld HQ ⊢
      refine takeA (i := 0) (v := ?_) rfl (fun _ _ _ h => h) (Or.inl ⟨by rfl, ?_⟩) hHeld ?_
      rotate_left
      · (intro wx hSw; go_simp; try (with_reducible rfl))
      try simp only [Act.put, List.setIfInBounds_toArray, List.set_cons_zero, List.set_cons_succ]
      refine takeA (i := 1) (v := ?_) rfl (fun _ _ _ h => h) (Or.inl ⟨by rfl, ?_⟩) hHeld ?_
      rotate_left
      · (intro wx hSw; go_simp; try (with_reducible rfl))
      try simp only [Act.put, List.setIfInBounds_toArray, List.set_cons_zero, List.set_cons_succ]
      refine takeA (i := 2) (v := ?_) rfl (fun _ _ _ h => h) (Or.inl ⟨by rfl, ?_⟩) hHeld ?_
      rotate_left
      · (intro wx hSw; go_simp; try (with_reducible rfl))
      try simp only [Act.put, List.setIfInBounds_toArray, List.set_cons_zero, List.set_cons_succ]
      refine takeA (i := 3) (v := ?_) rfl (fun _ _ _ h => h) (Or.inl ⟨by rfl, ?_⟩) hHeld ?_
      rotate_left
      · (intro wx hSw; go_simp; try (with_reducible rfl))
      try simp only [Act.put, List.setIfInBounds_toArray, List.set_cons_zero, List.set_cons_succ]
      refine takeA (i := 4) (v := ?_) rfl (fun _ _ _ h => h) (Or.inl ⟨by rfl, ?_⟩) hHeld ?_
      rotate_left
      · (intro wx hSw; go_simp; try (with_reducible rfl))
      try simp only [Act.put, List.setIfInBounds_toArray, List.set_cons_zero, List.set_cons_succ]
      refine takeA (i := 6) (v := ?_) rfl (fun _ _ _ h => h) (Or.inl ⟨by rfl, ?_⟩) hHeld ?_
      rotate_left
      · (intro wx hSw; go_simp; try (with_reducible rfl))
      try simp only [Act.put, List.setIfInBounds_toArray, List.set_cons_zero, List.set_cons_succ]
      refine takeA (i := 7) (v := ?_) rfl (fun _ _ _ h => h) (Or.inl ⟨by rfl, ?_⟩) hHeld ?_
      rotate_left
      · (intro wx hSw; go_simp; try (with_reducible rfl))
      try simp only [Act.put, List.setIfInBounds_toArray, List.set_cons_zero, List.set_cons_succ]
      refine takeA (i := 8) (v := ?_) rfl (fun _ _ _ h => h) (Or.inl ⟨by rfl, ?_⟩) hHeld ?_
      rotate_left
      · (intro wx hSw; go_simp; try (with_reducible rfl))
      try simp only [Act.put, List.setIfInBounds_toArray, List.set_cons_zero, List.set_cons_succ]
      refine takeA (i := 9) (v := ?_) rfl (fun _ _ _ h => h) (Or.inl ⟨by rfl, ?_⟩) hHeld ?_
      rotate_left
      · (intro wx hSw; have hc16 := (cell_of_row wx gy 16 _ _ (0, 0) hSw.2).trans hmm; go_simp; try (with_reducible rfl))
      try simp only [Act.put, List.setIfInBounds_toArray, List.set_cons_zero, List.set_cons_succ]
      refine oneT (i := 5) rfl (by kernel_rfl) (fun KK hK => ?_)
      go_simp
      refine (cclosed_any gc v0 v1 v2 bb Z0 hHeld.1).mono ?_
      rintro e Z1 ⟨rfl, hZ⟩
      subst hZ
      refine hK.out _ _ (fun _ => hHeld) ?_
      clear hK KK
      try simp only [Act.put, List.setIfInBounds_toArray, List.set_cons_zero, List.set_cons_succ]
      refine takeA (i := 10) (v := ?_) rfl (fun _ _ _ h => h) (Or.inl ⟨by rfl, ?_⟩) hHeld ?_
      rotate_left
      · (intro wx hSw; go_simp; try (with_reducible rfl))
      try simp only [Act.put, List.setIfInBounds_toArray, List.set_cons_zero, List.set_cons_succ]
      refine takeA (i := 11) (v := ?_) rfl (fun _ _ _ h => h) (Or.inl ⟨by rfl, ?_⟩) hHeld ?_
      rotate_left
      · (intro wx hSw; go_simp; try (with_reducible rfl))
      try simp only [Act.put, List.setIfInBounds_toArray, List.set_cons_zero, List.set_cons_succ]
      refine takeA (i := 12) (v := ?_) rfl (fun _ _ _ h => h) (Or.inl ⟨by rfl, ?_⟩) hHeld ?_
      rotate_left
      · (intro wx hSw; go_simp; try (with_reducible rfl))
      try simp only [Act.put, List.setIfInBounds_toArray, List.set_cons_zero, List.set_cons_succ]
      refine doneT (by kernel_rfl) ?_ _
      refine NoPanic.normal ?_
      clear hHeld
      go_wp2_with fail
      go_ret
      exact ⟨rfl, HQ.out⟩
end
end Go.Proofs.Ytnghmgbmflcngaa

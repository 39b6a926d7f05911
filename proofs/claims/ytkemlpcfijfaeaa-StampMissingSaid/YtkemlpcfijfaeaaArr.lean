/- Sectors as values: arrays of 64 bytes, loaded, stored, compared. Conditions: typed in each theorem. -/
import Derived.Test.YtkemlpcfijfaeaaSlc
import Derived.Test.YtkemlpcfijfaeaaOctr
import Derived.Deep.WholeRow
import Derived.Laws.CopyOwn
import Derived.Stop.BytesEq
namespace Go.Proofs.Ytkemlpcfijfaeaa
set_option linter.unusedVariables false
open Go.RowKit

/-- A sector's cells. -/
def ar (l : List UInt8) : Array Value := (cbs l).toArray
theorem ar_size (l : List UInt8) : (ar l).size = l.length := by simp [ar, cbs]
theorem su8 : (Try.prog.info? 5).map (·.size) = some 1 := by kernel_rfl
/-- A copy into a sector's row. -/
theorem wpl_copyA (w : World) {ops : Array Oper} {rest : List Oper} {o : Oper} {a : Act} {Q : Exit → Act → World → Prop} (hgd : o.guard = none) (d s : Operand) (ho : o.op = .call { callee := .builtin .copy, args := #[d, s], argTypes := #[31, 31] })
    (g off : Nat) (L : List UInt8) (hk : w.heap[g]? = some (.cells (cbs L).toArray 47 (0, 0))) (dLen dCap : Nat) (hd : a.eval d = .slice (some ⟨g, off, none⟩) dLen dCap) (B : Nat) (A : Option Addr) (n c : Nat) (l : List UInt8) (hs : a.eval s = .slice A n c) (r : Rd w B A n c l) (hn : n ≤ dLen) (hfit : off + n ≤ L.length)
    (hK : ∀ w', w'.heap[g]? = some (.cells (cbs (splice L off l)).toArray 47 (0, 0)) → Below g w w' → wpList Try.prog ops Q rest (a.put o.dst (goInt (cbs l).length)) w') : wpList Try.prog ops Q (o :: rest) a w := by
  have hl := r.len
  refine wpList_copy_splice hgd d s _ _ ho 5 Try.underlying31 su8 (some ⟨g, off, none⟩) A dLen dCap n c hd hs g off (cbs L) _ hk (cbs l) (by rw [length_cbs, hl]; exact (Nat.min_eq_left hn).symm) (fun h0 => ⟨rfl, ?_⟩) (by rw [length_cbs, length_cbs, hl]; exact hfit) (cbs_one _) g w (Below.refl _ _) (Nat.le_refl _) ?_
  · rw [length_cbs, hl] at h0
    obtain ⟨ad, x, hA, -, -, -⟩ := r.at_ (i := 0) h0
    exact ⟨ad, hA, fun j v hv => r.2.2.2.2.2 ad j v hA hv⟩
  · intro w' h1 h2
    refine hK w' ?_ h2
    have h3 : w'.heap[g]? = some (.cells (splice (cbs L) off (cbs l)).toArray 47 (0, 0)) := h1
    rw [h3]
    congr 2
    simp [splice, cbs, List.map_take, List.map_drop]
theorem unA : Try.prog.underlying 47 = some (.array 64 5) := by kernel_rfl
theorem szA : (Try.prog.info? 47).map (·.size) = some 64 := by kernel_rfl
theorem one_ar (l : List UInt8) : (ar l).all (·.oneCell') = true := by
  rw [Array.all_eq_true_iff_forall_mem]
  intro v hv
  exact cbs_one l v (by simpa [ar] using hv)
def zeroA : List UInt8 := List.replicate 64 0
theorem wp_loadA {o : Oper} {a : Act} {w : World} {K : Act → World → Prop} {Q : Exit → Act → World → Prop} (src : Operand) (g : Nat) (l : List UInt8) (hop : o.op = Op.load 47 src) (he : a.eval src = .pointer (some ⟨g, 0, none⟩)) (hk : Blk w g (ar l) 47) (hl : l.length = 64)
    (hK : K (a.put o.dst (.agg (ar l))) w) : Oper.wp Try.prog o a w K Q := by
  have h1 : (Instr.loadAt 47 (.pointer (some ⟨g, 0, none⟩))).run Try.prog w = .ok (.agg (ar l)) w := by
    simp only [Instr.loadAt, Instr.sureAddr, Sem.run_bind, Sem.run_pure, Result.andThen]
    exact run_loadVar_row w g _ _ (ar l) (0, 0) _ hk unA rfl (by rw [ar_size, hl]; exact szA)
  unfold Oper.wp
  simp [execOp, hop, he, h1, Result.andThen]
  exact hK
theorem wp_storeA {o : Oper} {a : Act} {w : World} {K : Act → World → Prop} {Q : Exit → Act → World → Prop} (dst v : Operand) (g : Nat) (l l' : List UInt8) (hop : o.op = Op.store 47 dst v) (he : a.eval dst = .pointer (some ⟨g, 0, none⟩)) (hv : a.eval v = .agg (ar l')) (hk : Blk w g (ar l) 47) (hl : l.length = 64) (hl' : l'.length = 64)
    (hK : ∀ w', Blk w' g (ar l') 47 → w.grownBy w' (some g) → K (a.put o.dst undef) w') : Oper.wp Try.prog o a w K Q := by
  have h1 : (Instr.storeAt 47 (.pointer (some ⟨g, 0, none⟩)) (.agg (ar l'))).run Try.prog w = .ok () (w.setRow g (ar l')) := by
    simp only [Instr.storeAt, Instr.sureAddr, Sem.run_bind, Sem.run_pure, Result.andThen]
    exact run_storeVar_row w g _ _ (ar l) (ar l') hk (by rw [ar_size, hl']; exact szA) (by rw [ar_size, ar_size, hl, hl']) (one_ar l')
  unfold Oper.wp
  simp [execOp, hop, he, hv, h1, Result.andThen]
  refine hK _ (setRow_heap w g _ _ _ _ hk) ⟨rfl, rfl, rfl, by simp [World.setRow], fun k hk hne => setRow_other w g k _ (fun e => hne (by rw [e]))⟩
/-- The load as the walk's simp leaves it. -/
theorem run_lcf {w : World} {g : Nat} {l : List UInt8} (hk : Blk w g (ar l) 47) (hl : l.length = 64) : (loadCellsFrom ⟨g, 0, none⟩ 0 64 #[]).run Try.prog w = .ok (ar l) w := by
  have := run_loadCells_list (P := Try.prog) w ⟨g, 0, none⟩ (ar l).toList (fun j v hv => by
    have hadd : (⟨g, 0, none⟩ : Addr).add j = ⟨g, j, none⟩ := by unfold Addr.add; split <;> simp_all
    rw [hadd, cell_of_row _ _ j (ar l) _ (0, 0) hk]
    simpa using hv)
  have e : (ar l).toList.length = 64 := by rw [Array.length_toList, ar_size, hl]
  rw [e] at this
  simpa [loadCells] using this
/-- The store as the walk's simp leaves it. -/
theorem run_scs {w : World} {g : Nat} {l l' : List UInt8} (hk : Blk w g (ar l) 47) (hl : l.length = 64) (hl' : l'.length = 64) : (storeCells ⟨g, 0, none⟩ (ar l').toList 0).run Try.prog w = .ok () (w.setRow g (ar l')) := by
  have := run_storeCells_from (P := Try.prog) g 47 (ar l').toList 0 (ar l) w hk (by rw [Array.length_toList, ar_size, ar_size, hl, hl']) (fun v hv => (Array.all_eq_true_iff_forall_mem.1 (one_ar l')) v (by simpa using hv))
  rw [this]
  congr 2
theorem run_la {w : World} {g : Nat} {l : List UInt8} (hk : Blk w g (ar l) 47) (hl : l.length = 64) : (Instr.loadAt 47 (.pointer (some ⟨g, 0, none⟩))).run Try.prog w = .ok (.agg (ar l)) w := by
  simp only [Instr.loadAt, Instr.sureAddr, Sem.run_bind, Sem.run_pure, Result.andThen]
  exact run_loadVar_row w g _ _ (ar l) (0, 0) _ hk unA rfl (by rw [ar_size, hl]; exact szA)
theorem run_sa {w : World} {g : Nat} {l l' : List UInt8} (hk : Blk w g (ar l) 47) (hl : l.length = 64) (hl' : l'.length = 64) : (Instr.storeAt 47 (.pointer (some ⟨g, 0, none⟩)) (.agg (ar l'))).run Try.prog w = .ok () (w.setRow g (ar l')) := by
  simp only [Instr.storeAt, Instr.sureAddr, Sem.run_bind, Sem.run_pure, Result.andThen]
  exact run_storeVar_row w g _ _ (ar l) (ar l') hk (by rw [ar_size, hl']; exact szA) (by rw [ar_size, ar_size, hl, hl']) (one_ar l')
/-- A sector loaded, at the head of a list of operations. -/
theorem wpl_loadA (w : World) {ops : Array Oper} {rest : List Oper} {o : Oper} {a : Act} {Q : Exit → Act → World → Prop} (hg : o.guard = none) (src : Operand) (hop : o.op = Op.load 47 src) (g : Nat) (l : List UInt8) (he : a.eval src = .pointer (some ⟨g, 0, none⟩)) (hk : Blk w g (ar l) 47) (hl : l.length = 64)
    (hK : wpList Try.prog ops Q rest (a.put o.dst (.agg (ar l))) w) : wpList Try.prog ops Q (o :: rest) a w :=
  wpList_plain hg fun K hK' => wp_loadA src g l hop he hk hl (hK' _ _ hK)
theorem wpl_storeA (w : World) {ops : Array Oper} {rest : List Oper} {o : Oper} {a : Act} {Q : Exit → Act → World → Prop} (hg : o.guard = none) (dst v : Operand) (hop : o.op = Op.store 47 dst v) (g : Nat) (l l' : List UInt8) (he : a.eval dst = .pointer (some ⟨g, 0, none⟩)) (hv : a.eval v = .agg (ar l')) (hk : Blk w g (ar l) 47) (hl : l.length = 64) (hl' : l'.length = 64)
    (hK : ∀ w', Blk w' g (ar l') 47 → w.grownBy w' (some g) → wpList Try.prog ops Q rest (a.put o.dst undef) w') : wpList Try.prog ops Q (o :: rest) a w :=
  wpList_plain hg fun K hK' => wp_storeA dst v g l l' hop he hv hk hl hl' (fun w' h1 h2 => hK' _ _ (hK w' h1 h2))
theorem run_lv {w : World} {g : Nat} {l : List UInt8} (hk : Blk w g (ar l) 47) (hl : l.length = 64) : (loadVar 47 ⟨g, 0, none⟩).run Try.prog w = .ok (.agg (ar l)) w :=
  run_loadVar_row w g _ _ (ar l) (0, 0) _ hk unA rfl (by rw [ar_size, hl]; exact szA)
theorem blk_row {w : World} {g : Nat} {l l' : List UInt8} (hk : Blk w g (ar l) 47) : Blk (w.setRow g (ar l')) g (ar l') 47 := setRow_heap w g _ _ _ _ hk
theorem grown_row (w : World) (g : Nat) (cs : Array Value) : w.grownBy (w.setRow g cs) (some g) := ⟨rfl, rfl, rfl, by simp [World.setRow], fun k hk hne => setRow_other w g k _ (fun e => hne (by rw [e]))⟩
theorem sz_ar {l : List UInt8} (hl : l.length = 64) : (ar l).size = 64 := by rw [ar_size, hl]
theorem eq_ar (a b : List UInt8) (ha : a.length = 64) (hb : b.length = 64) (w : World) : (binOp .eql 47 (.agg (ar a)) (.agg (ar b))).run Try.prog w = .ok (.bool (a == b)) w := by
  exact run_eql_bytes w _ _ 64 unA Try.underlying5 (fun w => sz8 _ rfl w) a b ha hb
theorem rd_ar {w : World} {g : Nat} {l : List UInt8} (h : Blk w g (ar l) 47) (hm : l.length ≤ maxLen) : Rd w w.heap.size (some ⟨g, 0, none⟩) l.length l.length l := by
  refine ⟨by rw [length_cbs], Nat.le_refl _, hm, (fun h => by cases h), fun ad hA _ => by injection hA with e; subst e; exact h.lt, fun ad i u hA hu => ?_⟩
  injection hA with e
  subst e
  have ha : (⟨g, 0, none⟩ : Addr).add i = ⟨g, i, none⟩ := by
    unfold Addr.add
    by_cases hi : i = 0
    · subst hi; rfl
    · rw [if_neg hi]; simp
  rw [ha, cell_of_row w g i _ _ (0, 0) h]
  simpa [ar] using hu
theorem z64 : (#[.int .u8 0, .int .u8 0, .int .u8 0, .int .u8 0, .int .u8 0, .int .u8 0, .int .u8 0, .int .u8 0, .int .u8 0, .int .u8 0, .int .u8 0, .int .u8 0, .int .u8 0, .int .u8 0, .int .u8 0, .int .u8 0, .int .u8 0, .int .u8 0, .int .u8 0, .int .u8 0, .int .u8 0, .int .u8 0, .int .u8 0, .int .u8 0, .int .u8 0, .int .u8 0, .int .u8 0, .int .u8 0, .int .u8 0, .int .u8 0, .int .u8 0, .int .u8 0, .int .u8 0, .int .u8 0, .int .u8 0, .int .u8 0, .int .u8 0, .int .u8 0, .int .u8 0, .int .u8 0, .int .u8 0, .int .u8 0, .int .u8 0, .int .u8 0, .int .u8 0, .int .u8 0, .int .u8 0, .int .u8 0, .int .u8 0, .int .u8 0, .int .u8 0, .int .u8 0, .int .u8 0, .int .u8 0, .int .u8 0, .int .u8 0, .int .u8 0, .int .u8 0, .int .u8 0, .int .u8 0, .int .u8 0, .int .u8 0, .int .u8 0, .int .u8 0] : Array Value) = ar zeroA := by rfl
end Go.Proofs.Ytkemlpcfijfaeaa

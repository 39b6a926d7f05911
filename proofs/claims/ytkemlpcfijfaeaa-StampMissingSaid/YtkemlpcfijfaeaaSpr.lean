/- Rows of sectors: cut, one sector stored; the law of what is joined no more. Conditions: typed in each theorem. -/
import Derived.Test.YtkemlpcfijfaeaaRowb
import Derived.Test.YtkemlpcfijfaeaaSpq
import Derived.Test.YtkemlpcfijfaeaaStJoins
namespace Go.Proofs.Ytkemlpcfijfaeaa
set_option linter.unusedVariables false
open Go.RowKit

theorem elB : Try.prog.elem 30 = 47 := by kernel_rfl
theorem unB : Try.prog.underlying 30 = some (.slice (Try.prog.elem 30)) := by kernel_rfl
theorem szB (wx : World) : (sizeOf (Try.prog.elem 30)).run Try.prog wx = .ok 64 wx := by
  rw [elB]
  obtain ⟨i, z, hi, hz, hs, _, _⟩ := blk_parts
  simp [sizeOf, typeInfo, hi, hs]
theorem cbb_take {L : List (List UInt8)} (h : ∀ x ∈ L, x.length = 64) (i : Nat) : (cbb L).take (i * 64) = cbb (L.take i) := by
  unfold cbb cbs
  rw [← List.map_take, flat_take 64 i L h]
theorem cbb_drop {L : List (List UInt8)} (h : ∀ x ∈ L, x.length = 64) (i : Nat) : (cbb L).drop (i * 64) = cbb (L.drop i) := by
  unfold cbb cbs
  rw [← List.map_drop, flat_drop 64 i L h]
section
variable {w : World} {B n c : Nat} {A : Option Addr} {L : List (List UInt8)}
/-- s[:j] -/
theorem slb_h (r : RdB w B A n c L) (h64 : ∀ x ∈ L, x.length = 64) (j : Nat) (hj : j ≤ n) : ∃ X cx, (∀ wx, (Instr.slice 30 (.slice A n c) none (some (.int .i64 (j : Int))) none).run Try.prog wx = .ok (.slice X j cx) wx) ∧ ∀ w' B', RdB w' B' A n c L → RdB w' B' X j cx (L.take j) := by
  have hc := r.cap
  have hcut : ∀ w' B', RdB w' B' A n c L → _ := fun w' B' h' => Rz.cut h' (i := 0) (j := j) (by omega) hj
  simp only [Nat.sub_zero, Nat.zero_mul, List.drop_zero, cbb_take h64] at hcut
  refine ⟨_, _, fun wx => ?_, hcut⟩
  rw [run_slice_h (P := Try.prog) wx _ A n c unB .i64 j (by omega) (by omega), szB]
  simp [Result.andThen, sliced]
/-- s[i:] -/
theorem slb_l (r : RdB w B A n c L) (h64 : ∀ x ∈ L, x.length = 64) (i : Nat) (I : Int) (hI : I = (i : Nat)) (hi : i ≤ n) : ∃ X cx, (∀ wx, (Instr.slice 30 (.slice A n c) (some (.int .i64 I)) none none).run Try.prog wx = .ok (.slice X (n - i) cx) wx) ∧ ∀ w' B', RdB w' B' A n c L → RdB w' B' X (n - i) cx (L.drop i) := by
  have hc := r.cap
  have hl := Rz.len r
  have hcut : ∀ w' B', RdB w' B' A n c L → _ := fun w' B' h' => Rz.cut h' (i := i) (j := n) hi (Nat.le_refl n)
  rw [List.take_of_length_le (by omega), cbb_drop h64] at hcut
  refine ⟨_, _, fun wx => ?_, hcut⟩
  rw [run_slice_l (P := Try.prog) wx _ A n c unB .i64 I (by omega) (by omega), szB]
  simp [Result.andThen, sliced, hI]
end
/-- A sector stored into a row of the call's own. -/
theorem owB_put {w : World} {B n c g : Nat} {L : List (List UInt8)} (h : OwB w B (some ⟨g, 0, none⟩) n c L) (h64 : ∀ x ∈ L, x.length = 64) {k : Nat} (hk : k < n) (x : List UInt8) (hx : x.length = 64) :
    ∃ w', (storeCells ⟨g, k * 64, none⟩ (cbs x) 0).run Try.prog w = .ok () w' ∧ OwB w' B (some ⟨g, 0, none⟩) n c (L.set k x) ∧ w.grownBy w' (some g) := by
  obtain ⟨w', h1, h2, h3⟩ := Oz.put (P := Try.prog) h hk (cbs x) (by rw [length_cbs, hx]) (cbs_one x)
  refine ⟨w', h1, ?_, h3⟩
  have hln : L.length = n := RdB.len (Oz.rz h) h64
  have e : cbb (L.set k x) = (cbb L).take (k * 64) ++ cbs x ++ (cbb L).drop (k * 64 + 64) := by
    rw [cbb_take h64, show k * 64 + 64 = (k + 1) * 64 from by omega, cbb_drop h64, List.set_eq_take_append_cons_drop, if_pos (by omega)]
    simp [cbb, cbs]
  unfold OwB
  rw [e]
  exact h2
theorem wp_putS {o : Oper} {a : Act} {w : World} {K : Act → World → Prop} {Q : Exit → Act → World → Prop} (dst v : Operand) (hop : o.op = Op.store 47 dst v)
    {B n c g : Nat} {L : List (List UInt8)} (h : OwB w B (some ⟨g, 0, none⟩) n c L) (h64 : ∀ x ∈ L, x.length = 64) {k : Nat} (hk : k < n) (x : List UInt8) (hx : x.length = 64)
    (he : a.eval dst = .pointer (some ⟨g, k * 64, none⟩)) (hv : a.eval v = .agg (ar x)) (hK : ∀ w', OwB w' B (some ⟨g, 0, none⟩) n c (L.set k x) → w.grownBy w' (some g) → K (a.put o.dst undef) w') : Oper.wp Try.prog o a w K Q := by
  obtain ⟨w', h1, h2, h3⟩ := owB_put h h64 hk x hx
  obtain ⟨i, z, hi, hz, hs, _, _⟩ := blk_parts
  have h4 : (Instr.storeAt 47 (.pointer (some ⟨g, k * 64, none⟩)) (.agg (ar x))).run Try.prog w = .ok () w' := by
    simp only [Instr.storeAt, Instr.sureAddr, Sem.run_bind, Sem.run_pure, Result.andThen]
    have hsz : (ar x).size = i.size := by rw [hs]; exact sz_ar hx
    have e1 : (ar x).toList = cbs x := by simp [ar]
    simp [storeVar, sizeOf, typeInfo, hi, Value.cells, hsz, e1, h1]
  unfold Oper.wp
  simp [execOp, hop, he, hv, h4, Result.andThen]
  exact hK w' h2 h3
theorem wpl_putS (w : World) {ops : Array Oper} {rest : List Oper} {o : Oper} {a : Act} {Q : Exit → Act → World → Prop} (hg : o.guard = none) (dst v : Operand) (hop : o.op = Op.store 47 dst v)
    {B n c g : Nat} {L : List (List UInt8)} (h : OwB w B (some ⟨g, 0, none⟩) n c L) (h64 : ∀ x ∈ L, x.length = 64) {k : Nat} (hk : k < n) (x : List UInt8) (hx : x.length = 64)
    (he : a.eval dst = .pointer (some ⟨g, k * 64, none⟩)) (hv : a.eval v = .agg (ar x)) (hK : ∀ w', OwB w' B (some ⟨g, 0, none⟩) n c (L.set k x) → w.grownBy w' (some g) → wpList Try.prog ops Q rest (a.put o.dst undef) w') : wpList Try.prog ops Q (o :: rest) a w :=
  wpList_plain hg fun K hK' => wp_putS dst v hop h h64 hk x hx he hv (fun w' h1 h2 => hK' _ _ (hK w' h1 h2))
/-- append of sectors, at a step of a region that draws its order. -/
theorem step_appA (w : World) {ops : Array Oper} {o : Oper} {a : Act} {K : Act → World → Prop} {Q : Exit → Act → World → Prop} {E : Prop}
    (hg : Region.wanted o (yielded ops a.tmps) = true) (s x : Operand) (hop : o.op = Op.call { callee := Callee.builtin Builtin.append, args := #[s, x], argTypes := #[30, 30] })
    (B : Nat) (A : Option Addr) (n c : Nat) (L : List (List UInt8)) (hs : a.eval s = .slice A n c) (hown : OwB w B A n c L)
    (B2 : Nat) (A2 : Option Addr) (m c2 : Nat) (M : List (List UInt8)) (hx : a.eval x = .slice A2 m c2) (hr : RdB w B2 A2 m c2 M)
    (hbytes : n + m ≤ 2000000000000) (hbase : B ≤ w.heap.size)
    (hK : ∀ A' c' w', OwB w' B A' (n + m) c' (L ++ M) → Below B w w' → K (a.put o.dst (.slice A' (n + m) c')) w') :
    if Region.wanted o (yielded ops a.tmps) = true then Oper.wp Try.prog o a w K Q else E := by
  obtain ⟨i, z, hi, hz, hsz, hby, hzs⟩ := blk_parts
  refine step_appz w hg s x _ hop B 47 i z 64 64 Try.underlying30 hi hz hsz hby hzs (by omega) A n c (cbb L) hs hown B2 A2 m c2 (cbb M) hx hr (fun u hu => cbs_one _ u hu) (by unfold maxLen; omega) (by omega) hbase ?_
  intro A' c' w' h1 h2
  refine hK A' c' w' ?_ h2
  unfold OwB
  rw [show cbb (L ++ M) = cbb L ++ cbb M from by simp [cbb, cbs]]
  exact h1
theorem add_z (g n : Nat) : (⟨g, 0, none⟩ : Addr).add n = ⟨g, n, none⟩ := by
  unfold Addr.add
  by_cases hi : n = 0
  · subst hi; rfl
  · rw [if_neg hi]; simp
theorem own_ld {wx : World} {B n c g : Nat} {L : List (List UInt8)} (h : OwB wx B (some ⟨g, 0, none⟩) n c L) (h64 : ∀ x ∈ L, x.length = 64) {k : Nat} (hk : k < n) {x : List UInt8} (hx : L[k]? = some x) : ∀ j v, (cbs x)[j]? = some v → wx.cell? ((⟨g, k * 64, none⟩ : Addr).add j) = some v := by
  obtain ⟨ad, y, hA, _, hy, _, hc⟩ := RdB.at_ (Oz.rz h) h64 hk
  injection hA with hA
  subst hA
  rw [hx] at hy
  injection hy with hy
  subst hy
  rw [add_z] at hc
  exact hc
theorem yield_ldS {o : Oper} {a : Act} {wx : World} {src : Operand} {B n c g : Nat} {L : List (List UInt8)} {k : Nat} {x : List UInt8} (hop : o.op = Op.load 47 src) (he : a.eval src = .pointer (some ⟨g, k * 64, none⟩)) (h : OwB wx B (some ⟨g, 0, none⟩) n c L) (h64 : ∀ x ∈ L, x.length = 64) (hk : k < n) (hx : L[k]? = some x) : (execOp a.eval o).run Try.prog wx = .ok (.value (.agg (ar x))) wx := by
  have h1 := run_laS (h64 x (List.mem_of_getElem? hx)) (own_ld h h64 hk hx)
  simp [execOp, hop, he, h1, Result.andThen]
theorem step_ldS (w : World) {ops : Array Oper} {o : Oper} {a : Act} {K : Act → World → Prop} {Q : Exit → Act → World → Prop} {E : Prop} (hg : Region.wanted o (yielded ops a.tmps) = true) (src : Operand) (hop : o.op = Op.load 47 src)
    {B n c g : Nat} {L : List (List UInt8)} (h : OwB w B (some ⟨g, 0, none⟩) n c L) (h64 : ∀ x ∈ L, x.length = 64) {k : Nat} {x : List UInt8} (hk : k < n) (hx : L[k]? = some x) (he : a.eval src = .pointer (some ⟨g, k * 64, none⟩)) (hK : K (a.put o.dst (.agg (ar x))) w) :
    if Region.wanted o (yielded ops a.tmps) = true then Oper.wp Try.prog o a w K Q else E := by
  rw [if_pos hg]
  exact wp_loadS src hop _ he x (h64 x (List.mem_of_getElem? hx)) (own_ld h h64 hk hx) hK
theorem step_putS (w : World) {ops : Array Oper} {o : Oper} {a : Act} {K : Act → World → Prop} {Q : Exit → Act → World → Prop} {E : Prop} (hg : Region.wanted o (yielded ops a.tmps) = true) (dst v : Operand) (hop : o.op = Op.store 47 dst v)
    {B n c g : Nat} {L : List (List UInt8)} (h : OwB w B (some ⟨g, 0, none⟩) n c L) (h64 : ∀ x ∈ L, x.length = 64) {k : Nat} (hk : k < n) (x : List UInt8) (hx : x.length = 64)
    (he : a.eval dst = .pointer (some ⟨g, k * 64, none⟩)) (hv : a.eval v = .agg (ar x)) (hK : ∀ w', OwB w' B (some ⟨g, 0, none⟩) n c (L.set k x) → w.grownBy w' (some g) → K (a.put o.dst undef) w') :
    if Region.wanted o (yielded ops a.tmps) = true then Oper.wp Try.prog o a w K Q else E := by
  rw [if_pos hg]
  exact wp_putS dst v hop h h64 hk x hx he hv hK
theorem set_64 {L : List (List UInt8)} (h : ∀ x ∈ L, x.length = 64) {k : Nat} {y : List UInt8} (hy : y.length = 64) : ∀ x ∈ L.set k y, x.length = 64 := by
  intro x hx
  rcases List.mem_or_eq_of_mem_set hx with h1 | h1
  · exact h x h1
  · rw [h1]; exact hy
end Go.Proofs.Ytkemlpcfijfaeaa

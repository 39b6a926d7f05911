/- icehouseref05.Split; are two rows of sectors the same. Conditions: typed in each theorem. -/
import Derived.Test.YtkemlpcfijfaeaaSpm
import Derived.BigQuiet
namespace Go.Proofs.Ytkemlpcfijfaeaa
set_option linter.unusedVariables false
open Go.RowKit

def RSplOk (g ps n : Nat) (l : List UInt8) (w : World) (e : Ending) (w' : World) : Prop := ∃ A' c', e = .returned (.slice A' (secN n) c') ∧ OwB w' w.heap.size A' (secN n) c' (splitL g ps l (secN n)) ∧ Below w.heap.size w w'
set_option maxRecDepth 100000 in
set_option maxHeartbeats 1000000 in
theorem rsplit_ok (g ps : Nat) (hg2 : g < 18446744073709551616) (A : Option Addr) (n c : Nat) (l : List UInt8) (hn : n ≤ 140737488355328) (h : ps + secN n ≤ 4294967296) (w : World) (r : Rd w w.heap.size A n c l) :
    Calls Try.prog 19 #[.int .u64 g, .int .u32 ps, .slice A n c] w (RSplOk g ps n l w) := by
  have hle := secN_le n
  have hlast := fun k => @secN_last n k
  have hs := fun w => rsectors_any n hn w
  have hkk : secN n ≤ 3000000000000 := by omega
  have hl := r.len
  unfold RSplOk
  generalize secN n = m at h hkk hs hlast ⊢
  have HS := Lib.hid hs
  have HL := Lib.hid hl
  have Hlast := Lib.hid hlast
  clear hs hle hl hlast
  go_enter Try.func19, Try.ntmps19
  go_wp2_with fail
  go_loopw [7, 8] (fun v i wr => SplRel g ps w.heap.size l w m v i wr) (fun _ i _ => m - (intOf i).toNat)
  case atStart => exact ⟨0, none, 0, Nat.zero_le _, rfl, rfl, Oz.nil _ _ _ _, Below.refl _ _⟩
  case round =>
    obtain ⟨k, A1, c1, hk, rfl, rfl, o1, b1⟩ := hrel
    by_cases hlt : k < m
    · have h48 := Hlast.out k hlt
      have rr := (r.below b1).more b1.size
      obtain ⟨j, hj⟩ : ∃ j, j = min (48 * k + 48) n := ⟨_, rfl⟩
      obtain ⟨X, cx, eS, rS⟩ := slc_lh rr (48 * k) j (48 * (k : Int)) (j : Int) (by omega) rfl (by omega) (by omega)
      have rX := rS _ _ rr
      rw [take48 HL.out (by omega) hj] at rX
      have HJ := Lib.hid hj
      clear hj rS
      have e32 : IntKind.u32.wrap (k : Int) = (k : Int) := IntWalk.u32_in _ (by omega)
      have hjn : (if (n : Int) < 48 * (k : Int) + 48 then (n : Int) else 48 * (k : Int) + 48) = (j : Int) := by rw [HJ.out]; split <;> omega
      have hq : ps + k < 4294967296 := by omega
      have hc := rblock_any g (ps + k) hg2 hq X (j - 48 * k) cx _ (by omega) wr rX
      rw [show ((ps + k : Nat) : Int) = (ps : Int) + (k : Int) from by omega] at hc
      have pl := packL_length g (ps + k) ((l.drop (48 * k)).take 48) (by rw [List.length_take]; omega)
      have HN := Lib.hid (splitL_snoc g ps l k)
      generalize packL g (ps + k) ((l.drop (48 * k)).take 48) = L at hc pl HN
      have HPL := Lib.hid pl
      clear pl rX rr
      go_wp2_with fail
      refine (HS.out _).mono ?_
      rintro e w0 ⟨rfl, rfl⟩
      go_wp2_with fail
      refine hc.mono ?_
      rintro e w2 ⟨rfl, b2⟩
      replace b1 := b1.trans (b2.mono b1.size)
      have hsz := b1.size
      replace o1 := Oz.below o1 b2
      clear b2 hc eS hjn e32
      have hfin : OwB (w2.alloc (.cells (ar L) 47)) w.heap.size A1 k c1 (splitL g ps l k) := Oz.alloc o1 _
      have rn := rdB_new w2 L HPL.out
      replace b1 := b1.alloc hsz (.cells (ar L) 47)
      go_wp2_with (first | refine wpl_bsA _ rfl _ rfl L rfl HPL.out ?_ | (at_builtin; refine wpl_appA _ rfl _ _ rfl w.heap.size A1 k c1 _ rfl hfin _ _ 1 1 [L] rfl rn (by omega) (by simp; omega) ?_))
      intro A5 c5 w5 o5 b5
      rw [← HN.out] at o5
      replace b1 := b1.trans b5
      clear b5 hfin rn o1
      go_wp2_with fail
      go_roundw
      case rel => exact ⟨k + 1, A5, c5, by omega, by go_num, rfl, o5, b1⟩
      case measure => simp [intOf]; omega
    · obtain rfl : k = m := by omega
      go_wp2_with fail
      refine (HS.out _).mono ?_
      rintro e w0 ⟨rfl, rfl⟩
      go_wp2_with fail
      go_ret
      exact ⟨A1, c1, rfl, o1, b1⟩

/-- Sector k of a row: where it lies. -/
theorem RdB.at_ {w : World} {B n c : Nat} {A : Option Addr} {L : List (List UInt8)} (h : RdB w B A n c L) (h64 : ∀ x ∈ L, x.length = 64) {k : Nat} (hk : k < n) :
    ∃ ad x, A = some ad ∧ ad.block < B ∧ L[k]? = some x ∧ x.length = 64 ∧ ∀ j u, (cbs x)[j]? = some u → w.cell? ((ad.add (k * 64)).add j) = some u := by
  obtain ⟨ad, hA, hb, hl, hc⟩ := Rz.elem h hk
  have hn : L.length = n := by
    have h1 := h.len
    unfold cbb at h1
    rw [length_cbs, flat_len 64 L h64] at h1
    omega
  have hx : L[k]? = some (L[k]'(by omega)) := List.getElem?_eq_getElem (by omega)
  refine ⟨ad, _, hA, hb, hx, h64 _ (List.getElem_mem _), fun j u hu => hc j u ?_⟩
  have e := flat_elem 64 L h64 hx
  unfold cbb cbs
  rw [← List.map_drop, ← List.map_take, e]
  exact hu
theorem RdB.len {w : World} {B n c : Nat} {A : Option Addr} {L : List (List UInt8)} (h : RdB w B A n c L) (h64 : ∀ x ∈ L, x.length = 64) : L.length = n := by
  have h1 := Rz.len h
  unfold cbb at h1
  rw [length_cbs, flat_len 64 L h64] at h1
  omega
theorem wp_loadS {o : Oper} {a : Act} {w : World} {K : Act → World → Prop} {Q : Exit → Act → World → Prop} (x : Operand) (ho : o.op = .load 47 x)
    (p : Addr) (hx : a.eval x = .pointer (some p)) (l : List UInt8) (hl : l.length = 64) (hc : ∀ j v, (cbs l)[j]? = some v → w.cell? (p.add j) = some v)
    (h : K (a.put o.dst (.agg (ar l))) w) : o.wp Try.prog a w K Q :=
  wp_loadz _ x ho p hx (cbs l) _ hc unA rfl (by rw [length_cbs, hl]; exact szA) h
theorem wpl_loadS {ops : Array Oper} {rest : List Oper} {o : Oper} {a : Act} {w : World} {Q : Exit → Act → World → Prop} (hgd : o.guard = none) (x : Operand) (ho : o.op = .load 47 x)
    (p : Addr) (hx : a.eval x = .pointer (some p)) (l : List UInt8) (hl : l.length = 64) (hc : ∀ j v, (cbs l)[j]? = some v → w.cell? (p.add j) = some v)
    (h : wpList Try.prog ops Q rest (a.put o.dst (.agg (ar l))) w) : wpList Try.prog ops Q (o :: rest) a w :=
  wpList_plain hgd fun _ hK => wp_loadS x ho p hx l hl hc (hK _ _ h)
theorem run_ldS {w : World} {p : Addr} {l : List UInt8} (hl : l.length = 64) (hc : ∀ j v, (cbs l)[j]? = some v → w.cell? (p.add j) = some v) : (loadVar 47 p).run Try.prog w = .ok (.agg (ar l)) w :=
  run_ldz w p _ (cbs l) _ hc unA rfl (by rw [length_cbs, hl]; exact szA)
theorem run_laS {w : World} {p : Addr} {l : List UInt8} (hl : l.length = 64) (hc : ∀ j v, (cbs l)[j]? = some v → w.cell? (p.add j) = some v) : (Instr.loadAt 47 (.pointer (some p))).run Try.prog w = .ok (.agg (ar l)) w := by
  simp only [Instr.loadAt, Instr.sureAddr, Sem.run_bind, Sem.run_pure, Result.andThen]
  exact run_ldS hl hc
/-- The load as the walk's simp leaves it. -/
theorem run_lcS {w : World} {p : Addr} {l : List UInt8} (hl : l.length = 64) (hc : ∀ j v, (cbs l)[j]? = some v → w.cell? (p.add j) = some v) : (loadCellsFrom p 0 64 #[]).run Try.prog w = .ok (ar l) w := by
  have := run_loadCells_list (P := Try.prog) w p (cbs l) hc
  rw [length_cbs, hl] at this
  unfold loadCells at this
  exact this
theorem quiet_loadS {ops : Array Oper} {C : World → Prop} {Q : Act → Prop} {a : Act} {o : Oper} {rest : List Oper} (hw : Region.wanted o (yielded ops a.tmps) = true) (x : Operand) (ho : o.op = .load 47 x)
    (p : Addr) (hx : a.eval x = .pointer (some p)) (l : List UInt8) (hl : l.length = 64) (hc : ∀ W, C W → ∀ j v, (cbs l)[j]? = some v → W.cell? (p.add j) = some v)
    (h : wpQuiet Try.prog ops C Q rest (a.put o.dst (.agg (ar l)))) : wpQuiet Try.prog ops C Q (o :: rest) a := by
  refine wpQuiet_step fun K hK => ?_
  rw [if_pos hw]
  refine ⟨.agg (ar l), fun W hW => ?_, hK _ h⟩
  unfold Oper.quietAt execOp
  simp only [ho, hx, Sem.run_bind, run_laS hl (hc W hW), Result.andThen]
  exact ⟨rfl, rfl⟩
theorem eqgA : Try.prog.eqGuardType Try.prog.depth 47 = false := by kernel_rfl
theorem quiet_neqS {ops : Array Oper} {C : World → Prop} {Q : Act → Prop} {a : Act} {o : Oper} {rest : List Oper} (hw : Region.wanted o (yielded ops a.tmps) = true) (x y : Operand) (ho : o.op = .binOp .neq 47 x y 47)
    (l m : List UInt8) (hx : a.eval x = .agg (ar l)) (hy : a.eval y = .agg (ar m)) (hl : l.length = 64) (hm : m.length = 64) (r : Bool) (hr : (l == m) = !r)
    (h : wpQuiet Try.prog ops C Q rest (a.put o.dst (.bool r))) : wpQuiet Try.prog ops C Q (o :: rest) a := by
  refine wpQuiet_step fun K hK => ?_
  rw [if_pos hw]
  refine ⟨.bool r, fun W hW => ?_, hK _ h⟩
  have hE := eqE l m (!r) hl hm hr W
  unfold Oper.quietAt execOp
  simp only [ho, hx, hy, Sem.run_bind, run_eqGuard_agg W .neq _ x y (ar l) (ar m) eqgA, run_neq_struct, hE, Result.andThen, Oper.quietUpon, Sem.run_pure, Bool.not_not, and_self]
end Go.Proofs.Ytkemlpcfijfaeaa

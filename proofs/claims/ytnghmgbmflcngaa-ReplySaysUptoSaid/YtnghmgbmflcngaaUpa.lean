/- What the bound on the arguments' bulk says of a request and of an answer. Conditions: typed in each theorem. -/
import Derived.Test.YtnghmgbmflcngaaOpa
import Derived.Test.YtnghmgbmflcngaaOpq
import Derived.JoinedCond
namespace Go.Proofs.Ytnghmgbmflcngaa
set_option linter.unusedVariables false
open Go.ChangeShapes Go.WideShapes Go.ChangeAt Go.RowKit

theorem ub_one {H : Type} (d : DataW H) : 1 ≤ Rows.uptoBulk d := by
  cases d with
  | lit l => cases l <;> simp [Rows.uptoBulk]
  | nil => simp [Rows.uptoBulk]
  | ptr d => simp [Rows.uptoBulk]
  | slice elems spare => simp [Rows.uptoBulk]
  | agg parts => simp [Rows.uptoBulk]
  | iface t d => simp [Rows.uptoBulk]
  | map entries => simp [Rows.uptoBulk]
  | held h => simp [Rows.uptoBulk]
theorem ub_part {H : Type} {d : DataW H} {l : List (DataW H)} (h : d ∈ l) : Rows.uptoBulk d ≤ Rows.uptoBulkAll l := by
  induction l with
  | nil => cases h
  | cons x r ih =>
    simp only [Rows.uptoBulkAll]
    cases List.mem_cons.1 h with
    | inl e => subst e; omega
    | inr e => have := ih e; omega
theorem ub_len {H : Type} (l : List (DataW H)) : l.length ≤ Rows.uptoBulkAll l := by
  induction l with
  | nil => simp [Rows.uptoBulkAll]
  | cons x r ih => have := ub_one x; simp only [Rows.uptoBulkAll, List.length_cons]; omega
section
variable {H : Type} {enc : TypeId × Value → H} {W : World}
theorem ub_field {P : Program} {fuel : Nat} {t : TypeId} {fs : Array Field} {cs : List Value} {x : DataW H × List MemPlace} (ht : P.underlying t = some (.struct fs)) (h : DataW.trod enc P W 0 (fun _ => true) true fuel t cs = some x) :
    ∃ n, ∀ (i : Nat) (T : TypeId) (o : Nat), (fs[i]?).map (fun f => (f.type, f.offset)) = some (T, o) → ∃ y, DataW.trod enc P W 0 (fun _ => true) true n T ((cs.drop o).take (P.cellsOf T)) = some y ∧ Rows.uptoBulk y.1 ≤ Rows.uptoBulk x.1 := by
  obtain ⟨xs, n, _, hx, hl, hlen, hf⟩ := DataW.trod_struct ht h
  refine ⟨n, fun i T o hio => ?_⟩
  obtain ⟨f, hi, he⟩ := Option.map_eq_some_iff.1 hio
  simp only [Prod.mk.injEq] at he
  obtain ⟨rfl, rfl⟩ := he
  have hi2 : i < xs.length := by have := (Array.getElem?_eq_some_iff.1 hi).1; omega
  refine ⟨xs[i], (hf i f hi).trans (List.getElem?_eq_getElem hi2), ?_⟩
  subst hx
  simp only [Rows.uptoBulk]
  have : (xs[i]).1 ∈ xs.map (·.1) := List.mem_map.2 ⟨xs[i], List.getElem_mem hi2, rfl⟩
  have := ub_part this
  omega
theorem ub_bytes {fuel : Nat} {A : Option Addr} {n c : Nat} {x : DataW H × List MemPlace} (h : DataW.trod enc Try.prog W 0 (fun _ => true) true fuel 23 [.slice A n c] = some x) : n ≤ Rows.uptoBulk x.1 := by
  rcases open_ints Try.underlying23 Try.underlying5 (by kernel_rfl) h with ⟨hcs, _⟩ | ⟨a, len, cap, zs, hcs, _, hl, hm, hz, hx, hcell, hwz⟩
  · simp at hcs
    omega
  · simp only [if_true] at hz
    simp only [List.cons.injEq, Value.slice.injEq, and_true] at hcs
    obtain ⟨-, rfl, -⟩ := hcs
    subst hx
    simp only [Rows.uptoBulk]
    have h1 := ub_len (lits IntKind.u8 (zs.take n) : List (DataW H))
    have h2 : (lits IntKind.u8 (zs.take n) : List (DataW H)).length = n := by simp [lits]; omega
    omega
theorem ub_str {fuel : Nat} {s : ByteArray} {x : DataW H × List MemPlace} (h : DataW.trod enc Try.prog W 0 (fun _ => true) true fuel 9 [.string s] = some x) : s.size ≤ Rows.uptoBulk x.1 := by
  obtain ⟨s', h1, h2, _⟩ := DataW.trod_string Try.underlying9 h
  simp at h1
  subst h1
  subst h2
  simp only [Rows.uptoBulk]
  have : s.data.toList.length = s.size := by rw [Array.length_toList]; rfl
  omega
theorem ub_stat {fuel : Nat} {p : ByteArray × ByteArray} {x : DataW H × List MemPlace} (h : DataW.trod enc Try.prog W 0 (fun _ => true) true fuel 96 (stCells p) = some x) : p.1.size ≤ Rows.uptoBulk x.1 ∧ p.2.size ≤ Rows.uptoBulk x.1 := by
  obtain ⟨n, hf⟩ := ub_field Try.underlying96 h
  obtain ⟨y0, t0, w0⟩ := hf 0 9 0 rfl
  obtain ⟨y1, t1, w1⟩ := hf 1 9 1 rfl
  simp only [cells_strg, stCells, List.drop_zero, List.drop_succ_cons, List.take_succ_cons, List.take_zero] at t0 t1
  exact ⟨Nat.le_trans (ub_str t0) w0, Nat.le_trans (ub_str t1) w1⟩
theorem ub_stats {fuel : Nat} {A : Option Addr} {n c : Nat} {SL : List (ByteArray × ByteArray)} {x : DataW H × List MemPlace} (h : DataW.trod enc Try.prog W 0 (fun _ => true) true fuel 27 [.slice A n c] = some x) (r : Sts W W.heap.size A n c SL) :
    ∀ p ∈ SL, p.1.size ≤ Rows.uptoBulk x.1 ∧ p.2.size ≤ Rows.uptoBulk x.1 := by
  obtain ⟨rr, hl, -⟩ := r
  rcases Go.Deep.open_slice Try.underlying27 h with ⟨h1, rfl⟩ | ⟨a, len, cap, m, k, D, Pl, h1, _, hle, hm, hmm, rfl, hi⟩
  · simp at h1
    obtain ⟨-, rfl, -⟩ := h1
    have : SL = [] := List.eq_nil_of_length_eq_zero hl
    subst this
    intro p hp
    cases hp
  · simp only [if_true] at hmm
    simp only [List.cons.injEq, Value.slice.injEq, and_true] at h1
    obtain ⟨rfl, rfl, rfl⟩ := h1
    intro p hp
    obtain ⟨i, hi', rfl⟩ := List.getElem_of_mem hp
    have hin : i < n := by omega
    obtain ⟨vs, hc, ht⟩ := hi i (by omega)
    obtain ⟨ad, q, hA, hq, h0, h1⟩ := stat_at rr hin
    obtain rfl : a = ad := by injection hA
    rw [List.getElem?_eq_getElem hi'] at hq
    obtain rfl : SL[i] = q := Option.some.inj hq
    obtain ⟨_, hvl, hat⟩ := World.cells?_some hc
    rw [cells_stat] at hvl hat
    have e0 := hat 0 (by omega)
    have e1 := hat 1 (by omega)
    obtain ⟨c0, c1, rfl⟩ := list2' hvl
    have z0 := e0.symm.trans h0
    have z1 := e1.symm.trans h1
    simp only [List.getElem?_cons_zero, List.getElem?_cons_succ, Option.some.injEq] at z0 z1
    subst z0 z1
    obtain ⟨hb1, hb2⟩ := ub_stat (p := SL[i]) ht
    have hb1 : (SL[i]).1.size ≤ Rows.uptoBulk (D i) := hb1
    have hb2 : (SL[i]).2.size ≤ Rows.uptoBulk (D i) := hb2
    have hD : D i ∈ (List.range n).map D := List.mem_map.2 ⟨i, List.mem_range.2 hin, rfl⟩
    have := ub_part hD
    simp only [Rows.uptoBulk]
    omega
theorem ub_req {op : Int} {qt fu : Bool} {bad : Int} {oq fl ex cs dl ini : Nat} {AK : Option Addr} {nk ck : Nat} {AV : Option Addr} {nv cv : Nat} {d : DataW H} {p : List MemPlace}
    (h : DataW.Trod enc Try.prog W 0 (fun _ => true) true 26 (reqV op qt fu bad oq (.slice AK nk ck) (.slice AV nv cv) fl ex cs dl ini) d p) : nk ≤ Rows.uptoBulk d ∧ nv ≤ Rows.uptoBulk d := by
  obtain ⟨fuel, hf⟩ := h
  obtain ⟨n, hf⟩ := ub_field Try.underlying26 hf
  obtain ⟨y5, t5, w5⟩ := hf 5 23 5 rfl
  obtain ⟨y6, t6, w6⟩ := hf 6 23 6 rfl
  simp only [cells_u8s, reqV, Value.cells, List.drop_zero, List.drop_succ_cons, List.take_succ_cons, List.take_zero] at t5 t6
  exact ⟨Nat.le_trans (ub_bytes t5) w5, Nat.le_trans (ub_bytes t6) w6⟩
theorem ub_ans {st : Int} {AV : Option Addr} {nv cv af ac an : Nat} {SA : Option Addr} {ns sc : Nat} {cl : Bool} {SL : List (ByteArray × ByteArray)} {d : DataW H} {p : List MemPlace}
    (h : DataW.Trod enc Try.prog W 0 (fun _ => true) true 29 (ansV st (.slice AV nv cv) af ac an (.slice SA ns sc) cl) d p) (r : Sts W W.heap.size SA ns sc SL) : nv ≤ Rows.uptoBulk d ∧ ∀ p ∈ SL, p.1.size ≤ Rows.uptoBulk d ∧ p.2.size ≤ Rows.uptoBulk d := by
  obtain ⟨fuel, hf⟩ := h
  obtain ⟨n, hf⟩ := ub_field Try.underlying29 hf
  obtain ⟨y1, t1, w1⟩ := hf 1 23 1 rfl
  obtain ⟨y5, t5, w5⟩ := hf 5 27 5 rfl
  simp only [cells_u8s, cells_stats, ansV, Value.cells, List.drop_zero, List.drop_succ_cons, List.take_succ_cons, List.take_zero] at t1 t5
  refine ⟨Nat.le_trans (ub_bytes t1) w1, fun q hq => ?_⟩
  obtain ⟨h1, h2⟩ := ub_stats t5 r q hq
  exact ⟨Nat.le_trans h1 w5, Nat.le_trans h2 w5⟩
end
end Go.Proofs.Ytnghmgbmflcngaa

/- How a plan and a row of items come in; an item of a row. Conditions: typed in each theorem. -/
import Derived.Test.YtajjoepdkikeeaaZ25
namespace Go.Proofs.Ytajjoepdkikeeaa
set_option linter.unusedVariables false
open Go.ChangeShapes Go.WideShapes Go.ChangeAt Go.RowKit

/-- An item by its words. -/
structure IT where
  lk : List UInt8
  lv : List UInt8
  fl : Nat
  ex : Nat
  sq : Nat
  b : Bool
def ICell (W : World) (B : Nat) (t : IT) (cs : List Value) : Prop := ∃ (AK : Option Addr) (nk ck : Nat) (AV : Option Addr) (nv cv : Nat), cs = [.slice AK nk ck, .slice AV nv cv, .int .u32 (t.fl : Int), .int .u32 (t.ex : Int), .int .u64 (t.sq : Int), .bool t.b] ∧ Rd W B AK nk ck t.lk ∧ Rd W B AV nv cv t.lv
theorem ICell.len {W : World} {B : Nat} {t : IT} {cs : List Value} (h : ICell W B t cs) : cs.length = 6 := by
  obtain ⟨AK, nk, ck, AV, nv, cv, rfl, -, -⟩ := h
  rfl
theorem flat_atI {α : Type} {z : Nat} (hz : 0 < z) : ∀ (L : List (List α)), (∀ x ∈ L, x.length = z) → ∀ k, L.flatten[k]? = (L[k / z]?).bind (fun x => x[k % z]?)
  | [], _, k => by simp
  | v :: vs, hv, k => by
    have hvs : v.length = z := hv v List.mem_cons_self
    rw [List.flatten_cons]
    by_cases hk : k < z
    · rw [List.getElem?_append_left (by omega), Nat.div_eq_of_lt hk, Nat.mod_eq_of_lt hk]
      simp
    · have h1 : k / z = (k - z) / z + 1 := by
        have := Nat.sub_add_cancel (Nat.le_of_not_lt hk)
        conv => lhs; rw [← this]
        rw [Nat.add_div_right _ hz]
      have h2 : k % z = (k - z) % z := by
        have := Nat.sub_add_cancel (Nat.le_of_not_lt hk)
        conv => lhs; rw [← this]
        rw [Nat.add_mod_right]
      rw [List.getElem?_append_right (by omega), hvs, flat_atI hz vs (fun u hu => hv u (List.mem_cons_of_mem _ hu)) (k - z), h1, h2, List.getElem?_cons_succ]
theorem flatI_len {α : Type} (z : Nat) : ∀ (L : List (List α)), (∀ x ∈ L, x.length = z) → L.flatten.length = L.length * z
  | [], _ => by simp
  | v :: vs, hv => by
    rw [List.flatten_cons, List.length_append, hv v List.mem_cons_self, flatI_len z vs (fun u hu => hv u (List.mem_cons_of_mem _ hu)), List.length_cons, Nat.succ_mul, Nat.add_comm]
/-- What is known of a row of items. -/
def RowI (W : World) (B : Nat) (A : Option Addr) (n c : Nat) (its : List IT) : Prop := ∃ L : List (List Value), Rz W B 6 A n c L.flatten ∧ (L.length = its.length ∧ ∀ (j : Nat) (t : IT) (cs : List Value), its[j]? = some t → L[j]? = some cs → ICell W B t cs) ∧ n = its.length
theorem RowI.below {W W' : World} {B : Nat} {A : Option Addr} {n c : Nat} {its : List IT} (h : RowI W B A n c its) (b : Below B W W') : RowI W' B A n c its := by
  obtain ⟨L, h1, ⟨h2, h3⟩, h4⟩ := h
  refine ⟨L, h1.below b, ⟨h2, fun j t cs e1 e2 => ?_⟩, h4⟩
  obtain ⟨AK, nk, ck, AV, nv, cv, e, r1, r2⟩ := h3 j t cs e1 e2
  exact ⟨AK, nk, ck, AV, nv, cv, e, r1.below b, r2.below b⟩
theorem RowI.at {W : World} {B : Nat} {A : Option Addr} {n c : Nat} {its : List IT} (h : RowI W B A n c its) {j : Nat} (hj : j < n) :
    ∃ ad t AK nk ck AV nv cv, A = some ad ∧ its[j]? = some t ∧ (∀ (i : Nat) (v : Value), ([.slice AK nk ck, .slice AV nv cv, .int .u32 (t.fl : Int), .int .u32 (t.ex : Int), .int .u64 (t.sq : Int), .bool t.b] : List Value)[i]? = some v → W.cell? ((ad.add (j * 6)).add i) = some v) ∧ Rd W B AK nk ck t.lk ∧ Rd W B AV nv cv t.lv := by
  obtain ⟨L, h1, ⟨h2, h3⟩, h4⟩ := h
  obtain ⟨ad, hA, hb, hl, hc⟩ := Rz.elem h1 (i := j) hj
  have hq : its[j]? = some its[j] := List.getElem?_eq_getElem (by omega)
  have hjl : j < L.length := by omega
  have hL : L[j]? = some L[j] := List.getElem?_eq_getElem hjl
  obtain ⟨AK, nk, ck, AV, nv, cv, e, r1, r2⟩ := h3 j _ _ hq hL
  have h6 : ∀ x ∈ L, x.length = 6 := by
    intro x hx
    obtain ⟨i, hi, rfl⟩ := List.getElem_of_mem hx
    exact (h3 i _ _ (List.getElem?_eq_getElem (by omega)) (List.getElem?_eq_getElem hi)).len
  refine ⟨ad, _, AK, nk, ck, AV, nv, cv, hA, hq, fun i v hv => hc i v ?_, r1, r2⟩
  have hi : i < 6 := by have := (List.getElem?_eq_some_iff.1 hv).1; simpa using this
  rw [List.getElem?_take_of_lt hi, List.getElem?_drop, flat_atI (by omega) _ h6, show (j * 6 + i) / 6 = j from by omega, show (j * 6 + i) % 6 = i from by omega, hL, Option.bind_some, e]
  exact hv
theorem undItem : ∃ fs, Try.prog.underlying 37 = some (.struct fs) := ⟨_, Try.underlying37⟩
theorem szItem : (Try.prog.info? 37).map (·.size) = some 6 := by kernel_rfl
theorem wpl_loadI {ops : Array Oper} {rest : List Oper} {o : Oper} {a : Act} {w : World} {Q : Exit → Act → World → Prop} (hgd : o.guard = none) (x : Operand) (ho : o.op = .load 37 x)
    (p : Addr) (hx : a.eval x = .pointer (some p)) (v0 v1 v2 v3 v4 v5 : Value) (hc : ∀ (i : Nat) (v : Value), ([v0, v1, v2, v3, v4, v5] : List Value)[i]? = some v → w.cell? (p.add i) = some v)
    (h : wpList Try.prog ops Q rest (a.put o.dst (.agg #[v0, v1, v2, v3, v4, v5])) w) : wpList Try.prog ops Q (o :: rest) a w := by
  obtain ⟨fs, hu⟩ := undItem
  exact wpList_loadz hgd _ x ho p hx [v0, v1, v2, v3, v4, v5] _ hc hu rfl szItem h
section
variable {H : Type} {enc : TypeId × Value → H} {W : World}
theorem cells_plan : Try.prog.cellsOf 23 = 5 := by kernel_rfl
def planV (s n k p c : Int) : Value := .agg #[.int .i64 s, .int .i64 n, .int .i64 k, .int .i64 p, .int .i64 c]
def in64 (x : Int) : Prop := -9223372036854775808 ≤ x ∧ x ≤ 9223372036854775807
theorem list5o {α : Type} {l : List α} (h : l.length = 5) : ∃ a b c d e, l = [a, b, c, d, e] := by
  match l, h with
  | [a, b, c, d, e], _ => exact ⟨a, b, c, d, e, rfl⟩
theorem cells_intO : Try.prog.cellsOf 3 = 1 := by kernel_rfl
theorem trod_plan {fuel : Nat} {cs : List Value} {x : DataW H × List MemPlace} (h : DataW.trod enc Try.prog W 0 (fun _ => true) true fuel 23 cs = some x) :
    ∃ s n k p c : Int, cs = [.int .i64 s, .int .i64 n, .int .i64 k, .int .i64 p, .int .i64 c] ∧ in64 s ∧ in64 n ∧ in64 k ∧ in64 p ∧ in64 c := by
  obtain ⟨n, hl, hf⟩ := trod_fields Try.underlying23 h
  rw [cells_plan] at hl
  obtain ⟨c0, c1, c2, c3, c4, rfl⟩ := list5o hl
  obtain ⟨y0, t0, -⟩ := hf 0 3 0 rfl
  obtain ⟨y1, t1, -⟩ := hf 1 3 1 rfl
  obtain ⟨y2, t2, -⟩ := hf 2 3 2 rfl
  obtain ⟨y3, t3, -⟩ := hf 3 3 3 rfl
  obtain ⟨y4, t4, -⟩ := hf 4 3 4 rfl
  simp only [cells_intO, List.drop_zero, List.drop_succ_cons, List.take_succ_cons, List.take_zero] at t0 t1 t2 t3 t4
  obtain ⟨z0, rfl, f0⟩ := trod_int1 Try.underlying3 t0
  obtain ⟨z1, rfl, f1⟩ := trod_int1 Try.underlying3 t1
  obtain ⟨z2, rfl, f2⟩ := trod_int1 Try.underlying3 t2
  obtain ⟨z3, rfl, f3⟩ := trod_int1 Try.underlying3 t3
  obtain ⟨z4, rfl, f4⟩ := trod_int1 Try.underlying3 t4
  exact ⟨z0, z1, z2, z3, z4, rfl, wf_int f0, wf_int f1, wf_int f2, wf_int f3, wf_int f4⟩
theorem open_plan {v : Value} {d : DataW H} {p : List MemPlace} {base : Nat} (hv : Value.okWide Try.prog W .any base 23 v) (h : DataW.Trod enc Try.prog W 0 (fun _ => true) true 23 v d p) :
    ∃ s n k pg c : Int, v = planV s n k pg c ∧ (in64 s ∧ in64 n ∧ in64 k ∧ in64 pg ∧ in64 c) ∧ ((∀ m ∈ d.weights Try.prog 23, m ≤ reachBytes) → True) := by
  obtain ⟨cs, rfl, hsz⟩ := okWide_struct Try.underlying23 hv
  obtain ⟨fuel, hf⟩ := h
  obtain ⟨s, n, k, p, c, hc, hi⟩ := trod_plan hf
  refine ⟨s, n, k, p, c, ?_, hi, fun _ => trivial⟩
  have : cs = #[.int .i64 s, .int .i64 n, .int .i64 k, .int .i64 p, .int .i64 c] := by
    apply Array.toList_inj.1
    exact hc
  rw [this]; rfl
set_option maxRecDepth 100000 in
theorem open_items {v : Value} {d : DataW H} {p : List MemPlace} {base : Nat} (hv : Value.okWide Try.prog W .any base 24 v) (h : DataW.Trod enc Try.prog W 0 (fun _ => true) true 24 v d p) :
    ∃ (A : Option Addr) (n c : Nat) (its : List IT), v = .slice A n c ∧ RowI W W.heap.size A n c its ∧ ((∀ m ∈ d.weights Try.prog 24, m ≤ reachBytes) → True) := by
  obtain ⟨a, n, c, rfl⟩ := okWide_slice Try.underlying24 hv
  obtain ⟨fuel, hf⟩ := h
  obtain ⟨A, n', c', l, hcs, hl, hnc, hcm, hA, hel, hw⟩ := trod_list (k := 6) (fun (a : IT × List Value) cs => cs = a.2 ∧ ICell W W.heap.size a.1 a.2) (fun _ => True) Try.underlying24 cells_item (by omega)
    (fun fuel cs x h => by
      obtain ⟨AK, nk, ck, lk, AV, nv, cv, lv, fl, ex, sq, d, hc, hi, hw⟩ := trod_item h
      exact ⟨(⟨lk, lv, fl, ex, sq, d⟩, cs), ⟨rfl, ⟨AK, nk, ck, AV, nv, cv, hc, hi.1, hi.2.1⟩⟩, fun _ => trivial⟩) hf
  simp [Value.cells] at hcs
  obtain ⟨rfl, rfl, rfl⟩ := hcs
  have hall : ∀ a ∈ l, ICell W W.heap.size a.1 a.2 := by
    intro x hx
    obtain ⟨i, hi, rfl⟩ := List.getElem_of_mem hx
    obtain ⟨_, _, _, _, h1, _⟩ := hel i _ (List.getElem?_eq_getElem hi)
    exact h1.2
  have h6 : ∀ x ∈ l.map (·.2), x.length = 6 := by
    intro x hx
    obtain ⟨y, hy, rfl⟩ := List.mem_map.1 hx
    exact (hall y hy).len
  refine ⟨_, _, _, l.map (·.1), rfl, ⟨l.map (·.2), ⟨?_, hnc, hcm, hA, fun ad h0 hn => ?_, fun ad i u h0 hu => ?_⟩, ⟨by rw [List.length_map, List.length_map], fun j q cs h1 h2 => ?_⟩, by rw [List.length_map, hl]⟩, fun _ => trivial⟩
  · rw [flatI_len 6 _ h6, List.length_map, hl]
  · obtain ⟨ad', vs, h1, h2, _⟩ := hel 0 _ (List.getElem?_eq_getElem (by omega))
    rw [h0] at h1
    injection h1 with h1
    subst h1
    exact h2
  · rw [flat_atI (by omega) _ h6, List.getElem?_map] at hu
    cases hx : l[i / 6]? with
    | none => rw [hx] at hu; simp at hu
    | some x =>
      rw [hx, Option.map_some, Option.bind_some] at hu
      obtain ⟨ad', vs, h1, _, ⟨h3, _⟩, _, h4⟩ := hel _ _ hx
      rw [h0] at h1
      injection h1 with h1
      subst h1
      have := h4 (i % 6) u (by rw [h3]; exact hu)
      rwa [show i / 6 * 6 + i % 6 = i from by omega] at this
  · rw [List.getElem?_map, Option.map_eq_some_iff] at h1 h2
    obtain ⟨a, ha, rfl⟩ := h1
    obtain ⟨b, hb, rfl⟩ := h2
    rw [ha] at hb
    injection hb with hb
    subst hb
    exact hall a (List.mem_of_getElem? ha)
end
end Go.Proofs.Ytajjoepdkikeeaa

/- How an answer comes in. Conditions: typed in each theorem. -/
import Derived.Test.YtnghmgbmflcngaaZrep
import Derived.Test.YtnghmgbmflcngaaOpen
import Derived.Test.YtnghmgbmflcngaaOpel
namespace Go.Proofs.Ytnghmgbmflcngaa
set_option linter.unusedVariables false
open Go.ChangeShapes Go.WideShapes Go.ChangeAt Go.RowKit
section
variable {H : Type} {enc : TypeId × Value → H} {W : World}
theorem cells_ans : Try.prog.cellsOf 29 = 7 := by kernel_rfl
theorem cells_stat : Try.prog.cellsOf 96 = 2 := by kernel_rfl
theorem cells_stats : Try.prog.cellsOf 27 = 1 := by kernel_rfl
theorem cells_strg : Try.prog.cellsOf 9 = 1 := by kernel_rfl
theorem trod_str1 {fuel : Nat} {v : Value} {x : DataW H × List MemPlace} (h : DataW.trod enc Try.prog W 0 (fun _ => true) true fuel 9 [v] = some x) : ∃ s : ByteArray, v = .string s ∧ s.size ≤ maxLen := by
  obtain ⟨s, h1, _, h2⟩ := DataW.trod_string Try.underlying9 h
  simp at h1
  exact ⟨s, h1, h2⟩
theorem list2' {α : Type} {l : List α} (h : l.length = 2) : ∃ c0 c1, l = [c0, c1] := by
  match l, h with
  | [a, b], _ => exact ⟨a, b, rfl⟩
theorem trod_stat {fuel : Nat} {cl : List Value} {x : DataW H × List MemPlace} (h : DataW.trod enc Try.prog W 0 (fun _ => true) true fuel 96 cl = some x) :
    ∃ p : ByteArray × ByteArray, cl = stCells p ∧ p.1.size ≤ maxLen ∧ p.2.size ≤ maxLen := by
  obtain ⟨n, hl, hf⟩ := trod_fields Try.underlying96 h
  rw [cells_stat] at hl
  obtain ⟨c0, c1, rfl⟩ := list2' hl
  obtain ⟨y0, t0, w0⟩ := hf 0 9 0 rfl
  obtain ⟨y1, t1, w1⟩ := hf 1 9 1 rfl
  simp only [cells_strg, List.drop_zero, List.drop_succ_cons, List.take_succ_cons, List.take_zero] at t0 t1
  obtain ⟨s0, rfl, f0⟩ := trod_str1 t0
  obtain ⟨s1, rfl, f1⟩ := trod_str1 t1
  exact ⟨(s0, s1), rfl, f0, f1⟩
def Sts (W : World) (B : Nat) (A : Option Addr) (n c : Nat) (SL : List (ByteArray × ByteArray)) : Prop := Rz W B 2 A n c (SL.map stCells).flatten ∧ SL.length = n ∧ ∀ p ∈ SL, p.1.size ≤ maxLen ∧ p.2.size ≤ maxLen
theorem flat_at2 {α : Type} {z : Nat} (hz : 0 < z) : ∀ (L : List (List α)), (∀ x ∈ L, x.length = z) → ∀ k, L.flatten[k]? = (L[k / z]?).bind (fun x => x[k % z]?)
  | [], _, k => by simp
  | v :: vs, hv, k => by
    have hvs : v.length = z := hv v List.mem_cons_self
    rw [List.flatten_cons]
    by_cases hk : k < z
    · rw [List.getElem?_append_left (by omega), Nat.div_eq_of_lt hk, Nat.mod_eq_of_lt hk]
      simp
    · have h1 : k / z = (k - z) / z + 1 := by
        have := Nat.sub_add_cancel (Nat.le_of_not_lt hk)
        conv => lhs; rw [← this]
        rw [Nat.add_div_right _ hz]
      have h2 : k % z = (k - z) % z := by
        have := Nat.sub_add_cancel (Nat.le_of_not_lt hk)
        conv => lhs; rw [← this]
        rw [Nat.add_mod_right]
      rw [List.getElem?_append_right (by omega), hvs, flat_at2 hz vs (fun u hu => hv u (List.mem_cons_of_mem _ hu)) (k - z), h1, h2, List.getElem?_cons_succ]
theorem st_len : ∀ (SL : List (ByteArray × ByteArray)), (SL.map stCells).flatten.length = SL.length * 2
  | [] => rfl
  | p :: l => by
    rw [List.map_cons, List.flatten_cons, List.length_append, st_len l, List.length_cons]
    show 2 + _ = _
    omega
theorem trod_stats {fuel : Nat} {cs : List Value} {x : DataW H × List MemPlace} (h : DataW.trod enc Try.prog W 0 (fun _ => true) true fuel 27 cs = some x) :
    ∃ (A : Option Addr) (n c : Nat) (SL : List (ByteArray × ByteArray)), cs = [.slice A n c] ∧ Sts W W.heap.size A n c SL := by
  obtain ⟨A, n, c, L, hcs, hl, hnc, hcm, hA, hel, -⟩ := trod_list (k := 2) (fun (p : ByteArray × ByteArray) cs => cs = stCells p ∧ p.1.size ≤ maxLen ∧ p.2.size ≤ maxLen) (fun _ => True) Try.underlying27 cells_stat (by omega)
    (fun fuel cs x h => by obtain ⟨p, h1, h2, h3⟩ := trod_stat h; exact ⟨p, ⟨h1, h2, h3⟩, fun _ => trivial⟩) h
  have h2 : ∀ y ∈ L.map stCells, y.length = 2 := by
    intro y hy
    obtain ⟨p, -, rfl⟩ := List.mem_map.1 hy
    rfl
  refine ⟨A, n, c, L, hcs, ⟨by rw [st_len, hl], hnc, hcm, hA, fun ad h0 hn => ?_, fun ad i u h0 hu => ?_⟩, hl, fun p hp => ?_⟩
  · obtain ⟨ad', vs, h1, h2, _⟩ := hel 0 _ (List.getElem?_eq_getElem (by omega))
    rw [h0] at h1
    injection h1 with h1
    subst h1
    exact h2
  · rw [flat_at2 (by omega) _ h2, List.getElem?_map] at hu
    cases hx : L[i / 2]? with
    | none => rw [hx] at hu; simp at hu
    | some p =>
      rw [hx, Option.map_some, Option.bind_some] at hu
      obtain ⟨ad', vs, h1, _, ⟨h3, _⟩, _, h4⟩ := hel _ _ hx
      rw [h0] at h1
      injection h1 with h1
      subst h1
      have := h4 (i % 2) u (by rw [h3]; exact hu)
      rwa [show i / 2 * 2 + i % 2 = i from by omega] at this
  · obtain ⟨i, hi, rfl⟩ := List.getElem_of_mem hp
    obtain ⟨_, _, _, _, h1, _⟩ := hel i _ (List.getElem?_eq_getElem hi)
    exact ⟨h1.2.1, h1.2.2⟩
def Ans (W : World) (B : Nat) (st : Int) (VA : Option Addr) (nv cv : Nat) (lv : List UInt8) (af ac an : Nat) (SA : Option Addr) (ns sc : Nat) (SL : List (ByteArray × ByteArray)) : Prop :=
  Rd W B VA nv cv lv ∧ Sts W B SA ns sc SL ∧ af < 4294967296 ∧ ac < 18446744073709551616 ∧ an < 18446744073709551616 ∧ (-9223372036854775808 ≤ st ∧ st ≤ 9223372036854775807)
set_option maxRecDepth 100000 in
theorem trod_ans {fuel : Nat} {cl : List Value} {x : DataW H × List MemPlace} (h : DataW.trod enc Try.prog W 0 (fun _ => true) true fuel 29 cl = some x) :
    ∃ (st : Int) (VA : Option Addr) (nv cv : Nat) (lv : List UInt8) (af ac an : Nat) (SA : Option Addr) (ns sc : Nat) (SL : List (ByteArray × ByteArray)) (clo : Bool),
      cl = (ansV st (.slice VA nv cv) af ac an (.slice SA ns sc) clo).cells.toList ∧ Ans W W.heap.size st VA nv cv lv af ac an SA ns sc SL ∧
      ((∀ m ∈ x.1.weights Try.prog 29, m ≤ reachBytes) → cv ≤ 140737488351232) := by
  obtain ⟨n, hl, hf⟩ := trod_fields Try.underlying29 h
  rw [cells_ans] at hl
  obtain ⟨c0, c1, c2, c3, c4, c5, c6, rfl⟩ := list7 hl
  obtain ⟨y0, t0, w0⟩ := hf 0 3 0 rfl
  obtain ⟨y1, t1, w1⟩ := hf 1 23 1 rfl
  obtain ⟨y2, t2, w2⟩ := hf 2 22 2 rfl
  obtain ⟨y3, t3, w3⟩ := hf 3 24 3 rfl
  obtain ⟨y4, t4, w4⟩ := hf 4 24 4 rfl
  obtain ⟨y5, t5, w5⟩ := hf 5 27 5 rfl
  obtain ⟨y6, t6, w6⟩ := hf 6 4 6 rfl
  simp only [cells_u8s, cells_u32, cells_u64, cells_int, cells_bool, cells_stats, List.drop_zero, List.drop_succ_cons, List.take_succ_cons, List.take_zero] at t0 t1 t2 t3 t4 t5 t6
  obtain ⟨st, rfl, f0⟩ := trod_int1 Try.underlying3 t0
  obtain ⟨VA, nv, cv, lv, rfl, r0, s0⟩ := trod_bytes1 t1
  obtain ⟨z2, rfl, f2⟩ := trod_int1 Try.underlying22 t2
  obtain ⟨z3, rfl, f3⟩ := trod_int1 Try.underlying24 t3
  obtain ⟨z4, rfl, f4⟩ := trod_int1 Try.underlying24 t4
  obtain ⟨SA, ns, sc, SL, hS, rS⟩ := trod_stats t5
  injection hS with hS
  subst hS
  obtain ⟨clo, rfl⟩ := trod_bool1 Try.underlying4 t6
  obtain ⟨af, rfl, g2⟩ := wf_nat (M := 4294967295) f2 rfl rfl
  obtain ⟨ac, rfl, g3⟩ := wf_nat (M := 18446744073709551615) f3 rfl rfl
  obtain ⟨an, rfl, g4⟩ := wf_nat (M := 18446744073709551615) f4 rfl rfl
  exact ⟨st, VA, nv, cv, lv, af, ac, an, SA, ns, sc, SL, clo, rfl, ⟨r0, rS, by omega, by omega, by omega, wf_int f0⟩, fun hw => s0 (w1 hw)⟩
end
end Go.Proofs.Ytnghmgbmflcngaa

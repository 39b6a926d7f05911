/- How a row of ops comes in. Conditions: typed in each theorem. -/
import Derived.Test.YtnghmgbmflcngaaZrl
import Derived.Test.YtnghmgbmflcngaaOpq
import Derived.Test.YtnghmgbmflcngaaOpa
import Derived.Test.YtnghmgbmflcngaaOpel
namespace Go.Proofs.Ytnghmgbmflcngaa
set_option linter.unusedVariables false
open Go.ChangeShapes Go.WideShapes Go.ChangeAt Go.RowKit
section
variable {H : Type} {enc : TypeId × Value → H} {W : World}
theorem cells_op : Try.prog.cellsOf 109 = 21 := by kernel_rfl
theorem list21 {α : Type} {l : List α} (h : l.length = 21) : ∃ c0 c1 r, l = c0 :: c1 :: r ∧ r.length = 19 := by
  match l, h with
  | c0 :: c1 :: r, h => exact ⟨c0, c1, r, rfl, by simpa using h⟩
theorem bytes_stat : Try.prog.bytesOf 96 = 32 := by kernel_rfl
theorem trod_stats_w {fuel : Nat} {SA : Option Addr} {ns sc : Nat} {x : DataW H × List MemPlace} (h : DataW.trod enc Try.prog W 0 (fun _ => true) true fuel 27 [.slice SA ns sc] = some x) (hw : ∀ m ∈ x.1.weights Try.prog 27, m ≤ reachBytes) : ns ≤ 9223372036854775800 := by
  obtain ⟨A, n, c, L, hcs, hl, hnc, hcm, hA, hel, hwt⟩ := trod_list (k := 2) (fun (p : ByteArray × ByteArray) cs => cs = stCells p ∧ p.1.size ≤ maxLen ∧ p.2.size ≤ maxLen) (fun _ => True) Try.underlying27 cells_stat (by omega)
    (fun fuel cs x h => by obtain ⟨p, h1, h2, h3⟩ := trod_stat h; exact ⟨p, ⟨h1, h2, h3⟩, fun _ => trivial⟩) h
  injection hcs with hcs
  injection hcs with e1 e2 e3
  have h1 := (hwt hw).1
  rw [bytes_stat] at h1
  unfold reachBytes at h1
  omega
theorem trod_ans_w {fuel : Nat} {cl : List Value} {x : DataW H × List MemPlace} (h : DataW.trod enc Try.prog W 0 (fun _ => true) true fuel 29 cl = some x) {st : Int} {VA : Option Addr} {nv cv af ac an : Nat} {SA : Option Addr} {ns sc : Nat} {clo : Bool} (e : cl = (ansV st (.slice VA nv cv) af ac an (.slice SA ns sc) clo).cells.toList) (hw : ∀ m ∈ x.1.weights Try.prog 29, m ≤ reachBytes) : ns ≤ 9223372036854775800 := by
  subst e
  obtain ⟨n, hl, hf⟩ := trod_fields Try.underlying29 h
  obtain ⟨y5, t5, w5⟩ := hf 5 27 5 rfl
  rw [cells_stats] at t5
  exact trod_stats_w t5 (w5 hw)
def RowP (W : World) (B : Nat) (A : Option Addr) (n c : Nat) (os : List OpD) : Prop := Rz W B 21 A n c (os.map OpD.cells).flatten ∧ (∀ o ∈ os, o.ns ≤ 9223372036854775800 → o.Ok W B) ∧ n = os.length
theorem trod_op {fuel : Nat} {cl : List Value} {x : DataW H × List MemPlace} (h : DataW.trod enc Try.prog W 0 (fun _ => true) true fuel 109 cl = some x) : ∃ o : OpD, (cl = o.cells ∧ (o.ns ≤ 9223372036854775800 → o.Ok W W.heap.size)) ∧ ((∀ m ∈ x.1.weights Try.prog 109, m ≤ reachBytes) → o.ns ≤ 9223372036854775800) := by
  obtain ⟨n, hl, hf⟩ := trod_fields Try.underlying109 h
  rw [cells_op] at hl
  obtain ⟨c0, c1, r, rfl, hr⟩ := list21 hl
  obtain ⟨y0, t0, w0⟩ := hf 0 3 0 rfl
  obtain ⟨y1, t1, w1⟩ := hf 1 23 1 rfl
  obtain ⟨y2, t2, w2⟩ := hf 2 26 2 rfl
  obtain ⟨y3, t3, w3⟩ := hf 3 29 14 rfl
  simp only [cells_u8s, cells_int, cells_req, cells_ans, List.drop_zero, List.drop_succ_cons, List.take_succ_cons, List.take_zero] at t0 t1 t2 t3
  obtain ⟨k, rfl, f0⟩ := trod_int1 Try.underlying3 t0
  obtain ⟨BA, bn, bc, lb, rfl, r1, s1⟩ := trod_bytes1 t1
  obtain ⟨op, qt, fu, bad, oq, fl, ex, cs, dl, ini, AK, nk, ck, lk, AV, nv, cv, lv, e2, i2, -⟩ := trod_req t2
  obtain ⟨st, VA, nva, cva, lva, af, ac, an, SA, ns, sc, SL, clo, e3, i3, -⟩ := trod_ans t3
  have hns := trod_ans_w t3 e3
  rw [List.take_of_length_le (by rw [List.length_drop, hr]; omega)] at e3
  refine ⟨⟨k, BA, bn, bc, lb, ⟨op, qt, fu, bad, oq, lk, lv, fl, ex, cs, dl, ini⟩, AK, nk, ck, AV, nv, cv, st, VA, nva, cva, lva, af, ac, an, SA, ns, sc, SL, clo⟩, ⟨?_, fun hn => ?_⟩, fun hw => hns (w3 hw)⟩
  · rw [← List.take_append_drop 12 r, e2, e3]
    rfl
  · exact ⟨r1, i2.1, i2.2.1, i3.1, i3.2.1.1, i3.2.1.2.1, i3.2.2.1, i3.2.2.2.1, i3.2.2.2.2.1, hn⟩
set_option maxRecDepth 100000 in
theorem open_ops {v : Value} {d : DataW H} {p : List MemPlace} {base : Nat} (hv : Value.okWide Try.prog W .any base 104 v) (h : DataW.Trod enc Try.prog W 0 (fun _ => true) true 104 v d p) :
    ∃ (A : Option Addr) (n c : Nat) (os : List OpD), v = .slice A n c ∧ RowP W W.heap.size A n c os ∧ ((∀ m ∈ d.weights Try.prog 104, m ≤ reachBytes) → ∀ o ∈ os, o.ns ≤ 9223372036854775800) := by
  obtain ⟨a, n, c, rfl⟩ := okWide_slice Try.underlying104 hv
  obtain ⟨fuel, hf⟩ := h
  obtain ⟨A, n', c', l, hcs, hl, hnc, hcm, hA, hel, hw⟩ := trod_list (k := 21) (fun (a : OpD) cs => cs = a.cells ∧ (a.ns ≤ 9223372036854775800 → a.Ok W W.heap.size)) (fun a => a.ns ≤ 9223372036854775800) Try.underlying104 cells_op (by omega)
    (fun fuel cs x h => by
      exact trod_op h) hf
  simp [Value.cells] at hcs
  obtain ⟨rfl, rfl, rfl⟩ := hcs
  have hall : ∀ a ∈ l, a.ns ≤ 9223372036854775800 → a.Ok W W.heap.size := by
    intro x hx
    obtain ⟨i, hi, rfl⟩ := List.getElem_of_mem hx
    obtain ⟨_, _, _, _, h1, _⟩ := hel i _ (List.getElem?_eq_getElem hi)
    exact h1.2
  have h21 : ∀ x ∈ l.map OpD.cells, x.length = 21 := by
    intro x hx
    obtain ⟨y, hy, rfl⟩ := List.mem_map.1 hx
    rfl
  refine ⟨_, _, _, l, rfl, ⟨⟨?_, hnc, hcm, hA, fun ad h0 hn => ?_, fun ad i u h0 hu => ?_⟩, hall, hl.symm⟩, fun hq => (hw hq).2⟩
  · rw [flat_len 21 _ h21, List.length_map, hl]
  · obtain ⟨ad', vs, h1, h2, _⟩ := hel 0 _ (List.getElem?_eq_getElem (by omega))
    rw [h0] at h1
    injection h1 with h1
    subst h1
    exact h2
  · rw [flat_at2 (by omega) _ h21, List.getElem?_map] at hu
    cases hx : l[i / 21]? with
    | none => rw [hx] at hu; simp at hu
    | some x =>
      rw [hx, Option.map_some, Option.bind_some] at hu
      obtain ⟨ad', vs, h1, _, ⟨h3, _⟩, _, h4⟩ := hel _ _ hx
      rw [h0] at h1
      injection h1 with h1
      subst h1
      have := h4 (i % 21) u (by rw [h3]; exact hu)
      rwa [show i / 21 * 21 + i % 21 = i from by omega] at this
end
end Go.Proofs.Ytnghmgbmflcngaa

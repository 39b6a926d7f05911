/- How a request comes in. Conditions: typed in each theorem. -/
import Derived.Test.YtnghmgbmflcngaaZcod
import Derived.Test.YtnghmgbmflcngaaOpen
namespace Go.Proofs.Ytnghmgbmflcngaa
set_option linter.unusedVariables false
open Go.ChangeShapes Go.WideShapes Go.ChangeAt Go.RowKit
section
variable {H : Type} {enc : TypeId × Value → H} {W : World}
theorem cells_req : Try.prog.cellsOf 26 = 12 := by kernel_rfl
def Rqs (W : World) (B : Nat) (op : Int) (qt fu : Bool) (bad : Int) (oq fl ex cs dl ini : Nat) (AK : Option Addr) (nk ck : Nat) (lk : List UInt8) (AV : Option Addr) (nv cv : Nat) (lv : List UInt8) : Prop :=
  Rd W B AK nk ck lk ∧ Rd W B AV nv cv lv ∧ oq < 4294967296 ∧ fl < 4294967296 ∧ ex < 4294967296 ∧ cs < 18446744073709551616 ∧ dl < 18446744073709551616 ∧ ini < 18446744073709551616 ∧ (-9223372036854775808 ≤ op ∧ op ≤ 9223372036854775807) ∧ (-9223372036854775808 ≤ bad ∧ bad ≤ 9223372036854775807)
set_option maxRecDepth 100000 in
theorem trod_req {fuel : Nat} {cl : List Value} {x : DataW H × List MemPlace} (h : DataW.trod enc Try.prog W 0 (fun _ => true) true fuel 26 cl = some x) :
    ∃ (op : Int) (qt fu : Bool) (bad : Int) (oq fl ex cs dl ini : Nat) (AK : Option Addr) (nk ck : Nat) (lk : List UInt8) (AV : Option Addr) (nv cv : Nat) (lv : List UInt8),
      cl = (reqV op qt fu bad oq (.slice AK nk ck) (.slice AV nv cv) fl ex cs dl ini).cells.toList ∧ Rqs W W.heap.size op qt fu bad oq fl ex cs dl ini AK nk ck lk AV nv cv lv ∧
      ((∀ m ∈ x.1.weights Try.prog 26, m ≤ reachBytes) → ck ≤ 140737488351232 ∧ cv ≤ 140737488351232) := by
  obtain ⟨n, hl, hf⟩ := trod_fields Try.underlying26 h
  rw [cells_req] at hl
  obtain ⟨c0, c1, c2, c3, c4, c5, c6, c7, c8, c9, c10, c11, rfl⟩ := list12 hl
  obtain ⟨y0, t0, w0⟩ := hf 0 3 0 rfl
  obtain ⟨y1, t1, w1⟩ := hf 1 4 1 rfl
  obtain ⟨y2, t2, w2⟩ := hf 2 4 2 rfl
  obtain ⟨y3, t3, w3⟩ := hf 3 3 3 rfl
  obtain ⟨y4, t4, w4⟩ := hf 4 22 4 rfl
  obtain ⟨y5, t5, w5⟩ := hf 5 23 5 rfl
  obtain ⟨y6, t6, w6⟩ := hf 6 23 6 rfl
  obtain ⟨y7, t7, w7⟩ := hf 7 22 7 rfl
  obtain ⟨y8, t8, w8⟩ := hf 8 22 8 rfl
  obtain ⟨y9, t9, w9⟩ := hf 9 24 9 rfl
  obtain ⟨y10, t10, w10⟩ := hf 10 24 10 rfl
  obtain ⟨y11, t11, w11⟩ := hf 11 24 11 rfl
  simp only [cells_u8s, cells_u32, cells_u64, cells_int, cells_bool, List.drop_zero, List.drop_succ_cons, List.take_succ_cons, List.take_zero] at t0 t1 t2 t3 t4 t5 t6 t7 t8 t9 t10 t11
  obtain ⟨op, rfl, f0⟩ := trod_int1 Try.underlying3 t0
  obtain ⟨qt, rfl⟩ := trod_bool1 Try.underlying4 t1
  obtain ⟨fu, rfl⟩ := trod_bool1 Try.underlying4 t2
  obtain ⟨bad, rfl, f3⟩ := trod_int1 Try.underlying3 t3
  obtain ⟨z4, rfl, f4⟩ := trod_int1 Try.underlying22 t4
  obtain ⟨AK, nk, ck, lk, rfl, r0, s0⟩ := trod_bytes1 t5
  obtain ⟨AV, nv, cv, lv, rfl, r1, s1⟩ := trod_bytes1 t6
  obtain ⟨z7, rfl, f7⟩ := trod_int1 Try.underlying22 t7
  obtain ⟨z8, rfl, f8⟩ := trod_int1 Try.underlying22 t8
  obtain ⟨z9, rfl, f9⟩ := trod_int1 Try.underlying24 t9
  obtain ⟨z10, rfl, f10⟩ := trod_int1 Try.underlying24 t10
  obtain ⟨z11, rfl, f11⟩ := trod_int1 Try.underlying24 t11
  obtain ⟨oq, rfl, g4⟩ := wf_nat (M := 4294967295) f4 rfl rfl
  obtain ⟨fl, rfl, g7⟩ := wf_nat (M := 4294967295) f7 rfl rfl
  obtain ⟨ex, rfl, g8⟩ := wf_nat (M := 4294967295) f8 rfl rfl
  obtain ⟨cs, rfl, g9⟩ := wf_nat (M := 18446744073709551615) f9 rfl rfl
  obtain ⟨dl, rfl, g10⟩ := wf_nat (M := 18446744073709551615) f10 rfl rfl
  obtain ⟨ini, rfl, g11⟩ := wf_nat (M := 18446744073709551615) f11 rfl rfl
  exact ⟨op, qt, fu, bad, oq, fl, ex, cs, dl, ini, AK, nk, ck, lk, AV, nv, cv, lv, rfl, ⟨r0, r1, by omega, by omega, by omega, by omega, by omega, by omega, wf_int f0, wf_int f3⟩, fun hw => ⟨s0 (w5 hw), s1 (w6 hw)⟩⟩
end
end Go.Proofs.Ytnghmgbmflcngaa

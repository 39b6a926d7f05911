/- A frame's bytes as the document says; frame.Put's refusals together; how a frame comes in. Conditions: typed in each theorem. -/
import Derived.Test.YtnghmgbmflcngaaFrf
import Derived.Test.YtnghmgbmflcngaaFrh
namespace Go.Proofs.Ytnghmgbmflcngaa
set_option linter.unusedVariables false
open Go.ChangeShapes Go.WideShapes Go.ChangeAt Go.RowKit

theorem put_no (mg op kl el ty st bl oq cas : Nat) (hf : HdF mg op kl el ty st bl oq cas) (X K V : Option Addr) (nx cx nk ck nv cv : Nat) (hn : nx + nk + nv ≤ 9223372036854775807) (hw : wrongE mg kl el bl nx nk nv ≠ 0) (w : World) :
    Calls Try.prog 58 #[frV mg op kl el ty st bl oq cas (.slice X nx cx) (.slice K nk ck) (.slice V nv cv)] w (PutE (wrongE mg kl el bl nx nk nv) w) := by
  by_cases h0 : mayB mg kl el bl = true
  · by_cases h1 : nx = el
    · by_cases h2 : nk = kl
      · by_cases h3 : nx + nk + nv = bl
        · by_cases h4 : 2048 < bl
          · rw [show wrongE mg kl el bl nx nk nv = 3 from by unfold wrongE; rw [if_pos ⟨h0, h1, h2, h3⟩, if_pos h4]]
            exact put_L mg op kl el ty st bl oq cas hf X K V nx cx nk ck nv cv hn h0 h1 h2 h3 h4 w
          · exact absurd (show wrongE mg kl el bl nx nk nv = 0 from by unfold wrongE; rw [if_pos ⟨h0, h1, h2, h3⟩, if_neg h4]) hw
        · rw [show wrongE mg kl el bl nx nk nv = 290 from by unfold wrongE; rw [if_neg (by omega)]]
          exact put_S mg op kl el ty st bl oq cas hf X K V nx cx nk ck nv cv hn h0 h1 h2 h3 w
      · rw [show wrongE mg kl el bl nx nk nv = 290 from by unfold wrongE; rw [if_neg (by omega)]]
        exact put_K mg op kl el ty st bl oq cas hf X K V nx cx nk ck nv cv hn h0 h1 h2 w
    · rw [show wrongE mg kl el bl nx nk nv = 290 from by unfold wrongE; rw [if_neg (by omega)]]
      exact put_X mg op kl el ty st bl oq cas hf X K V nx cx nk ck nv cv hn h0 h1 w
  · rw [show wrongE mg kl el bl nx nk nv = 290 from by unfold wrongE; rw [if_neg (fun h => h0 h.1)]]
    exact put_M mg op kl el ty st bl oq cas hf X K V nx cx nk ck nv cv hn (by simpa using h0) w

set_option maxRecDepth 100000 in
set_option maxHeartbeats 4000000 in
theorem rbytes19 (mg op kl el ty st bl oq cas : Nat) (hf : HdF mg op kl el ty st bl oq cas) (X K V : Option Addr) (nx cx nk ck nv cv : Nat) (hs : nx + nk + nv ≤ 140737488355000)
    (lx lk lv : List UInt8) (w : World) (rx : Rd w w.heap.size X nx cx lx) (rk : Rd w w.heap.size K nk ck lk) (rv : Rd w w.heap.size V nv cv lv) :
    Calls Try.prog 83 #[frV mg op kl el ty st bl oq cas (.slice X nx cx) (.slice K nk ck) (.slice V nv cv)] w (BytesQ (24 + nx + (nk + nv)) (hdB mg op kl el ty st bl oq cas ++ lx ++ (lk ++ lv)) w) := by
  have HF := Lib.hid hf
  have k0 : Blk _ _ (frC mg op kl el ty st bl oq cas (.slice X nx cx) (.slice K nk ck) (.slice V nv cv)) _ := Blk.new w _ 61
  have b : Below w.heap.size w (w.alloc (.cells (frC mg op kl el ty st bl oq cas (.slice X nx cx) (.slice K nk ck) (.slice V nv cv)) 61)) := below_a1' (Below.refl _ _) _
  clear hf
  unfold frV
  unfold frC at *
  go_enter Try.func83, Try.ntmps83
  go_wp2_with fail
  generalize w.alloc (.cells #[.int .u8 mg, .int .u8 op, .int .u16 kl, .int .u8 el, .int .u8 ty, .int .u16 st, .int .u32 bl, .int .u32 oq, .int .u64 cas, .slice X nx cx, .slice K nk ck, .slice V nv cv] 61) = W at k0 b ⊢
  obtain ⟨q0, q1, q2, q3, q4, q5, q6, q7, q8, q9, q10, q11⟩ := box12 k0
  go_region_held3 (fun w' => w'.cell? ⟨w.heap.size, 9, none⟩ = some (.slice X nx cx) ∧ w'.cell? ⟨w.heap.size, 10, none⟩ = some (.slice K nk ck) ∧ w'.cell? ⟨w.heap.size, 11, none⟩ = some (.slice V nv cv) ∧
      w'.cell? ⟨w.heap.size, 0, none⟩ = some (.int .u8 mg) ∧ w'.cell? ⟨w.heap.size, 1, none⟩ = some (.int .u8 op) ∧ w'.cell? ⟨w.heap.size, 2, none⟩ = some (.int .u16 kl) ∧ w'.cell? ⟨w.heap.size, 3, none⟩ = some (.int .u8 el) ∧ w'.cell? ⟨w.heap.size, 4, none⟩ = some (.int .u8 ty) ∧
      w'.cell? ⟨w.heap.size, 5, none⟩ = some (.int .u16 st) ∧ w'.cell? ⟨w.heap.size, 6, none⟩ = some (.int .u32 bl) ∧ w'.cell? ⟨w.heap.size, 7, none⟩ = some (.int .u32 oq) ∧ w'.cell? ⟨w.heap.size, 8, none⟩ = some (.int .u64 cas)) (first | (with_reducible exact ⟨q9, q10, q11, q0, q1, q2, q3, q4, q5, q6, q7, q8⟩) | go_keep)
    (first
      | (go_at_call 117
         refine (header19_any mg op kl el ty st bl oq cas HF.out _).mono ?_
         rintro e w2 ⟨A2, c2, rfl, o2, b2⟩
         replace k0 : Blk w2 w.heap.size _ _ := Blk.step (w := W.drew) k0 b2
         replace b := below_step (w1 := W.drew) b.drew b2
         clear q0 q1 q2 q3 q4 q5 q6 q7 q8 q9 q10 q11
         obtain ⟨q0, q1, q2, q3, q4, q5, q6, q7, q8, q9, q10, q11⟩ := box12 k0)
      | (go_at_call 82
         ((with_reducible refine (both_any A2 X 24 c2 nx cx _ _ _ _ o2.rd ((rx.below b).more b.size) (Nat.le_refl _) (by omega)).mono ?_))
         rintro e w3 ⟨A3, c3, rfl, o3, b3⟩
         replace k0 := k0.step b3
         have z3 := b.size
         replace b := below_step b b3
         clear q0 q1 q2 q3 q4 q5 q6 q7 q8 q9 q10 q11
         obtain ⟨q0, q1, q2, q3, q4, q5, q6, q7, q8, q9, q10, q11⟩ := box12 k0)
      | (go_at_call 82
         ((with_reducible refine (both_any K V nk ck nv cv _ _ _ _ ((rk.below b).more b.size) ((rv.below b).more b.size) (Nat.le_refl _) (by omega)).mono ?_))
         rintro e w4 ⟨A4, c4, rfl, o4, b4⟩
         replace k0 := k0.step b4
         replace b := below_step b b4
         have o3' := o3.step b4
         clear q0 q1 q2 q3 q4 q5 q6 q7 q8 q9 q10 q11
         obtain ⟨q0, q1, q2, q3, q4, q5, q6, q7, q8, q9, q10, q11⟩ := box12 k0)
      | (go_at_call 82
         ((with_reducible refine (both_any A3 A4 (24 + nx) c3 (nk + nv) c4 _ _ _ _ o3'.rd o4.rd (Nat.le_refl _) (by omega)).mono ?_))
         rintro e w5 ⟨A5, c5, rfl, o5, b5⟩
         replace k0 := k0.step b5
         have z5 := b.size
         replace b := below_step b b5
         clear q0 q1 q2 q3 q4 q5 q6 q7 q8 q9 q10 q11
         obtain ⟨q0, q1, q2, q3, q4, q5, q6, q7, q8, q9, q10, q11⟩ := box12 k0)
      | fail)
  go_wp2_with fail
  go_ret
  exact ⟨A5, c5, rfl, o5.more z5, b⟩

section
variable {H : Type} {enc : TypeId × Value → H} {W : World}
theorem cells_frame : Try.prog.cellsOf 61 = 12 := by kernel_rfl
theorem cells_header : Try.prog.cellsOf 59 = 9 := by kernel_rfl
def Frm (W : World) (mg op kl el ty st bl oq cas : Nat) (AX : Option Addr) (nx cx : Nat) (lx : List UInt8) (AK : Option Addr) (nk ck : Nat) (lk : List UInt8) (AV : Option Addr) (nv cv : Nat) (lv : List UInt8) : Prop :=
  HdF mg op kl el ty st bl oq cas ∧ Rd W W.heap.size AX nx cx lx ∧ Rd W W.heap.size AK nk ck lk ∧ Rd W W.heap.size AV nv cv lv
set_option maxRecDepth 100000 in
theorem trod_header {fuel : Nat} {cs : List Value} {x : DataW H × List MemPlace} (h : DataW.trod enc Try.prog W 0 (fun _ => true) true fuel 59 cs = some x) :
    ∃ mg op kl el ty st bl oq cas : Nat, cs = (hdC mg op kl el ty st bl oq cas).toList ∧ HdF mg op kl el ty st bl oq cas := by
  obtain ⟨n, hl, hf⟩ := trod_fields Try.underlying59 h
  rw [cells_header] at hl
  obtain ⟨c0, c1, c2, c3, c4, c5, c6, c7, c8, rfl⟩ := list9 hl
  obtain ⟨y0, t0, -⟩ := hf 0 5 0 rfl
  obtain ⟨y1, t1, -⟩ := hf 1 5 1 rfl
  obtain ⟨y2, t2, -⟩ := hf 2 57 2 rfl
  obtain ⟨y3, t3, -⟩ := hf 3 5 3 rfl
  obtain ⟨y4, t4, -⟩ := hf 4 5 4 rfl
  obtain ⟨y5, t5, -⟩ := hf 5 57 5 rfl
  obtain ⟨y6, t6, -⟩ := hf 6 22 6 rfl
  obtain ⟨y7, t7, -⟩ := hf 7 22 7 rfl
  obtain ⟨y8, t8, -⟩ := hf 8 24 8 rfl
  simp only [cells_u8, cells_u16, cells_u32, cells_u64, List.drop_zero, List.drop_succ_cons, List.take_succ_cons, List.take_zero] at t0 t1 t2 t3 t4 t5 t6 t7 t8
  obtain ⟨z0, rfl, f0⟩ := trod_int1 Try.underlying5 t0
  obtain ⟨z1, rfl, f1⟩ := trod_int1 Try.underlying5 t1
  obtain ⟨z2, rfl, f2⟩ := trod_int1 Try.underlying57 t2
  obtain ⟨z3, rfl, f3⟩ := trod_int1 Try.underlying5 t3
  obtain ⟨z4, rfl, f4⟩ := trod_int1 Try.underlying5 t4
  obtain ⟨z5, rfl, f5⟩ := trod_int1 Try.underlying57 t5
  obtain ⟨z6, rfl, f6⟩ := trod_int1 Try.underlying22 t6
  obtain ⟨z7, rfl, f7⟩ := trod_int1 Try.underlying22 t7
  obtain ⟨z8, rfl, f8⟩ := trod_int1 Try.underlying24 t8
  obtain ⟨mg, rfl, g0⟩ := wf_nat (M := 255) f0 rfl rfl
  obtain ⟨op, rfl, g1⟩ := wf_nat (M := 255) f1 rfl rfl
  obtain ⟨kl, rfl, g2⟩ := wf_nat (M := 65535) f2 rfl rfl
  obtain ⟨el, rfl, g3⟩ := wf_nat (M := 255) f3 rfl rfl
  obtain ⟨ty, rfl, g4⟩ := wf_nat (M := 255) f4 rfl rfl
  obtain ⟨st, rfl, g5⟩ := wf_nat (M := 65535) f5 rfl rfl
  obtain ⟨bl, rfl, g6⟩ := wf_nat (M := 4294967295) f6 rfl rfl
  obtain ⟨oq, rfl, g7⟩ := wf_nat (M := 4294967295) f7 rfl rfl
  obtain ⟨cas, rfl, g8⟩ := wf_nat (M := 18446744073709551615) f8 rfl rfl
  exact ⟨mg, op, kl, el, ty, st, bl, oq, cas, rfl, by unfold HdF; omega⟩
set_option maxRecDepth 100000 in
theorem trod_frame {fuel : Nat} {cs : List Value} {x : DataW H × List MemPlace} (h : DataW.trod enc Try.prog W 0 (fun _ => true) true fuel 61 cs = some x) :
    ∃ (mg op kl el ty st bl oq cas : Nat) (AX : Option Addr) (nx cx : Nat) (lx : List UInt8) (AK : Option Addr) (nk ck : Nat) (lk : List UInt8) (AV : Option Addr) (nv cv : Nat) (lv : List UInt8),
      cs = (frC mg op kl el ty st bl oq cas (.slice AX nx cx) (.slice AK nk ck) (.slice AV nv cv)).toList ∧ Frm W mg op kl el ty st bl oq cas AX nx cx lx AK nk ck lk AV nv cv lv ∧
      ((∀ m ∈ x.1.weights Try.prog 61, m ≤ reachBytes) → cx ≤ 140737488351232 ∧ ck ≤ 140737488351232 ∧ cv ≤ 140737488351232) := by
  obtain ⟨n, hl, hf⟩ := trod_fields Try.underlying61 h
  rw [cells_frame] at hl
  obtain ⟨c0, c1, c2, c3, c4, c5, c6, c7, c8, c9, c10, c11, rfl⟩ := list12 hl
  obtain ⟨y0, t0, -⟩ := hf 0 59 0 rfl
  obtain ⟨y1, t1, w1⟩ := hf 1 23 9 rfl
  obtain ⟨y2, t2, w2⟩ := hf 2 23 10 rfl
  obtain ⟨y3, t3, w3⟩ := hf 3 23 11 rfl
  simp only [cells_header, cells_u8s, List.drop_zero, List.drop_succ_cons, List.take_succ_cons, List.take_zero] at t0 t1 t2 t3
  obtain ⟨mg, op, kl, el, ty, st, bl, oq, cas, hc, hF⟩ := trod_header t0
  obtain ⟨AX, nx, cx, lx, rfl, r1, s1⟩ := trod_bytes1 t1
  obtain ⟨AK, nk, ck, lk, rfl, r2, s2⟩ := trod_bytes1 t2
  obtain ⟨AV, nv, cv, lv, rfl, r3, s3⟩ := trod_bytes1 t3
  refine ⟨mg, op, kl, el, ty, st, bl, oq, cas, AX, nx, cx, lx, AK, nk, ck, lk, AV, nv, cv, lv, ?_, ⟨hF, r1, r2, r3⟩, fun hw => ⟨s1 (w1 hw), s2 (w2 hw), s3 (w3 hw)⟩⟩
  have e := congrArg (· ++ [Value.slice AX nx cx, .slice AK nk ck, .slice AV nv cv]) hc
  exact e
set_option maxRecDepth 100000 in
theorem open_frame {v : Value} {d : DataW H} {p : List MemPlace} {base : Nat} (hv : Value.okWide Try.prog W .any base 61 v) (h : DataW.Trod enc Try.prog W 0 (fun _ => true) true 61 v d p) :
    ∃ (mg op kl el ty st bl oq cas : Nat) (AX : Option Addr) (nx cx : Nat) (lx : List UInt8) (AK : Option Addr) (nk ck : Nat) (lk : List UInt8) (AV : Option Addr) (nv cv : Nat) (lv : List UInt8),
      v = frV mg op kl el ty st bl oq cas (.slice AX nx cx) (.slice AK nk ck) (.slice AV nv cv) ∧ Frm W mg op kl el ty st bl oq cas AX nx cx lx AK nk ck lk AV nv cv lv ∧
      ((∀ m ∈ d.weights Try.prog 61, m ≤ reachBytes) → cx ≤ 140737488351232 ∧ ck ≤ 140737488351232 ∧ cv ≤ 140737488351232) := by
  obtain ⟨cs, rfl, hsz⟩ := okWide_struct Try.underlying61 hv
  obtain ⟨fuel, hf⟩ := h
  obtain ⟨mg, op, kl, el, ty, st, bl, oq, cas, AX, nx, cx, lx, AK, nk, ck, lk, AV, nv, cv, lv, hc, hi, hw⟩ := trod_frame hf
  refine ⟨mg, op, kl, el, ty, st, bl, oq, cas, AX, nx, cx, lx, AK, nk, ck, lk, AV, nv, cv, lv, ?_, hi, hw⟩
  have : cs = frC mg op kl el ty st bl oq cas (.slice AX nx cx) (.slice AK nk ck) (.slice AV nv cv) := by
    apply Array.toList_inj.1
    exact hc
  rw [this]; rfl
end
end Go.Proofs.Ytnghmgbmflcngaa

/- icehouselaw22.wakes. Conditions: typed in each theorem. -/
import Derived.Test.YtnghmgbmflcngaaCnx
import Derived.Test.YtnghmgbmflcngaaCna
import Derived.Deep.DeepCutAuto
namespace Go.Proofs.Ytnghmgbmflcngaa
set_option linter.unusedVariables false
open Go.RowKit
def getB : List UInt8 := [128, 0, 0, 1, 0, 0, 0, 0, 0, 0, 0, 1, 0, 0, 0, 7, 0, 0, 0, 0, 0, 0, 0, 0, 97]
set_option maxRecDepth 100000 in
set_option maxHeartbeats 2000000 in
theorem get22_any (w : World) : Calls Try.prog 108 #[.int .u8 7] w (BytesQ 25 getB w) := by
  go_enter Try.func108, Try.ntmps108
  go_wp2_with (at_make; refine wpList_mk8 _ rfl _ _ rfl w.heap.size 25 rfl rfl (by omega) (Nat.le_refl _) ?_)
  intro w1 ho hb
  have f0 := ho.frozenAt 0
  have f3 := ho.frozenAt 3
  have f11 := ho.frozenAt 11
  have f15 := ho.frozenAt 15
  have f24 := ho.frozenAt 24
  obtain ⟨x0, -, c0⟩ := ho.cellAt (j := 0) (by omega)
  obtain ⟨x3, -, c3⟩ := ho.cellAt (j := 3) (by omega)
  obtain ⟨x11, -, c11⟩ := ho.cellAt (j := 11) (by omega)
  obtain ⟨x15, -, c15⟩ := ho.cellAt (j := 15) (by omega)
  obtain ⟨x24, -, c24⟩ := ho.cellAt (j := 24) (by omega)
  have hbase := ho.base
  have o1 := ((((ho.stored 0 128).stored 3 1).stored 11 1).stored 15 7).stored 24 97
  have gg := grown_trans (grown_trans (grown_trans (grown_trans (rdr_grown_set w1 w.heap.size 0 (cb 128)) (rdr_grown_set _ w.heap.size 3 (cb 1))) (rdr_grown_set _ w.heap.size 11 (cb 1))) (rdr_grown_set _ w.heap.size 15 (cb 7))) (rdr_grown_set _ w.heap.size 24 (cb 97))
  have bb := hb.trans (below_grown gg (Nat.le_refl _) hbase.2)
  have HO := Lib.hid o1
  have HB := Lib.hid bb
  clear ho hb hbase o1 gg bb
  go_wp2_with fail
  go_ret
  exact ⟨_, _, rfl, HO.out, HB.out⟩
def q22 : RQ := ⟨0, false, false, 0, 7, [97], [], 0, 0, 0, 0, 0⟩
theorem nxt22 : nxt ([] ++ getB) = some (some (q22, 25)) := by kernel_rfl
def r22 : List UInt8 := (ofR 0 false false 7 1 0 0 0 0 0 [97] [] []).1
theorem of22 : ofR 0 false false 7 1 0 0 0 0 0 [97] [] [] = (r22, 0) := by kernel_rfl
theorem len22 : r22.length = 33 := by kernel_rfl
set_option maxRecDepth 100000 in
set_option maxHeartbeats 4000000 in
theorem wakes22 (w : World) : Calls Try.prog 63 #[] w fun e w' => e = .returned (.bool true) ∧ Below w.heap.size w w' := by
  go_enter Try.func63, Try.ntmps63
  go_wp2_with fail
  refine (cnew_any w).mono ?_
  rintro e w1 ⟨gc, rfl, h1, b⟩
  go_wp2_with fail
  refine (get22_any w1).mono ?_
  rintro e w2 ⟨A2, c2, rfl, o2, b2⟩
  have r2 := o2.rd
  have h2 := h1.step b2
  replace b := below_step b b2
  clear o2 b2 h1
  have HF := Lib.hid (cfeed_ok w.heap.size gc w.heap.size 0 0 0 0 none none [] [] (.pointer none) none A2 25 c2 getB w2 h2 r2 (by omega))
  have hs2 := b.size
  clear r2
  go_wp2_with fail
  refine HF.out.mono ?_
  rintro e w3 ⟨A3, c3, rfl, h3, k3, -⟩
  have hb3 := k3.below (fun k hk => (h2.fp k hk).1) hs2
  replace b := b.trans hb3
  have hs3 := b.size
  clear HF h2 k3 hb3 hs2
  have HX := Lib.hid (cnext_yes w.heap.size gc w.heap.size (0 + 25) c3 0 0 A3 none ([] ++ getB) [] w3 h3 q22 25 nxt22 (by decide))
  go_wp2_with fail
  refine HX.out.mono ?_
  rintro e w4 ⟨K, nk, ck, V, nv, cv, A4, c4, wv, rfl, oK, oV, h4, -, k4, -⟩
  have rK := oK.rd
  have rV := oV.rd
  have hnk := oK.len
  have hb4 := k4.below (fun k hk => (h3.fp k hk).1) hs3
  replace b := b.trans hb4
  have hs4 := b.size
  clear HX h3 k4 hb4 oK oV hs3
  obtain rfl : nk = 1 := hnk.symm
  clear hnk
  unfold reqV q22
  dsimp only
  have kq := Blk.new w4 #[.int .i64 0, .bool false, .bool false, .int .i64 0, .int .u32 7, .slice K 1 ck, .slice V nv cv, .int .u32 0, .int .u32 0, .int .u64 0, .int .u64 0, .int .u64 0] 26
  have b5 := below_a1' (Below.refl w4.heap.size w4) (.cells #[.int .i64 0, .bool false, .bool false, .int .i64 0, .int .u32 7, .slice K 1 ck, .slice V nv cv, .int .u32 0, .int .u32 0, .int .u64 0, .int .u64 0, .int .u64 0] 26)
  have h5 := h4.step b5
  have rK := rK.step b5
  have rV := rV.step b5
  replace b := below_step b b5
  clear h4 b5
  go_upto_region 5 with fail
  generalize w4.alloc (.cells #[.int .i64 0, .bool false, .bool false, .int .i64 0, .int .u32 7, .slice K 1 ck, .slice V nv cv, .int .u32 0, .int .u32 0, .int .u64 0, .int .u64 0, .int .u64 0] 26) = w5 at kq h5 rK rV b ⊢
  obtain ⟨p0, p1, p2, p3, p4, p5, p6, p7, p8, p9, p10, p11⟩ := box12 kq
  have hs5 := b.size
  have HA : Hid (Calls Try.prog 66 #[.pointer (some ⟨gc, 0, none⟩), .agg #[.int .i64 0, .bool false, .bool false, .int .i64 0, .int .u32 7, .slice K 1 ck, .slice V nv cv, .int .u32 0, .int .u32 0, .int .u64 0, .int .u64 0, .int .u64 0], .agg #[.int .i64 1, .slice none 0 0, .int .u32 0, .int .u64 0, .int .u64 0, .slice none 0 0, .bool false]] w5 (AnsQ w.heap.size gc w.heap.size A4 (0 + 25 - 25) c4 (([] ++ getB).drop 25) none 0 [] r22 w5)) :=
    Lib.hid (by
      have h := canswer_ok w.heap.size gc w.heap.size (0 + 25 - 25) c4 0 0 A4 none (([] ++ getB).drop 25) [] wv q22 w5 h5 K 1 ck V nv cv rK rV 1 none 0 0 [] 0 0 0 none 0 0 [] (Rd.nil _ _) (Rz.nil _ _ _) rfl (by decide) (by decide) (by decide) (by decide) (by decide) (by decide) (by decide) (by kernel_rfl) r22 of22 (by rw [len22]; decide)
      exact h)
  clear rK rV
  go_wp2_with fail
  refine HA.out.mono ?_
  rintro e w6 ⟨OA, oc, rfl, h6, k6, -⟩
  have hb6 := k6.below (fun k hk => (h5.fp k hk).1) hs5
  replace b := b.trans hb6
  rw [len22] at h6
  have HO := Lib.hid (cout_any _ _ _ _ _ _ _ _ _ _ _ _ _ w6 h6)
  have hs6 := b.size
  clear HA k6 hb6 h5 kq p0 p1 p2 p3 p4 p5 p6 p7 p8 p9 p10 p11 hs5
  go_wp2_with fail
  refine HO.out.mono ?_
  rintro e w7 ⟨rfl, -, h7, g7⟩
  have hb7 := (Kp.of_grown g7).below (B := w.heap.size) (fun k hk => by subst hk; exact h6.bc) hs6
  replace b := b.trans hb7
  have HC := Lib.hid (cclosed_any _ _ _ _ _ w7 h7.box)
  clear HO h6 g7 hb7 hs6 h7
  go_wp2_with fail
  refine HC.out.mono ?_
  rintro e w8 ⟨rfl, rfl⟩
  go_wp2_with fail
  go_ret
  exact ⟨rfl, b⟩
end Go.Proofs.Ytnghmgbmflcngaa

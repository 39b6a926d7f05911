/- icehouselaw20.few. Conditions: typed in each theorem. -/
import Derived.Test.YtnghmgbmflcngaaOpq
import Derived.Test.YtnghmgbmflcngaaZhld
import Derived.Test.YtnghmgbmflcngaaZfre
import Derived.Deep.DeepCutAuto
namespace Go.Proofs.Ytnghmgbmflcngaa
set_option linter.unusedVariables false
open Go.RowKit

/-- What 'few' gives: the lists cut. -/
def FewQ (op : Int) (qt fu : Bool) (bd : Int) (oq fl ex cs dl ni : Nat) (nk nv : Nat) (lk lv : List UInt8) (w : World) (e : Ending) (w' : World) : Prop :=
  ∃ K2 ck2 V2 cv2, e = .returned (reqV op qt fu bd oq (.slice K2 (min nk 600) ck2) (.slice V2 (min nv 3000) cv2) fl ex cs dl ni) ∧ Rd w' w.heap.size K2 (min nk 600) ck2 (lk.take (min nk 600)) ∧ Rd w' w.heap.size V2 (min nv 3000) cv2 (lv.take (min nv 3000)) ∧ Below w.heap.size w w'
set_option maxRecDepth 100000 in
set_option maxHeartbeats 8000000 in
theorem few_any (op : Int) (qt fu : Bool) (bd : Int) (oq fl ex cs dl ni : Nat) (K V : Option Addr) (nk ck nv cv : Nat) (lk lv : List UInt8) (w : World) (rk : Rd w w.heap.size K nk ck lk) (rv : Rd w w.heap.size V nv cv lv) (hnk : nk ≤ 9223372036854775807) (hnv : nv ≤ 9223372036854775807) :
    Calls Try.prog 40 #[reqV op qt fu bd oq (.slice K nk ck) (.slice V nv cv) fl ex cs dl ni] w (FewQ op qt fu bd oq fl ex cs dl ni nk nv lk lv w) := by
  have k1 := (Blk.new w #[.int .i64 op, .bool qt, .bool fu, .int .i64 bd, .int .u32 (oq : Nat), .slice K nk ck, .slice V nv cv, .int .u32 (fl : Nat), .int .u32 (ex : Nat), .int .u64 (cs : Nat), .int .u64 (dl : Nat), .int .u64 (ni : Nat)] 26).alloc (.cells #[.int .i64 0, .bool false, .bool false, .int .i64 0, .int .u32 0, .slice none 0 0, .slice none 0 0, .int .u32 0, .int .u32 0, .int .u64 0, .int .u64 0, .int .u64 0] 26)
  have k2 := Blk.new (w.alloc (.cells #[.int .i64 op, .bool qt, .bool fu, .int .i64 bd, .int .u32 (oq : Nat), .slice K nk ck, .slice V nv cv, .int .u32 (fl : Nat), .int .u32 (ex : Nat), .int .u64 (cs : Nat), .int .u64 (dl : Nat), .int .u64 (ni : Nat)] 26)) #[.int .i64 0, .bool false, .bool false, .int .i64 0, .int .u32 0, .slice none 0 0, .slice none 0 0, .int .u32 0, .int .u32 0, .int .u64 0, .int .u64 0, .int .u64 0] 26
  rw [World.size_alloc] at k2
  have b : Below w.heap.size w ((w.alloc (.cells #[.int .i64 op, .bool qt, .bool fu, .int .i64 bd, .int .u32 (oq : Nat), .slice K nk ck, .slice V nv cv, .int .u32 (fl : Nat), .int .u32 (ex : Nat), .int .u64 (cs : Nat), .int .u64 (dl : Nat), .int .u64 (ni : Nat)] 26)).alloc (.cells #[.int .i64 0, .bool false, .bool false, .int .i64 0, .int .u32 0, .slice none 0 0, .slice none 0 0, .int .u32 0, .int .u32 0, .int .u64 0, .int .u64 0, .int .u64 0] 26)) := below_a1' (below_a1' (Below.refl _ _) _) _
  unfold reqV
  go_enter Try.func40, Try.ntmps40
  go_upto_region 1 with fail
  generalize (w.alloc (.cells #[.int .i64 op, .bool qt, .bool fu, .int .i64 bd, .int .u32 (oq : Nat), .slice K nk ck, .slice V nv cv, .int .u32 (fl : Nat), .int .u32 (ex : Nat), .int .u64 (cs : Nat), .int .u64 (dl : Nat), .int .u64 (ni : Nat)] 26)).alloc (.cells #[.int .i64 0, .bool false, .bool false, .int .i64 0, .int .u32 0, .slice none 0 0, .slice none 0 0, .int .u32 0, .int .u32 0, .int .u64 0, .int .u64 0, .int .u64 0] 26) = W0 at k1 k2 b ⊢
  by_cases hk : nk ≤ 600
  · by_cases hv : nv ≤ 3000
    · have h9K : ((600 : Int) < (nk : Int)) = False := eq_false (by omega)
      have h9V : ((3000 : Int) < (nv : Int)) = False := eq_false (by omega)
      have EK : Hid (min nk 600 = nk) := Lib.hid (by omega)
      have EV : Hid (min nv 3000 = nv) := Lib.hid (by omega)
      obtain ⟨K2, ck2, HK, hK2⟩ := slc_h rk nk ((nk : Nat) : Int) (by omega) (by omega)
      obtain ⟨V2, cv2, HV, hV2⟩ := slc_h rv nv ((nv : Nat) : Int) (by omega) (by omega)
      have HK2 := Lib.hid (hK2 _ _ rk)
      have HV2 := Lib.hid (hV2 _ _ rv)
      clear hK2 hV2
      go_cut [] (fun wx => Blk wx w.heap.size #[.int .i64 op, .bool qt, .bool fu, .int .i64 bd, .int .u32 (oq : Nat), .slice K2 nk ck2, .slice V2 nv cv2, .int .u32 (fl : Nat), .int .u32 (ex : Nat), .int .u64 (cs : Nat), .int .u64 (dl : Nat), .int .u64 (ni : Nat)] 26 ∧ Blk wx (w.heap.size + 1) #[.int .i64 0, .bool false, .bool false, .int .i64 0, .int .u32 0, .slice none 0 0, .slice none 0 0, .int .u32 0, .int .u32 0, .int .u64 0, .int .u64 0, .int .u64 0] 26 ∧ Below w.heap.size w wx)
      case first =>
        obtain ⟨z0, z1, z2, z3, z4, z5, z6, z7, z8, z9, z10, z11⟩ := box12 k1
        have y5 := k1.frozen 5
        have y6 := k1.frozen 6
        have k1d : Blk W0.drew w.heap.size #[.int .i64 op, .bool qt, .bool fu, .int .i64 bd, .int .u32 (oq : Nat), .slice K nk ck, .slice V nv cv, .int .u32 (fl : Nat), .int .u32 (ex : Nat), .int .u64 (cs : Nat), .int .u64 (dl : Nat), .int .u64 (ni : Nat)] 26 := k1
        have k2d : Blk W0.drew (w.heap.size + 1) #[.int .i64 0, .bool false, .bool false, .int .i64 0, .int .u32 0, .slice none 0 0, .slice none 0 0, .int .u32 0, .int .u32 0, .int .u64 0, .int .u64 0, .int .u64 0] 26 := k2
        have bd : Below w.heap.size w W0.drew := b.drew
        go_region
        go_wp2_with fail
        go_meet
        have gs := grown_trans (rdr_grown_set W0.drew w.heap.size 5 (.slice K2 nk ck2)) (rdr_grown_set _ w.heap.size 6 (.slice V2 nv cv2))
        exact ⟨(k1d.set_ 5 _).set_ 6 _, k2d.leftC gs (by omega), bd.trans (below_grown gs (Nat.le_refl _) k1d.lt)⟩
      case rest =>
        obtain ⟨k1, k2, b⟩ := hcut
        obtain ⟨q0, q1, q2, q3, q4, q5, q6, q7, q8, q9, q10, q11⟩ := box12 k1
        obtain ⟨z0, z1, z2, z3, z4, z5, z6, z7, z8, z9, z10, z11⟩ := box12 k2
        have y0 := k2.frozen 0
        have y1 := k2.frozen 1
        have y2 := k2.frozen 2
        have y3 := k2.frozen 3
        have y4 := k2.frozen 4
        have y5 := k2.frozen 5
        have y6 := k2.frozen 6
        have y7 := k2.frozen 7
        have y8 := k2.frozen 8
        have y9 := k2.frozen 9
        have y10 := k2.frozen 10
        have y11 := k2.frozen 11
        have kf := blk_set12 k2 (.int .i64 op) (.bool qt) (.bool fu) (.int .i64 bd) (.int .u32 (oq : Nat)) (.slice K2 nk ck2) (.slice V2 nv cv2) (.int .u32 (fl : Nat)) (.int .u32 (ex : Nat)) (.int .u64 (cs : Nat)) (.int .u64 (dl : Nat)) (.int .u64 (ni : Nat))
        have hg := grown_set12 wc (w.heap.size + 1) (.int .i64 op) (.bool qt) (.bool fu) (.int .i64 bd) (.int .u32 (oq : Nat)) (.slice K2 nk ck2) (.slice V2 nv cv2) (.int .u32 (fl : Nat)) (.int .u32 (ex : Nat)) (.int .u64 (cs : Nat)) (.int .u64 (dl : Nat)) (.int .u64 (ni : Nat))
        have bff := b.trans (below_grown hg (by omega) k2.lt)
        obtain ⟨t0, t1, t2, t3, t4, t5, t6, t7, t8, t9, t10, t11⟩ := box12 kf
        clear kf hg k1 k2 b
        go_wp2_with fail
        refine bodyPost_ret (v := .agg #[.int .i64 op, .bool qt, .bool fu, .int .i64 bd, .int .u32 (oq : Nat), .slice K2 nk ck2, .slice V2 nv cv2, .int .u32 (fl : Nat), .int .u32 (ex : Nat), .int .u64 (cs : Nat), .int .u64 (dl : Nat), .int .u64 (ni : Nat)]) (by simp [results, Try.results40, go_sem, t0, t1, t2, t3, t4, t5, t6, t7, t8, t9, t10, t11]) rfl ?_
        refine ⟨K2, ck2, V2, cv2, by rw [EK.out, EV.out]; rfl, ?_, ?_, bff⟩
        · rw [EK.out]; exact (HK2.out.below bff)
        · rw [EV.out]; exact (HV2.out.below bff)
    · have h9K : ((600 : Int) < (nk : Int)) = False := eq_false (by omega)
      have h9V : ((3000 : Int) < (nv : Int)) = True := eq_true (by omega)
      have EK : Hid (min nk 600 = nk) := Lib.hid (by omega)
      have EV : Hid (min nv 3000 = 3000) := Lib.hid (by omega)
      obtain ⟨K2, ck2, HK, hK2⟩ := slc_h rk nk ((nk : Nat) : Int) (by omega) (by omega)
      obtain ⟨V2, cv2, HV, hV2⟩ := slc_h rv 3000 (3000 : Int) (by omega) (by omega)
      have HK2 := Lib.hid (hK2 _ _ rk)
      have HV2 := Lib.hid (hV2 _ _ rv)
      clear hK2 hV2
      go_cut [] (fun wx => Blk wx w.heap.size #[.int .i64 op, .bool qt, .bool fu, .int .i64 bd, .int .u32 (oq : Nat), .slice K2 nk ck2, .slice V2 3000 cv2, .int .u32 (fl : Nat), .int .u32 (ex : Nat), .int .u64 (cs : Nat), .int .u64 (dl : Nat), .int .u64 (ni : Nat)] 26 ∧ Blk wx (w.heap.size + 1) #[.int .i64 0, .bool false, .bool false, .int .i64 0, .int .u32 0, .slice none 0 0, .slice none 0 0, .int .u32 0, .int .u32 0, .int .u64 0, .int .u64 0, .int .u64 0] 26 ∧ Below w.heap.size w wx)
      case first =>
        obtain ⟨z0, z1, z2, z3, z4, z5, z6, z7, z8, z9, z10, z11⟩ := box12 k1
        have y5 := k1.frozen 5
        have y6 := k1.frozen 6
        have k1d : Blk W0.drew w.heap.size #[.int .i64 op, .bool qt, .bool fu, .int .i64 bd, .int .u32 (oq : Nat), .slice K nk ck, .slice V nv cv, .int .u32 (fl : Nat), .int .u32 (ex : Nat), .int .u64 (cs : Nat), .int .u64 (dl : Nat), .int .u64 (ni : Nat)] 26 := k1
        have k2d : Blk W0.drew (w.heap.size + 1) #[.int .i64 0, .bool false, .bool false, .int .i64 0, .int .u32 0, .slice none 0 0, .slice none 0 0, .int .u32 0, .int .u32 0, .int .u64 0, .int .u64 0, .int .u64 0] 26 := k2
        have bd : Below w.heap.size w W0.drew := b.drew
        go_region
        go_wp2_with fail
        go_meet
        have gs := grown_trans (rdr_grown_set W0.drew w.heap.size 5 (.slice K2 nk ck2)) (rdr_grown_set _ w.heap.size 6 (.slice V2 3000 cv2))
        exact ⟨(k1d.set_ 5 _).set_ 6 _, k2d.leftC gs (by omega), bd.trans (below_grown gs (Nat.le_refl _) k1d.lt)⟩
      case rest =>
        obtain ⟨k1, k2, b⟩ := hcut
        obtain ⟨q0, q1, q2, q3, q4, q5, q6, q7, q8, q9, q10, q11⟩ := box12 k1
        obtain ⟨z0, z1, z2, z3, z4, z5, z6, z7, z8, z9, z10, z11⟩ := box12 k2
        have y0 := k2.frozen 0
        have y1 := k2.frozen 1
        have y2 := k2.frozen 2
        have y3 := k2.frozen 3
        have y4 := k2.frozen 4
        have y5 := k2.frozen 5
        have y6 := k2.frozen 6
        have y7 := k2.frozen 7
        have y8 := k2.frozen 8
        have y9 := k2.frozen 9
        have y10 := k2.frozen 10
        have y11 := k2.frozen 11
        have kf := blk_set12 k2 (.int .i64 op) (.bool qt) (.bool fu) (.int .i64 bd) (.int .u32 (oq : Nat)) (.slice K2 nk ck2) (.slice V2 3000 cv2) (.int .u32 (fl : Nat)) (.int .u32 (ex : Nat)) (.int .u64 (cs : Nat)) (.int .u64 (dl : Nat)) (.int .u64 (ni : Nat))
        have hg := grown_set12 wc (w.heap.size + 1) (.int .i64 op) (.bool qt) (.bool fu) (.int .i64 bd) (.int .u32 (oq : Nat)) (.slice K2 nk ck2) (.slice V2 3000 cv2) (.int .u32 (fl : Nat)) (.int .u32 (ex : Nat)) (.int .u64 (cs : Nat)) (.int .u64 (dl : Nat)) (.int .u64 (ni : Nat))
        have bff := b.trans (below_grown hg (by omega) k2.lt)
        obtain ⟨t0, t1, t2, t3, t4, t5, t6, t7, t8, t9, t10, t11⟩ := box12 kf
        clear kf hg k1 k2 b
        go_wp2_with fail
        refine bodyPost_ret (v := .agg #[.int .i64 op, .bool qt, .bool fu, .int .i64 bd, .int .u32 (oq : Nat), .slice K2 nk ck2, .slice V2 3000 cv2, .int .u32 (fl : Nat), .int .u32 (ex : Nat), .int .u64 (cs : Nat), .int .u64 (dl : Nat), .int .u64 (ni : Nat)]) (by simp [results, Try.results40, go_sem, t0, t1, t2, t3, t4, t5, t6, t7, t8, t9, t10, t11]) rfl ?_
        refine ⟨K2, ck2, V2, cv2, by rw [EK.out, EV.out]; rfl, ?_, ?_, bff⟩
        · rw [EK.out]; exact (HK2.out.below bff)
        · rw [EV.out]; exact (HV2.out.below bff)
  · by_cases hv : nv ≤ 3000
    · have h9K : ((600 : Int) < (nk : Int)) = True := eq_true (by omega)
      have h9V : ((3000 : Int) < (nv : Int)) = False := eq_false (by omega)
      have EK : Hid (min nk 600 = 600) := Lib.hid (by omega)
      have EV : Hid (min nv 3000 = nv) := Lib.hid (by omega)
      obtain ⟨K2, ck2, HK, hK2⟩ := slc_h rk 600 (600 : Int) (by omega) (by omega)
      obtain ⟨V2, cv2, HV, hV2⟩ := slc_h rv nv ((nv : Nat) : Int) (by omega) (by omega)
      have HK2 := Lib.hid (hK2 _ _ rk)
      have HV2 := Lib.hid (hV2 _ _ rv)
      clear hK2 hV2
      go_cut [] (fun wx => Blk wx w.heap.size #[.int .i64 op, .bool qt, .bool fu, .int .i64 bd, .int .u32 (oq : Nat), .slice K2 600 ck2, .slice V2 nv cv2, .int .u32 (fl : Nat), .int .u32 (ex : Nat), .int .u64 (cs : Nat), .int .u64 (dl : Nat), .int .u64 (ni : Nat)] 26 ∧ Blk wx (w.heap.size + 1) #[.int .i64 0, .bool false, .bool false, .int .i64 0, .int .u32 0, .slice none 0 0, .slice none 0 0, .int .u32 0, .int .u32 0, .int .u64 0, .int .u64 0, .int .u64 0] 26 ∧ Below w.heap.size w wx)
      case first =>
        obtain ⟨z0, z1, z2, z3, z4, z5, z6, z7, z8, z9, z10, z11⟩ := box12 k1
        have y5 := k1.frozen 5
        have y6 := k1.frozen 6
        have k1d : Blk W0.drew w.heap.size #[.int .i64 op, .bool qt, .bool fu, .int .i64 bd, .int .u32 (oq : Nat), .slice K nk ck, .slice V nv cv, .int .u32 (fl : Nat), .int .u32 (ex : Nat), .int .u64 (cs : Nat), .int .u64 (dl : Nat), .int .u64 (ni : Nat)] 26 := k1
        have k2d : Blk W0.drew (w.heap.size + 1) #[.int .i64 0, .bool false, .bool false, .int .i64 0, .int .u32 0, .slice none 0 0, .slice none 0 0, .int .u32 0, .int .u32 0, .int .u64 0, .int .u64 0, .int .u64 0] 26 := k2
        have bd : Below w.heap.size w W0.drew := b.drew
        go_region
        go_wp2_with fail
        go_meet
        have gs := grown_trans (rdr_grown_set W0.drew w.heap.size 5 (.slice K2 600 ck2)) (rdr_grown_set _ w.heap.size 6 (.slice V2 nv cv2))
        exact ⟨(k1d.set_ 5 _).set_ 6 _, k2d.leftC gs (by omega), bd.trans (below_grown gs (Nat.le_refl _) k1d.lt)⟩
      case rest =>
        obtain ⟨k1, k2, b⟩ := hcut
        obtain ⟨q0, q1, q2, q3, q4, q5, q6, q7, q8, q9, q10, q11⟩ := box12 k1
        obtain ⟨z0, z1, z2, z3, z4, z5, z6, z7, z8, z9, z10, z11⟩ := box12 k2
        have y0 := k2.frozen 0
        have y1 := k2.frozen 1
        have y2 := k2.frozen 2
        have y3 := k2.frozen 3
        have y4 := k2.frozen 4
        have y5 := k2.frozen 5
        have y6 := k2.frozen 6
        have y7 := k2.frozen 7
        have y8 := k2.frozen 8
        have y9 := k2.frozen 9
        have y10 := k2.frozen 10
        have y11 := k2.frozen 11
        have kf := blk_set12 k2 (.int .i64 op) (.bool qt) (.bool fu) (.int .i64 bd) (.int .u32 (oq : Nat)) (.slice K2 600 ck2) (.slice V2 nv cv2) (.int .u32 (fl : Nat)) (.int .u32 (ex : Nat)) (.int .u64 (cs : Nat)) (.int .u64 (dl : Nat)) (.int .u64 (ni : Nat))
        have hg := grown_set12 wc (w.heap.size + 1) (.int .i64 op) (.bool qt) (.bool fu) (.int .i64 bd) (.int .u32 (oq : Nat)) (.slice K2 600 ck2) (.slice V2 nv cv2) (.int .u32 (fl : Nat)) (.int .u32 (ex : Nat)) (.int .u64 (cs : Nat)) (.int .u64 (dl : Nat)) (.int .u64 (ni : Nat))
        have bff := b.trans (below_grown hg (by omega) k2.lt)
        obtain ⟨t0, t1, t2, t3, t4, t5, t6, t7, t8, t9, t10, t11⟩ := box12 kf
        clear kf hg k1 k2 b
        go_wp2_with fail
        refine bodyPost_ret (v := .agg #[.int .i64 op, .bool qt, .bool fu, .int .i64 bd, .int .u32 (oq : Nat), .slice K2 600 ck2, .slice V2 nv cv2, .int .u32 (fl : Nat), .int .u32 (ex : Nat), .int .u64 (cs : Nat), .int .u64 (dl : Nat), .int .u64 (ni : Nat)]) (by simp [results, Try.results40, go_sem, t0, t1, t2, t3, t4, t5, t6, t7, t8, t9, t10, t11]) rfl ?_
        refine ⟨K2, ck2, V2, cv2, by rw [EK.out, EV.out]; rfl, ?_, ?_, bff⟩
        · rw [EK.out]; exact (HK2.out.below bff)
        · rw [EV.out]; exact (HV2.out.below bff)
    · have h9K : ((600 : Int) < (nk : Int)) = True := eq_true (by omega)
      have h9V : ((3000 : Int) < (nv : Int)) = True := eq_true (by omega)
      have EK : Hid (min nk 600 = 600) := Lib.hid (by omega)
      have EV : Hid (min nv 3000 = 3000) := Lib.hid (by omega)
      obtain ⟨K2, ck2, HK, hK2⟩ := slc_h rk 600 (600 : Int) (by omega) (by omega)
      obtain ⟨V2, cv2, HV, hV2⟩ := slc_h rv 3000 (3000 : Int) (by omega) (by omega)
      have HK2 := Lib.hid (hK2 _ _ rk)
      have HV2 := Lib.hid (hV2 _ _ rv)
      clear hK2 hV2
      go_cut [] (fun wx => Blk wx w.heap.size #[.int .i64 op, .bool qt, .bool fu, .int .i64 bd, .int .u32 (oq : Nat), .slice K2 600 ck2, .slice V2 3000 cv2, .int .u32 (fl : Nat), .int .u32 (ex : Nat), .int .u64 (cs : Nat), .int .u64 (dl : Nat), .int .u64 (ni : Nat)] 26 ∧ Blk wx (w.heap.size + 1) #[.int .i64 0, .bool false, .bool false, .int .i64 0, .int .u32 0, .slice none 0 0, .slice none 0 0, .int .u32 0, .int .u32 0, .int .u64 0, .int .u64 0, .int .u64 0] 26 ∧ Below w.heap.size w wx)
      case first =>
        obtain ⟨z0, z1, z2, z3, z4, z5, z6, z7, z8, z9, z10, z11⟩ := box12 k1
        have y5 := k1.frozen 5
        have y6 := k1.frozen 6
        have k1d : Blk W0.drew w.heap.size #[.int .i64 op, .bool qt, .bool fu, .int .i64 bd, .int .u32 (oq : Nat), .slice K nk ck, .slice V nv cv, .int .u32 (fl : Nat), .int .u32 (ex : Nat), .int .u64 (cs : Nat), .int .u64 (dl : Nat), .int .u64 (ni : Nat)] 26 := k1
        have k2d : Blk W0.drew (w.heap.size + 1) #[.int .i64 0, .bool false, .bool false, .int .i64 0, .int .u32 0, .slice none 0 0, .slice none 0 0, .int .u32 0, .int .u32 0, .int .u64 0, .int .u64 0, .int .u64 0] 26 := k2
        have bd : Below w.heap.size w W0.drew := b.drew
        go_region
        go_wp2_with fail
        go_meet
        have gs := grown_trans (rdr_grown_set W0.drew w.heap.size 5 (.slice K2 600 ck2)) (rdr_grown_set _ w.heap.size 6 (.slice V2 3000 cv2))
        exact ⟨(k1d.set_ 5 _).set_ 6 _, k2d.leftC gs (by omega), bd.trans (below_grown gs (Nat.le_refl _) k1d.lt)⟩
      case rest =>
        obtain ⟨k1, k2, b⟩ := hcut
        obtain ⟨q0, q1, q2, q3, q4, q5, q6, q7, q8, q9, q10, q11⟩ := box12 k1
        obtain ⟨z0, z1, z2, z3, z4, z5, z6, z7, z8, z9, z10, z11⟩ := box12 k2
        have y0 := k2.frozen 0
        have y1 := k2.frozen 1
        have y2 := k2.frozen 2
        have y3 := k2.frozen 3
        have y4 := k2.frozen 4
        have y5 := k2.frozen 5
        have y6 := k2.frozen 6
        have y7 := k2.frozen 7
        have y8 := k2.frozen 8
        have y9 := k2.frozen 9
        have y10 := k2.frozen 10
        have y11 := k2.frozen 11
        have kf := blk_set12 k2 (.int .i64 op) (.bool qt) (.bool fu) (.int .i64 bd) (.int .u32 (oq : Nat)) (.slice K2 600 ck2) (.slice V2 3000 cv2) (.int .u32 (fl : Nat)) (.int .u32 (ex : Nat)) (.int .u64 (cs : Nat)) (.int .u64 (dl : Nat)) (.int .u64 (ni : Nat))
        have hg := grown_set12 wc (w.heap.size + 1) (.int .i64 op) (.bool qt) (.bool fu) (.int .i64 bd) (.int .u32 (oq : Nat)) (.slice K2 600 ck2) (.slice V2 3000 cv2) (.int .u32 (fl : Nat)) (.int .u32 (ex : Nat)) (.int .u64 (cs : Nat)) (.int .u64 (dl : Nat)) (.int .u64 (ni : Nat))
        have bff := b.trans (below_grown hg (by omega) k2.lt)
        obtain ⟨t0, t1, t2, t3, t4, t5, t6, t7, t8, t9, t10, t11⟩ := box12 kf
        clear kf hg k1 k2 b
        go_wp2_with fail
        refine bodyPost_ret (v := .agg #[.int .i64 op, .bool qt, .bool fu, .int .i64 bd, .int .u32 (oq : Nat), .slice K2 600 ck2, .slice V2 3000 cv2, .int .u32 (fl : Nat), .int .u32 (ex : Nat), .int .u64 (cs : Nat), .int .u64 (dl : Nat), .int .u64 (ni : Nat)]) (by simp [results, Try.results40, go_sem, t0, t1, t2, t3, t4, t5, t6, t7, t8, t9, t10, t11]) rfl ?_
        refine ⟨K2, ck2, V2, cv2, by rw [EK.out, EV.out]; rfl, ?_, ?_, bff⟩
        · rw [EK.out]; exact (HK2.out.below bff)
        · rw [EV.out]; exact (HV2.out.below bff)
end Go.Proofs.Ytnghmgbmflcngaa

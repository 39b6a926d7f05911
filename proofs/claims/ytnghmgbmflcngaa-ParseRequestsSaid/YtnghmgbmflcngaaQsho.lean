/- icehouselaw20.short. Conditions: typed in each theorem. -/
import Derived.Test.YtnghmgbmflcngaaZfre
import Derived.Test.YtnghmgbmflcngaaZhld
import Derived.Test.YtnghmgbmflcngaaZcod
import Derived.Deep.DeepCutAuto
import Derived.BigRegion
namespace Go.Proofs.Ytnghmgbmflcngaa
set_option linter.unusedVariables false
open Go.RowKit

/-- What 'short' gives: the lists cut. -/
def ShortQ (B mg op kl el ty st bl oq cas nx nk nv : Nat) (lx lk lv : List UInt8) (w : World) (e : Ending) (w' : World) : Prop :=
  ∃ X2 cx2 K2 ck2 V2 cv2, e = .returned (frV mg op kl el ty st bl oq cas (.slice X2 (min nx 300) cx2) (.slice K2 (min nk 3000) ck2) (.slice V2 (min nv 3000) cv2)) ∧ Rd w' B X2 (min nx 300) cx2 (lx.take (min nx 300)) ∧ Rd w' B K2 (min nk 3000) ck2 (lk.take (min nk 3000)) ∧ Rd w' B V2 (min nv 3000) cv2 (lv.take (min nv 3000)) ∧ Below w.heap.size w w'
set_option maxRecDepth 100000 in
set_option maxHeartbeats 16000000 in
theorem short_any (mg op kl el ty st bl oq cas : Nat) (X K V : Option Addr) (nx cx nk ck nv cv : Nat) (lx lk lv : List UInt8) (w : World) (B : Nat) (hB : B ≤ w.heap.size) (rX : Rd w B X nx cx lx) (rK : Rd w B K nk ck lk) (rV : Rd w B V nv cv lv) (hnx : nx ≤ 9223372036854775807) (hnk : nk ≤ 9223372036854775807) (hnv : nv ≤ 9223372036854775807) :
    Calls Try.prog 52 #[frV mg op kl el ty st bl oq cas (.slice X nx cx) (.slice K nk ck) (.slice V nv cv)] w (ShortQ B mg op kl el ty st bl oq cas nx nk nv lx lk lv w) := by
  have k1 := (Blk.new w #[.int .u8 (mg : Nat), .int .u8 (op : Nat), .int .u16 (kl : Nat), .int .u8 (el : Nat), .int .u8 (ty : Nat), .int .u16 (st : Nat), .int .u32 (bl : Nat), .int .u32 (oq : Nat), .int .u64 (cas : Nat), .slice X nx cx, .slice K nk ck, .slice V nv cv] 61).alloc (.cells #[.int .u8 0, .int .u8 0, .int .u16 0, .int .u8 0, .int .u8 0, .int .u16 0, .int .u32 0, .int .u32 0, .int .u64 0, .slice none 0 0, .slice none 0 0, .slice none 0 0] 61)
  have k2 := Blk.new (w.alloc (.cells #[.int .u8 (mg : Nat), .int .u8 (op : Nat), .int .u16 (kl : Nat), .int .u8 (el : Nat), .int .u8 (ty : Nat), .int .u16 (st : Nat), .int .u32 (bl : Nat), .int .u32 (oq : Nat), .int .u64 (cas : Nat), .slice X nx cx, .slice K nk ck, .slice V nv cv] 61)) #[.int .u8 0, .int .u8 0, .int .u16 0, .int .u8 0, .int .u8 0, .int .u16 0, .int .u32 0, .int .u32 0, .int .u64 0, .slice none 0 0, .slice none 0 0, .slice none 0 0] 61
  rw [World.size_alloc] at k2
  have b : Below w.heap.size w ((w.alloc (.cells #[.int .u8 (mg : Nat), .int .u8 (op : Nat), .int .u16 (kl : Nat), .int .u8 (el : Nat), .int .u8 (ty : Nat), .int .u16 (st : Nat), .int .u32 (bl : Nat), .int .u32 (oq : Nat), .int .u64 (cas : Nat), .slice X nx cx, .slice K nk ck, .slice V nv cv] 61)).alloc (.cells #[.int .u8 0, .int .u8 0, .int .u16 0, .int .u8 0, .int .u8 0, .int .u16 0, .int .u32 0, .int .u32 0, .int .u64 0, .slice none 0 0, .slice none 0 0, .slice none 0 0] 61)) := below_a1' (below_a1' (Below.refl _ _) _) _
  unfold frV frC
  go_enter Try.func52, Try.ntmps52
  go_upto_region 1 with fail
  generalize (w.alloc (.cells #[.int .u8 (mg : Nat), .int .u8 (op : Nat), .int .u16 (kl : Nat), .int .u8 (el : Nat), .int .u8 (ty : Nat), .int .u16 (st : Nat), .int .u32 (bl : Nat), .int .u32 (oq : Nat), .int .u64 (cas : Nat), .slice X nx cx, .slice K nk ck, .slice V nv cv] 61)).alloc (.cells #[.int .u8 0, .int .u8 0, .int .u16 0, .int .u8 0, .int .u8 0, .int .u16 0, .int .u32 0, .int .u32 0, .int .u64 0, .slice none 0 0, .slice none 0 0, .slice none 0 0] 61) = W0 at k1 k2 b ⊢
  obtain ⟨mx, EX⟩ : ∃ m, m = min nx 300 := ⟨_, rfl⟩
  have IX : (if (300 : Int) < (nx : Int) then (300 : Int) else (nx : Int)) = (mx : Int) := by split <;> omega
  have hXn : mx ≤ nx := by omega
  have EX' := Lib.hid EX
  clear EX
  obtain ⟨X2, cx2, HX, hX2⟩ := slc_h rX mx (mx : Int) rfl hXn
  have HHX := Lib.hid (hX2 _ _ rX)
  clear hX2 hXn
  obtain ⟨mk, EK⟩ : ∃ m, m = min nk 3000 := ⟨_, rfl⟩
  have IK : (if (3000 : Int) < (nk : Int) then (3000 : Int) else (nk : Int)) = (mk : Int) := by split <;> omega
  have hKn : mk ≤ nk := by omega
  have EK' := Lib.hid EK
  clear EK
  obtain ⟨K2, ck2, HK, hK2⟩ := slc_h rK mk (mk : Int) rfl hKn
  have HHK := Lib.hid (hK2 _ _ rK)
  clear hK2 hKn
  obtain ⟨mv, EV⟩ : ∃ m, m = min nv 3000 := ⟨_, rfl⟩
  have IV : (if (3000 : Int) < (nv : Int) then (3000 : Int) else (nv : Int)) = (mv : Int) := by split <;> omega
  have hVn : mv ≤ nv := by omega
  have EV' := Lib.hid EV
  clear EV
  obtain ⟨V2, cv2, HV, hV2⟩ := slc_h rV mv (mv : Int) rfl hVn
  have HHV := Lib.hid (hV2 _ _ rV)
  clear hV2 hVn
  go_cut [] (fun wx => Blk wx w.heap.size #[.int .u8 (mg : Nat), .int .u8 (op : Nat), .int .u16 (kl : Nat), .int .u8 (el : Nat), .int .u8 (ty : Nat), .int .u16 (st : Nat), .int .u32 (bl : Nat), .int .u32 (oq : Nat), .int .u64 (cas : Nat), .slice X2 mx cx2, .slice K2 mk ck2, .slice V2 mv cv2] 61 ∧ Blk wx (w.heap.size + 1) #[.int .u8 0, .int .u8 0, .int .u16 0, .int .u8 0, .int .u8 0, .int .u16 0, .int .u32 0, .int .u32 0, .int .u64 0, .slice none 0 0, .slice none 0 0, .slice none 0 0] 61 ∧ Below w.heap.size w wx)
  case first =>
    obtain ⟨z0, z1, z2, z3, z4, z5, z6, z7, z8, z9, z10, z11⟩ := box12 k1
    have y9 := k1.frozen 9
    have y10 := k1.frozen 10
    have y11 := k1.frozen 11
    have k1d : Blk W0.drew w.heap.size #[.int .u8 (mg : Nat), .int .u8 (op : Nat), .int .u16 (kl : Nat), .int .u8 (el : Nat), .int .u8 (ty : Nat), .int .u16 (st : Nat), .int .u32 (bl : Nat), .int .u32 (oq : Nat), .int .u64 (cas : Nat), .slice X nx cx, .slice K nk ck, .slice V nv cv] 61 := k1
    have k2d : Blk W0.drew (w.heap.size + 1) #[.int .u8 0, .int .u8 0, .int .u16 0, .int .u8 0, .int .u8 0, .int .u16 0, .int .u32 0, .int .u32 0, .int .u64 0, .slice none 0 0, .slice none 0 0, .slice none 0 0] 61 := k2
    have bd : Below w.heap.size w W0.drew := b.drew
    go_region
    all_goals (first | go_meet | (go_wp2_with fail; go_meet))
    all_goals (have gs := grown_trans (grown_trans (rdr_grown_set W0.drew w.heap.size 9 (.slice X2 mx cx2)) (rdr_grown_set _ w.heap.size 10 (.slice K2 mk ck2))) (rdr_grown_set _ w.heap.size 11 (.slice V2 mv cv2)); exact ⟨((k1d.set_ 9 _).set_ 10 _).set_ 11 _, k2d.leftC gs (by omega), bd.trans (below_grown gs (Nat.le_refl _) k1d.lt)⟩)
  case rest =>
    obtain ⟨k1, k2, b⟩ := hcut
    obtain ⟨q0, q1, q2, q3, q4, q5, q6, q7, q8, q9, q10, q11⟩ := box12 k1
    obtain ⟨z0, z1, z2, z3, z4, z5, z6, z7, z8, z9, z10, z11⟩ := box12 k2
    have y0 := k2.frozen 0
    have y1 := k2.frozen 1
    have y2 := k2.frozen 2
    have y3 := k2.frozen 3
    have y4 := k2.frozen 4
    have y5 := k2.frozen 5
    have y6 := k2.frozen 6
    have y7 := k2.frozen 7
    have y8 := k2.frozen 8
    have y9 := k2.frozen 9
    have y10 := k2.frozen 10
    have y11 := k2.frozen 11
    have kf := blk_set12 k2 (.int .u8 (mg : Nat)) (.int .u8 (op : Nat)) (.int .u16 (kl : Nat)) (.int .u8 (el : Nat)) (.int .u8 (ty : Nat)) (.int .u16 (st : Nat)) (.int .u32 (bl : Nat)) (.int .u32 (oq : Nat)) (.int .u64 (cas : Nat)) (.slice X2 mx cx2) (.slice K2 mk ck2) (.slice V2 mv cv2)
    have hg := grown_set12 wc (w.heap.size + 1) (.int .u8 (mg : Nat)) (.int .u8 (op : Nat)) (.int .u16 (kl : Nat)) (.int .u8 (el : Nat)) (.int .u8 (ty : Nat)) (.int .u16 (st : Nat)) (.int .u32 (bl : Nat)) (.int .u32 (oq : Nat)) (.int .u64 (cas : Nat)) (.slice X2 mx cx2) (.slice K2 mk ck2) (.slice V2 mv cv2)
    have bff := b.trans (below_grown hg (by omega) k2.lt)
    obtain ⟨t0, t1, t2, t3, t4, t5, t6, t7, t8, t9, t10, t11⟩ := box12 kf
    clear kf hg k1 k2 b
    go_wp2_with fail
    refine bodyPost_ret (v := .agg #[.int .u8 (mg : Nat), .int .u8 (op : Nat), .int .u16 (kl : Nat), .int .u8 (el : Nat), .int .u8 (ty : Nat), .int .u16 (st : Nat), .int .u32 (bl : Nat), .int .u32 (oq : Nat), .int .u64 (cas : Nat), .slice X2 mx cx2, .slice K2 mk ck2, .slice V2 mv cv2]) (by simp [results, Try.results52, go_sem, t0, t1, t2, t3, t4, t5, t6, t7, t8, t9, t10, t11]) rfl ?_
    refine ⟨X2, cx2, K2, ck2, V2, cv2, by rw [← EX'.out, ← EK'.out, ← EV'.out]; rfl, ?_, ?_, ?_, bff⟩
    · rw [← EX'.out]; exact HHX.out.below (bff.mono hB)
    · rw [← EK'.out]; exact HHK.out.below (bff.mono hB)
    · rw [← EV'.out]; exact HHV.out.below (bff.mono hB)
end Go.Proofs.Ytnghmgbmflcngaa

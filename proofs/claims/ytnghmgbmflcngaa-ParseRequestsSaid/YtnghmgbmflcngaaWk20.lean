/- Package icehouselaw20's wakes answers true. Conditions: none. -/
import Derived.Test.YtnghmgbmflcngaaPfr
import Derived.Test.YtnghmgbmflcngaaZpar
import Derived.Test.YtnghmgbmflcngaaZfre
import Derived.Test.YtnghmgbmflcngaaStra
import Derived.Lib.SlBytesConst
namespace Go.Proofs.Ytnghmgbmflcngaa
set_option linter.unusedVariables false
open Go.RowKit

theorem rd_row {w : World} {g k : Nat} {cs : Array Value} {l : List UInt8} {p : Nat × Nat} (h : w.heap[g]? = some (.cells cs 5 p)) (hk : l.length = k) (hm : k ≤ maxLen) (hx : cs.toList = cbs l) : Rd w w.heap.size (some ⟨g, 0, none⟩) k k l := by
  have hlt := (Array.getElem?_eq_some_iff.1 h).1
  refine ⟨by rw [length_cbs]; exact hk, Nat.le_refl _, hm, (fun h => by cases h), fun ad hA _ => by injection hA with h; subst h; exact hlt, fun ad i u hA hu => ?_⟩
  injection hA with e
  subst e
  rw [← hx] at hu
  have ha : (⟨g, 0, none⟩ : Addr).add i = ⟨g, i, none⟩ := by
    unfold Addr.add
    by_cases hi : i = 0
    · subst hi; rfl
    · rw [if_neg hi]; simp
  rw [ha, cell_of_row w g i _ _ p h]
  simpa using hu
/-- The bytes of the frame that 'wakes' puts. -/
def wkB : List UInt8 := hdB 128 13 1 0 0 0 1 7 0 ++ [] ++ [97] ++ []
theorem wk_need : needE wkB = 0 ∧ needN wkB = 25 ∧ rightB (fld wkB 0 1) (fld wkB 5 1) = true := by decide +kernel
theorem wk_flds : fld wkB 0 1 = 128 ∧ fld wkB 1 1 = 13 ∧ fld wkB 2 2 = 1 ∧ fld wkB 4 1 = 0 ∧ fld wkB 5 1 = 0 ∧ fld wkB 6 2 = 0 ∧ fld wkB 8 4 = 1 ∧ fld wkB 12 4 = 7 ∧ fld wkB 16 8 = 0 := by decide +kernel
theorem wk_lists : fxB wkB = [] ∧ fkB wkB = [97] ∧ fvB wkB = [] := by decide +kernel
theorem wk_request (W : World) (X K V : Option Addr) (cx ck cv : Nat) (rX : Rd W W.heap.size X 0 cx []) (rK : Rd W W.heap.size K 1 ck [97]) (rV : Rd W W.heap.size V 0 cv []) :
    Calls Try.prog 90 #[frV 128 13 1 0 0 0 1 7 0 (.slice X 0 cx) (.slice K 1 ck) (.slice V 0 cv)] W (ReqQ 0 true true 0 7 [97] [] 0 0 0 0 0 W) :=
  preq_good 128 13 1 0 0 0 1 7 0 X K V 0 cx 1 ck 0 cv [] [97] [] W rX rK rV (by decide) 0 true true (by decide +kernel) 0 true false (by decide +kernel) false (by decide) (Or.inl rfl) (by decide) (by decide) (by decide) (by decide) (Or.inl rfl)
theorem wk_frame (K V : Option Addr) (ck cv : Nat) (w : World) (rK : Rd w w.heap.size K 1 ck [97]) (rV : Rd w w.heap.size V 0 cv []) :
    Calls Try.prog 42 #[reqV 0 true true 0 7 (.slice K 1 ck) (.slice V 0 cv) 0 0 0 0 0] w (FrameOk 13 7 0 1 1 0 [] [97] [] w) := by
  exact pframe_yes 0 true true 7 0 0 0 0 0 K V 1 ck 0 cv [97] [] w rK rV (by decide) (by decide) (by decide) (by decide) (by decide) 13 (by decide) (by decide +kernel) 0 true false (by decide +kernel) [] (by decide +kernel) 0 rfl 1 rfl (by unfold tooLong; omega) (by decide)
    0 true true 0 7 [97] [] 0 0 0 0 0 (fun W X K V cx ck cv h1 h2 h3 => wk_request W X K V cx ck cv h1 h2 h3) (by decide +kernel)
theorem wk_next (g c : Nat) (A : Option Addr) (w : World) (h : PrsA w g A 25 c wkB false) :
    Calls Try.prog 49 #[.pointer (some ⟨g, 0, none⟩)] w (NextOk g 25 25 A wkB 0 true true 0 7 [97] [] 0 0 0 0 0 w) := by
  have h2 := next_ok g 25 c A wkB w h wk_need.1 wk_need.2.2 (by rw [wk_need.2.1]; exact Nat.le_refl _) 0 true true 0 7 [97] [] 0 0 0 0 0 (by
    obtain ⟨f0, f1, f2, f3, f4, f5, f6, f7, f8⟩ := wk_flds
    obtain ⟨l0, l1, l2⟩ := wk_lists
    rw [f0, f1, f2, f3, f4, f5, f6, f7, f8, l0, l1, l2]
    exact wk_request)
  rw [wk_need.2.1] at h2
  exact h2
/-- What the calls give, written out. -/
def WkF (w : World) (e : Ending) (w' : World) : Prop := ∃ (X2 K2 V2 : Option Addr) (cx2 ck2 cv2 : Nat), e = .returned (.tuple #[.agg #[.int .u8 128, .int .u8 13, .int .u16 1, .int .u8 0, .int .u8 0, .int .u16 0, .int .u32 1, .int .u32 7, .int .u64 0, .slice X2 0 cx2, .slice K2 1 ck2, .slice V2 0 cv2], .int .i64 0]) ∧ Rd w' w'.heap.size X2 0 cx2 [] ∧ Rd w' w'.heap.size K2 1 ck2 [97] ∧ Rd w' w'.heap.size V2 0 cv2 [] ∧ Below w.heap.size w w'
def WkN (g : Nat) (w : World) (e : Ending) (w' : World) : Prop := ∃ (K2 V2 : Option Addr) (ck2 cv2 : Nat) (X3 : Option Addr) (cx3 : Nat), e = .returned (.tuple #[.agg #[.int .i64 0, .bool true, .bool true, .int .i64 0, .int .u32 7, .slice K2 1 ck2, .slice V2 0 cv2, .int .u32 0, .int .u32 0, .int .u64 0, .int .u64 0, .int .u64 0], .bool true, .int .i64 0]) ∧ PrsA w' g X3 0 cx3 [] false ∧ Rd w' w'.heap.size K2 1 ck2 [97] ∧ w.grownBy w' (some g)
set_option maxRecDepth 100000 in
set_option maxHeartbeats 4000000 in
theorem wakes20 (w : World) : Calls Try.prog 33 #[] w fun e w' => e = .returned (.bool true) ∧ Below w.heap.size w w' := by
  have b := below_a1' (Below.refl w.heap.size w) (.cells #[.int .u8 97] 5 (1, 2))
  have rK := rd_row (l := [97]) (heap_alloc_new w (.cells #[.int .u8 97] 5 (1, 2))) rfl (by simp [maxLen]) rfl
  have HF : Hid (∀ W K V ck cv, Rd W W.heap.size K 1 ck [97] → Rd W W.heap.size V 0 cv [] → Calls Try.prog 42 #[.agg #[.int .i64 0, .bool true, .bool true, .int .i64 0, .int .u32 7, .slice K 1 ck, .slice V 0 cv, .int .u32 0, .int .u32 0, .int .u64 0, .int .u64 0, .int .u64 0]] W (WkF W)) := Lib.hid (fun W K V ck cv h1 h2 => (wk_frame K V ck cv W h1 h2).mono fun e w' h => by
    obtain ⟨X, K, V, nx, cx, ck, cv, he, rfl, oX, oK, oV, bb⟩ := h
    exact ⟨X, K, V, cx, ck, cv, he, oX.rd, oK.rd, oV.rd, bb⟩)
  have HN : Hid (∀ W g c A, PrsA W g A 25 c wkB false → Calls Try.prog 49 #[.pointer (some ⟨g, 0, none⟩)] W (WkN g W)) := Lib.hid (fun W g c A h => (wk_next g c A W h).mono fun e w' h => by
    obtain ⟨K2, V2, nk2, ck2, nv2, cv2, X3, cx3, he, hp, oK, oV, gg, _⟩ := h
    have e1 := oK.len
    have e2 := oV.len
    subst e1 e2
    exact ⟨K2, V2, ck2, cv2, X3, cx3, he, hp, oK.rd, gg⟩)
  have HB : Hid (∀ W X2 K2 V2 cx2 ck2 cv2, Rd W W.heap.size X2 0 cx2 [] → Rd W W.heap.size K2 1 ck2 [97] → Rd W W.heap.size V2 0 cv2 [] → Calls Try.prog 83 #[.agg #[.int .u8 128, .int .u8 13, .int .u16 1, .int .u8 0, .int .u8 0, .int .u16 0, .int .u32 1, .int .u32 7, .int .u64 0, .slice X2 0 cx2, .slice K2 1 ck2, .slice V2 0 cv2]] W (BytesQ 25 wkB W)) := Lib.hid (fun W X2 K2 V2 cx2 ck2 cv2 h1 h2 h3 => rbytes19 128 13 1 0 0 0 1 7 0 (by unfold HdF; decide) X2 K2 V2 0 cx2 1 ck2 0 cv2 (by decide) [] [97] [] W h1 h2 h3)
  have hcv := fun (w : World) (C : Array Value) (n c : Nat) => Lib.run_convert_bytes_const (P := Try.prog) w 23 5 C n c Try.underlying23 Try.underlying5
  go_enter Try.func33, Try.ntmps33
  go_wp2_with fail
  refine (HF.out _ _ _ _ _ rK (Rd.nil _ _)).mono ?_
  rintro e w1 ⟨X2, K2, V2, cx2, ck2, cv2, rfl, rX, rK2, rV, b1⟩
  replace b := below_step b b1
  clear b1 rK hcv
  go_upto_region 2 with fail
  have k1 := Blk.new w1 #[.int .u8 128, .int .u8 13, .int .u16 1, .int .u8 0, .int .u8 0, .int .u16 0, .int .u32 1, .int .u32 7, .int .u64 0, .slice X2 0 cx2, .slice K2 1 ck2, .slice V2 0 cv2] 61
  have b1 := below_a1' (Below.refl w1.heap.size w1) (.cells #[.int .u8 128, .int .u8 13, .int .u16 1, .int .u8 0, .int .u8 0, .int .u16 0, .int .u32 1, .int .u32 7, .int .u64 0, .slice X2 0 cx2, .slice K2 1 ck2, .slice V2 0 cv2] 61)
  have hws := b.size
  replace b := below_step b b1
  replace rX := rX.step b1
  replace rK2 := rK2.step b1
  replace rV := rV.step b1
  clear b1
  generalize w1.alloc (.cells #[.int .u8 128, .int .u8 13, .int .u16 1, .int .u8 0, .int .u8 0, .int .u16 0, .int .u32 1, .int .u32 7, .int .u64 0, .slice X2 0 cx2, .slice K2 1 ck2, .slice V2 0 cv2] 61) = W1 at b k1 rX rK2 rV ⊢
  generalize w1.heap.size = g1 at k1 hws ⊢
  go_wp2_with fail
  have hl1 := k1.lt
  refine (new_any W1).mono ?_
  rintro e w2 ⟨rfl, hp, b1⟩
  replace b := below_step b b1
  replace k1 := k1.step b1
  replace rX := rX.step b1
  replace rK2 := rK2.step b1
  replace rV := rV.step b1
  clear b1
  generalize W1.heap.size = g at hp hl1 ⊢
  obtain ⟨p0, p1, p2, p3, p4, p5, p6, p7, p8, p9, p10, p11⟩ := box12 k1
  go_wp2_with fail
  refine (HB.out w2 X2 K2 V2 cx2 ck2 cv2 rX rK2 rV).mono ?_
  rintro e w3 ⟨A3, c3, rfl, o3, b1⟩
  replace b := below_step b b1
  replace hp := hp.step b1
  clear b1 p0 p1 p2 p3 p4 p5 p6 p7 p8 p9 p10 p11 k1 rX rK2 rV
  have hlp := hp.lt
  go_wp2_with fail
  refine (feed_ok g 0 0 none [] A3 25 c3 wkB w3 hp o3.rd (by omega)).mono ?_
  rintro e w4 ⟨A4, c4, rfl, hp4, tk, -⟩
  replace b := b.trans ((tk.below (Nat.le_refl g) (fun k h => by cases h) (by omega)).mono (by omega))
  clear hp tk o3
  replace hp4 : PrsA w4 g A4 25 c4 wkB false := hp4
  go_wp2_with fail
  refine (HN.out w4 g c4 A4 hp4).mono ?_
  rintro e w5 ⟨K5, V5, ck5, cv5, X5, cx5, rfl, hp5, rK5, gg⟩
  replace b := b.trans (below_grown gg (by omega) hp4.lt)
  clear hp4 gg
  go_upto_region 6 with fail
  have k4 := Blk.new w5 #[.int .i64 0, .bool true, .bool true, .int .i64 0, .int .u32 7, .slice K5 1 ck5, .slice V5 0 cv5, .int .u32 0, .int .u32 0, .int .u64 0, .int .u64 0, .int .u64 0] 26
  have b1 := below_a1' (Below.refl w5.heap.size w5) (.cells #[.int .i64 0, .bool true, .bool true, .int .i64 0, .int .u32 7, .slice K5 1 ck5, .slice V5 0 cv5, .int .u32 0, .int .u32 0, .int .u64 0, .int .u64 0, .int .u64 0] 26)
  replace b := below_step b b1
  replace hp5 := hp5.step b1
  replace rK5 := rK5.step b1
  clear b1
  generalize w5.alloc (.cells #[.int .i64 0, .bool true, .bool true, .int .i64 0, .int .u32 7, .slice K5 1 ck5, .slice V5 0 cv5, .int .u32 0, .int .u32 0, .int .u64 0, .int .u64 0, .int .u64 0] 26) = W5 at b k4 hp5 rK5 ⊢
  obtain ⟨p0, p1, p2, p3, p4, p5, p6, p7, p8, p9, p10, p11⟩ := box12 k4
  have c1 : (convert 23 9 (.slice K5 1 ck5)).run Try.prog W5 = .ok (.string ⟨#[97]⟩) W5 := run_strA rK5
  go_wp2_with fail
  refine (held_any g 0 cx5 X5 [] false W5 hp5).mono ?_
  rintro e w6 ⟨rfl, rfl⟩
  go_wp2_with fail
  go_ret
  exact ⟨rfl, b⟩
end Go.Proofs.Ytnghmgbmflcngaa

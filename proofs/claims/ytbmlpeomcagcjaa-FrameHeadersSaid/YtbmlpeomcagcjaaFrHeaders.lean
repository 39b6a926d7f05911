/- FrameHeaders: whatever header is told in bytes, and whatever bytes are read as one. Conditions: none. -/
import Derived.Test.YtbmlpeomcagcjaaFri
import Derived.Test.YtbmlpeomcagcjaaFrPuts
namespace Go.Proofs.Ytbmlpeomcagcjaa
set_option linter.unusedVariables false
open Go.ChangeShapes Go.WideShapes Go.ChangeAt Go.RowKit

set_option maxRecDepth 20000 in
set_option maxHeartbeats 4000000 in
theorem headers_short (mg op kl el ty st bl oq cas : Nat) (hf : HdF mg op kl el ty st bl oq cas) (A : Option Addr) (n c : Nat) (l : List UInt8) (w : World) (r : Rd w w.heap.size A n c l) (hc : c ≤ 140737488351232) (hn : n < 24) :
    Calls Try.prog 9 #[hdV mg op kl el ty st bl oq cas, .slice A n c] w (PutsQ w) := by
  have k0 : Blk _ _ (hdC mg op kl el ty st bl oq cas) _ := Blk.new w _ 26
  have b : Below w.heap.size w (w.alloc (.cells (hdC mg op kl el ty st bl oq cas) 26)) := below_a1' (Below.refl _ _) _
  have hP := fun W => putHeader_any mg op kl el ty st bl oq cas hf W
  have hH := fun W => header19_any mg op kl el ty st bl oq cas hf W
  generalize hdB mg op kl el ty st bl oq cas = L at hP hH
  unfold hdV at hP hH
  have HP := Lib.hid hP
  have HH := Lib.hid hH
  have hcap := r.cap
  clear hP hH hf
  unfold hdV
  unfold hdC at *
  go_enter Try.func9, Try.ntmps9
  go_wp2_with fail
  refine (wakes19 _).mono ?_
  rintro e w1 ⟨rfl, b1⟩
  replace k0 := k0.step b1
  replace b := below_step b b1
  obtain ⟨q0, q1, q2, q3, q4, q5, q6, q7, q8⟩ := box9 k0
  go_wp2_with fail
  go_region_held3 (fun w' => w'.cell? ⟨w.heap.size, 0, none⟩ = some (.int .u8 mg) ∧ w'.cell? ⟨w.heap.size, 1, none⟩ = some (.int .u8 op) ∧ w'.cell? ⟨w.heap.size, 2, none⟩ = some (.int .u16 kl) ∧ w'.cell? ⟨w.heap.size, 3, none⟩ = some (.int .u8 el) ∧ w'.cell? ⟨w.heap.size, 4, none⟩ = some (.int .u8 ty) ∧ w'.cell? ⟨w.heap.size, 5, none⟩ = some (.int .u16 st) ∧ w'.cell? ⟨w.heap.size, 6, none⟩ = some (.int .u32 bl) ∧ w'.cell? ⟨w.heap.size, 7, none⟩ = some (.int .u32 oq) ∧ w'.cell? ⟨w.heap.size, 8, none⟩ = some (.int .u64 cas)) (first | (with_reducible exact ⟨q0, q1, q2, q3, q4, q5, q6, q7, q8⟩) | go_keep)
    (first
      | (go_at_call 34
         refine (HP.out _).mono ?_
         rintro e w2 ⟨A2, c2, rfl, o2, b2⟩
         replace k0 : Blk w2 w.heap.size _ _ := Blk.step (w := w1.drew) k0 b2
         replace b := below_step (w1 := w1.drew) b.drew b2
         clear q0 q1 q2 q3 q4 q5 q6 q7 q8
         obtain ⟨q0, q1, q2, q3, q4, q5, q6, q7, q8⟩ := box9 k0)
      | (go_at_call 35
         refine (HH.out _).mono ?_
         rintro e w3 ⟨A3, c3, rfl, o3, b3⟩
         replace k0 := k0.step b3
         replace b := below_step b b3
         have o2' := o2.step b3
         clear q0 q1 q2 q3 q4 q5 q6 q7 q8
         obtain ⟨q0, q1, q2, q3, q4, q5, q6, q7, q8⟩ := box9 k0)
      | (go_at_call 18
         refine (same_any A2 A3 24 c2 24 c3 w3.heap.size L L _ o2'.rd o3.rd).mono ?_
         rintro e w4 ⟨rfl, hq⟩
         rw [eqB_rfl]
         have bq := quiet_self hq
         replace k0 := k0.step bq
         replace b := below_step b bq
         clear hq bq q0 q1 q2 q3 q4 q5 q6 q7 q8
         obtain ⟨q0, q1, q2, q3, q4, q5, q6, q7, q8⟩ := box9 k0)
      | fail)
  clear q0 q1 q2 q3 q4 q5 q6 q7 q8 k0
  go_wp2_with (at_builtin; refine wpList_app8 _ rfl _ _ rfl w4.heap.size (some ⟨w4.heap.size, 0, none⟩) 0 0 [] rfl (Own.empty w4 _ (Nat.le_refl _)) w.heap.size A n c l rfl ((r.below b).alloc b.size _) (by omega) (by simp) ?_)
  intro A5 c5 w5 o5 b5
  have b5' : Below w4.heap.size w4 w5 := ((Below.refl _ _).alloc (Nat.le_refl _) _).trans b5
  replace b := below_step b b5'
  clear b5 b5'
  go_wp2_with fail
  refine (gh_short A5 n c5 hn _).mono ?_
  rintro e w6 ⟨rfl, b6⟩
  replace b := below_step b b6
  unfold zeroHd
  go_wp2_with fail
  go_ret
  exact ⟨rfl, below_a1' b _⟩
set_option maxRecDepth 20000 in
set_option maxHeartbeats 4000000 in
theorem headers_bad (mg op kl el ty st bl oq cas : Nat) (hf : HdF mg op kl el ty st bl oq cas) (A : Option Addr) (n c : Nat) (l : List UInt8) (w : World) (r : Rd w w.heap.size A n c l) (hc : c ≤ 140737488351232) (hn : 24 ≤ n) (hm : mayB (fld l 0 1) (fld l 2 2) (fld l 4 1) (fld l 8 4) = false) :
    Calls Try.prog 9 #[hdV mg op kl el ty st bl oq cas, .slice A n c] w (PutsQ w) := by
  have k0 : Blk _ _ (hdC mg op kl el ty st bl oq cas) _ := Blk.new w _ 26
  have b : Below w.heap.size w (w.alloc (.cells (hdC mg op kl el ty st bl oq cas) 26)) := below_a1' (Below.refl _ _) _
  have hP := fun W => putHeader_any mg op kl el ty st bl oq cas hf W
  have hH := fun W => header19_any mg op kl el ty st bl oq cas hf W
  generalize hdB mg op kl el ty st bl oq cas = L at hP hH
  unfold hdV at hP hH
  have HP := Lib.hid hP
  have HH := Lib.hid hH
  have hcap := r.cap
  clear hP hH hf
  have hR := fun W => right19_any (fld l 0 1) (fld l 1 1) (fld l 2 2) (fld l 4 1) (fld l 5 1) (fld l 6 2) (fld l 8 4) (fld l 12 4) (fld l 16 8) (hdF_of l) W
  rw [hm] at hR
  have HR := Lib.hid hR
  have HM := Lib.hid hm
  clear hR hm
  unfold hdV
  unfold hdC at *
  go_enter Try.func9, Try.ntmps9
  go_wp2_with fail
  refine (wakes19 _).mono ?_
  rintro e w1 ⟨rfl, b1⟩
  replace k0 := k0.step b1
  replace b := below_step b b1
  obtain ⟨q0, q1, q2, q3, q4, q5, q6, q7, q8⟩ := box9 k0
  go_wp2_with fail
  go_region_held3 (fun w' => w'.cell? ⟨w.heap.size, 0, none⟩ = some (.int .u8 mg) ∧ w'.cell? ⟨w.heap.size, 1, none⟩ = some (.int .u8 op) ∧ w'.cell? ⟨w.heap.size, 2, none⟩ = some (.int .u16 kl) ∧ w'.cell? ⟨w.heap.size, 3, none⟩ = some (.int .u8 el) ∧ w'.cell? ⟨w.heap.size, 4, none⟩ = some (.int .u8 ty) ∧ w'.cell? ⟨w.heap.size, 5, none⟩ = some (.int .u16 st) ∧ w'.cell? ⟨w.heap.size, 6, none⟩ = some (.int .u32 bl) ∧ w'.cell? ⟨w.heap.size, 7, none⟩ = some (.int .u32 oq) ∧ w'.cell? ⟨w.heap.size, 8, none⟩ = some (.int .u64 cas)) (first | (with_reducible exact ⟨q0, q1, q2, q3, q4, q5, q6, q7, q8⟩) | go_keep)
    (first
      | (go_at_call 34
         refine (HP.out _).mono ?_
         rintro e w2 ⟨A2, c2, rfl, o2, b2⟩
         replace k0 : Blk w2 w.heap.size _ _ := Blk.step (w := w1.drew) k0 b2
         replace b := below_step (w1 := w1.drew) b.drew b2
         clear q0 q1 q2 q3 q4 q5 q6 q7 q8
         obtain ⟨q0, q1, q2, q3, q4, q5, q6, q7, q8⟩ := box9 k0)
      | (go_at_call 35
         refine (HH.out _).mono ?_
         rintro e w3 ⟨A3, c3, rfl, o3, b3⟩
         replace k0 := k0.step b3
         replace b := below_step b b3
         have o2' := o2.step b3
         clear q0 q1 q2 q3 q4 q5 q6 q7 q8
         obtain ⟨q0, q1, q2, q3, q4, q5, q6, q7, q8⟩ := box9 k0)
      | (go_at_call 18
         refine (same_any A2 A3 24 c2 24 c3 w3.heap.size L L _ o2'.rd o3.rd).mono ?_
         rintro e w4 ⟨rfl, hq⟩
         rw [eqB_rfl]
         have bq := quiet_self hq
         replace k0 := k0.step bq
         replace b := below_step b bq
         clear hq bq q0 q1 q2 q3 q4 q5 q6 q7 q8
         obtain ⟨q0, q1, q2, q3, q4, q5, q6, q7, q8⟩ := box9 k0)
      | fail)
  clear q0 q1 q2 q3 q4 q5 q6 q7 q8 k0
  go_wp2_with (at_builtin; refine wpList_app8 _ rfl _ _ rfl w4.heap.size (some ⟨w4.heap.size, 0, none⟩) 0 0 [] rfl (Own.empty w4 _ (Nat.le_refl _)) w.heap.size A n c l rfl ((r.below b).alloc b.size _) (by omega) (by simp) ?_)
  intro A5 c5 w5 o5 b5
  have b5' : Below w4.heap.size w4 w5 := ((Below.refl _ _).alloc (Nat.le_refl _) _).trans b5
  replace b := below_step b b5'
  clear b5 b5'
  go_wp2_with fail
  refine (gh_bad A5 n c5 l _ o5.rd hn HM.out).mono ?_
  rintro e w6 ⟨rfl, b6⟩
  replace b := below_step b b6
  unfold zeroHd
  have kx := Blk.new w6 #[.int .u8 0, .int .u8 0, .int .u16 0, .int .u8 0, .int .u8 0, .int .u16 0, .int .u32 0, .int .u32 0, .int .u64 0] 26
  have rx := (r.below (below_a1' b (.cells #[.int .u8 0, .int .u8 0, .int .u16 0, .int .u8 0, .int .u8 0, .int .u16 0, .int .u32 0, .int .u32 0, .int .u64 0] 26))).more (below_a1' b (.cells #[.int .u8 0, .int .u8 0, .int .u16 0, .int .u8 0, .int .u8 0, .int .u16 0, .int .u32 0, .int .u32 0, .int .u64 0] 26)).size
  go_wp2_with fail
  refine (read19_any A n c l _ rx hn).mono ?_
  rintro e w7 ⟨rfl, b7⟩
  replace kx := kx.step b7
  replace b := below_step (below_a1' b _) b7
  go_wp2_with fail
  refine (HR.out _).mono ?_
  rintro e w8 ⟨rfl, b8⟩
  replace kx := kx.step b8
  replace b := below_step b b8
  obtain ⟨q0, q1, q2, q3, q4, q5, q6, q7, q8⟩ := box9 kx
  go_wp2_with fail
  go_ret
  exact ⟨rfl, b⟩
set_option maxRecDepth 20000 in
set_option maxHeartbeats 4000000 in
theorem headers_ok (mg op kl el ty st bl oq cas : Nat) (hf : HdF mg op kl el ty st bl oq cas) (A : Option Addr) (n c : Nat) (l : List UInt8) (w : World) (r : Rd w w.heap.size A n c l) (hc : c ≤ 140737488351232) (hn : 24 ≤ n) (hm : mayB (fld l 0 1) (fld l 2 2) (fld l 4 1) (fld l 8 4) = true) :
    Calls Try.prog 9 #[hdV mg op kl el ty st bl oq cas, .slice A n c] w (PutsQ w) := by
  have k0 : Blk _ _ (hdC mg op kl el ty st bl oq cas) _ := Blk.new w _ 26
  have b : Below w.heap.size w (w.alloc (.cells (hdC mg op kl el ty st bl oq cas) 26)) := below_a1' (Below.refl _ _) _
  have hP := fun W => putHeader_any mg op kl el ty st bl oq cas hf W
  have hH := fun W => header19_any mg op kl el ty st bl oq cas hf W
  generalize hdB mg op kl el ty st bl oq cas = L at hP hH
  unfold hdV at hP hH
  have HP := Lib.hid hP
  have HH := Lib.hid hH
  have hcap := r.cap
  clear hP hH hf
  have hR := fun W => right19_any (fld l 0 1) (fld l 1 1) (fld l 2 2) (fld l 4 1) (fld l 5 1) (fld l 6 2) (fld l 8 4) (fld l 12 4) (fld l 16 8) (hdF_of l) W
  rw [hm] at hR
  have hG := fun (A5 : Option Addr) (c5 : Nat) (W : World) (r : Rd W W.heap.size A5 n c5 l) => gh_ok A5 n c5 l W r hn hm
  have hRD := fun (W : World) (r : Rd W W.heap.size A n c l) => read19_any A n c l W r hn
  clear hm
  generalize fld l 0 1 = a0 at hR hG hRD
  generalize fld l 1 1 = a1 at hR hG hRD
  generalize fld l 2 2 = a2 at hR hG hRD
  generalize fld l 4 1 = a3 at hR hG hRD
  generalize fld l 5 1 = a4 at hR hG hRD
  generalize fld l 6 2 = a5 at hR hG hRD
  generalize fld l 8 4 = a6 at hR hG hRD
  generalize fld l 12 4 = a7 at hR hG hRD
  generalize fld l 16 8 = a8 at hR hG hRD
  unfold hdV at hR
  have HR := Lib.hid hR
  have HG := Lib.hid hG
  have HRD := Lib.hid hRD
  clear hR hG hRD
  unfold hdV
  unfold hdC at *
  go_enter Try.func9, Try.ntmps9
  go_wp2_with fail
  refine (wakes19 _).mono ?_
  rintro e w1 ⟨rfl, b1⟩
  replace k0 := k0.step b1
  replace b := below_step b b1
  obtain ⟨q0, q1, q2, q3, q4, q5, q6, q7, q8⟩ := box9 k0
  go_wp2_with fail
  go_region_held3 (fun w' => w'.cell? ⟨w.heap.size, 0, none⟩ = some (.int .u8 mg) ∧ w'.cell? ⟨w.heap.size, 1, none⟩ = some (.int .u8 op) ∧ w'.cell? ⟨w.heap.size, 2, none⟩ = some (.int .u16 kl) ∧ w'.cell? ⟨w.heap.size, 3, none⟩ = some (.int .u8 el) ∧ w'.cell? ⟨w.heap.size, 4, none⟩ = some (.int .u8 ty) ∧ w'.cell? ⟨w.heap.size, 5, none⟩ = some (.int .u16 st) ∧ w'.cell? ⟨w.heap.size, 6, none⟩ = some (.int .u32 bl) ∧ w'.cell? ⟨w.heap.size, 7, none⟩ = some (.int .u32 oq) ∧ w'.cell? ⟨w.heap.size, 8, none⟩ = some (.int .u64 cas)) (first | (with_reducible exact ⟨q0, q1, q2, q3, q4, q5, q6, q7, q8⟩) | go_keep)
    (first
      | (go_at_call 34
         refine (HP.out _).mono ?_
         rintro e w2 ⟨A2, c2, rfl, o2, b2⟩
         replace k0 : Blk w2 w.heap.size _ _ := Blk.step (w := w1.drew) k0 b2
         replace b := below_step (w1 := w1.drew) b.drew b2
         clear q0 q1 q2 q3 q4 q5 q6 q7 q8
         obtain ⟨q0, q1, q2, q3, q4, q5, q6, q7, q8⟩ := box9 k0)
      | (go_at_call 35
         refine (HH.out _).mono ?_
         rintro e w3 ⟨A3, c3, rfl, o3, b3⟩
         replace k0 := k0.step b3
         replace b := below_step b b3
         have o2' := o2.step b3
         clear q0 q1 q2 q3 q4 q5 q6 q7 q8
         obtain ⟨q0, q1, q2, q3, q4, q5, q6, q7, q8⟩ := box9 k0)
      | (go_at_call 18
         refine (same_any A2 A3 24 c2 24 c3 w3.heap.size L L _ o2'.rd o3.rd).mono ?_
         rintro e w4 ⟨rfl, hq⟩
         rw [eqB_rfl]
         have bq := quiet_self hq
         replace k0 := k0.step bq
         replace b := below_step b bq
         clear hq bq q0 q1 q2 q3 q4 q5 q6 q7 q8
         obtain ⟨q0, q1, q2, q3, q4, q5, q6, q7, q8⟩ := box9 k0)
      | fail)
  clear q0 q1 q2 q3 q4 q5 q6 q7 q8 k0
  go_wp2_with (at_builtin; refine wpList_app8 _ rfl _ _ rfl w4.heap.size (some ⟨w4.heap.size, 0, none⟩) 0 0 [] rfl (Own.empty w4 _ (Nat.le_refl _)) w.heap.size A n c l rfl ((r.below b).alloc b.size _) (by omega) (by simp) ?_)
  intro A5 c5 w5 o5 b5
  have b5' : Below w4.heap.size w4 w5 := ((Below.refl _ _).alloc (Nat.le_refl _) _).trans b5
  replace b := below_step b b5'
  clear b5 b5'
  go_wp2_with fail
  refine (HG.out A5 c5 _ o5.rd).mono ?_
  rintro e w6 ⟨rfl, b6⟩
  replace b := below_step b b6
  unfold hdV
  have kx := Blk.new w6 #[.int .u8 (a0 : Nat), .int .u8 (a1 : Nat), .int .u16 (a2 : Nat), .int .u8 (a3 : Nat), .int .u8 (a4 : Nat), .int .u16 (a5 : Nat), .int .u32 (a6 : Nat), .int .u32 (a7 : Nat), .int .u64 (a8 : Nat)] 26
  have rx := (r.below (below_a1' b (.cells #[.int .u8 (a0 : Nat), .int .u8 (a1 : Nat), .int .u16 (a2 : Nat), .int .u8 (a3 : Nat), .int .u8 (a4 : Nat), .int .u16 (a5 : Nat), .int .u32 (a6 : Nat), .int .u32 (a7 : Nat), .int .u64 (a8 : Nat)] 26))).more (below_a1' b (.cells #[.int .u8 (a0 : Nat), .int .u8 (a1 : Nat), .int .u16 (a2 : Nat), .int .u8 (a3 : Nat), .int .u8 (a4 : Nat), .int .u16 (a5 : Nat), .int .u32 (a6 : Nat), .int .u32 (a7 : Nat), .int .u64 (a8 : Nat)] 26)).size
  go_wp2_with fail
  refine (HRD.out _ rx).mono ?_
  rintro e w7 ⟨rfl, b7⟩
  unfold hdV
  replace kx := kx.step b7
  replace b := below_step (below_a1' b _) b7
  go_wp2_with fail
  refine (HR.out _).mono ?_
  rintro e w8 ⟨rfl, b8⟩
  replace kx := kx.step b8
  replace b := below_step b b8
  have rx8 := (r.below b).more b.size
  have rx9 : Rd w8.drew w8.drew.heap.size A n c l := rx8.drewN 1
  obtain ⟨q0, q1, q2, q3, q4, q5, q6, q7, q8⟩ := box9 kx
  clear rx rx8
  go_wp2_with fail
  go_region_held3 (fun w' => w'.cell? ⟨w6.heap.size, 0, none⟩ = some (.int .u8 (a0 : Nat)) ∧ w'.cell? ⟨w6.heap.size, 1, none⟩ = some (.int .u8 (a1 : Nat)) ∧ w'.cell? ⟨w6.heap.size, 2, none⟩ = some (.int .u16 (a2 : Nat)) ∧ w'.cell? ⟨w6.heap.size, 3, none⟩ = some (.int .u8 (a3 : Nat)) ∧ w'.cell? ⟨w6.heap.size, 4, none⟩ = some (.int .u8 (a4 : Nat)) ∧ w'.cell? ⟨w6.heap.size, 5, none⟩ = some (.int .u16 (a5 : Nat)) ∧ w'.cell? ⟨w6.heap.size, 6, none⟩ = some (.int .u32 (a6 : Nat)) ∧ w'.cell? ⟨w6.heap.size, 7, none⟩ = some (.int .u32 (a7 : Nat)) ∧ w'.cell? ⟨w6.heap.size, 8, none⟩ = some (.int .u64 (a8 : Nat))) (first | (with_reducible exact ⟨q0, q1, q2, q3, q4, q5, q6, q7, q8⟩) | go_keep)
    (first
      | (go_at_call 38
         refine (HRD.out _ rx9).mono ?_
         rintro e w9 ⟨rfl, b9⟩
         unfold hdV
         replace kx : Blk w9 w6.heap.size _ _ := Blk.step (w := w8.drew) kx b9
         replace b := below_step (w1 := w8.drew) b.drew b9
         clear q0 q1 q2 q3 q4 q5 q6 q7 q8
         obtain ⟨q0, q1, q2, q3, q4, q5, q6, q7, q8⟩ := box9 kx)
      | fail)
  go_wp2_with fail
  go_ret
  exact ⟨rfl, b⟩
section
variable {H : Type} {enc : TypeId × Value → H} {W : World}
set_option maxRecDepth 100000 in
theorem open_header {v : Value} {d : DataW H} {p : List MemPlace} {base : Nat} (hv : Value.okWide Try.prog W .any base 26 v) (h : DataW.Trod enc Try.prog W 0 (fun _ => true) true 26 v d p) :
    ∃ mg op kl el ty st bl oq cas : Nat, v = hdV mg op kl el ty st bl oq cas ∧ HdF mg op kl el ty st bl oq cas ∧ ((∀ m ∈ d.weights Try.prog 26, m ≤ reachBytes) → True) := by
  obtain ⟨cs, rfl, hsz⟩ := okWide_struct Try.underlying26 hv
  obtain ⟨fuel, hf⟩ := h
  obtain ⟨mg, op, kl, el, ty, st, bl, oq, cas, hc, hi⟩ := trod_header hf
  refine ⟨mg, op, kl, el, ty, st, bl, oq, cas, ?_, hi, fun _ => trivial⟩
  have : cs = hdC mg op kl el ty st bl oq cas := by
    apply Array.toList_inj.1
    exact hc
  rw [this]; rfl
end
theorem walk_frameHeaders (mg op kl el ty st bl oq cas : Nat) (A1 : Option Addr) (n1 c1 : Nat) (l1 : List UInt8) (w : World) (r0 : HdF mg op kl el ty st bl oq cas) (s0 : True) (r1 : Rd w w.heap.size A1 n1 c1 l1) (s1 : c1 ≤ 140737488351232) :
    Calls Try.prog 9 #[hdV mg op kl el ty st bl oq cas, .slice A1 n1 c1] w fun e w' => e = .returned (.bool true) ∧ Below w.heap.size w w' := by
  by_cases hn : n1 < 24
  · exact (headers_short mg op kl el ty st bl oq cas r0 A1 n1 c1 l1 w r1 s1 hn).mono fun _ _ h => h
  by_cases hm : mayB (fld l1 0 1) (fld l1 2 2) (fld l1 4 1) (fld l1 8 4) = true
  · exact (headers_ok mg op kl el ty st bl oq cas r0 A1 n1 c1 l1 w r1 s1 (by omega) hm).mono fun _ _ h => h
  · exact (headers_bad mg op kl el ty st bl oq cas r0 A1 n1 c1 l1 w r1 s1 (by omega) (by simpa using hm)).mono fun _ _ h => h


set_option maxRecDepth 100000 in
theorem lifted_frameHeaders (os : Os) (started : os.Started) (H : Type) (enc : TypeId × Value → H) :
    ReturnsInHanded {} Try.checked os 9 .any (Rows.frameHeadersSpec.pre6 enc Try.prog Try.f9 Rows.frameHeadersRow.domain false) (Rows.frameHeadersSpec.post enc Try.prog Try.f9 false true false false) := by
  refine returnsInHanded_of_change_sized (C := Try.checked) own started (by kernel_rfl) Try.func9
    (ChangeSpec.witness6 (enc := enc) (C := Try.checked) false ⟨#[], #[.agg #[.int .u8 0, .int .u8 0, .int .u16 0, .int .u8 0, .int .u8 0, .int .u16 0, .int .u32 0, .int .u32 0, .int .u64 0], .slice none 0 0], []⟩ 8 (by kernel_rfl) (by kernel_rfl) (by kernel_rfl) (by kernel_rfl)) ?_
  intro W base args ds gs before hval0 hW hcnd hsz0 _
  have hval : ∀ (j : Nat) t v, Try.f9.params[j]? = some t → args[j]? = some v → Value.okWide Try.prog W .any base t v := hval0
  have hsz : (DataW.weightsEach Try.prog (Try.f9.params.toList ++ Rows.frameHeadersSpec.plain.varTypes Try.prog) (ds ++ gs)).all (· ≤ reachBytes) = true := hsz0
  have hW' := hW
  obtain ⟨p, q, hA0, hV, rfl, hfz, hnd⟩ := hW
  have hA : DataW.TrodAll enc Try.prog W 0 (fun _ => true) true Try.f9.params.toList args.toList ds p := hA0
  rw [Try.params9] at hA hval hsz
  obtain ⟨v0, vs0, d0, ds0, p0, q0, hargs, rfl, rfl, h0, t0⟩ := trodAll_cons hA
  obtain ⟨v1, vs1, d1, ds1, p1, q1, rfl, rfl, rfl, h1, t1⟩ := trodAll_cons t0
  obtain ⟨rfl, rfl, rfl⟩ := trodAll_nil t1
  obtain rfl : args = #[v0, v1] := by cases args; simp_all
  obtain ⟨rfl, rfl⟩ := trodVars_none hV
  have k0 := h0
  obtain ⟨mg0, op0, kl0, el0, ty0, st0, bl0, oq0, cas0, rfl, r0, y0⟩ := open_header (hval 0 26 v0 rfl rfl) h0
  have s0 := y0 (weights_of hsz (j := 0) rfl rfl)
  have k1 := h1
  obtain ⟨A1, n1, c1, l1, rfl, r1, y1⟩ := open_bytes (hval 1 27 v1 rfl rfl) h1
  have s1 := y1 (weights_of hsz (j := 1) rfl rfl)
  clear hA0 hval0
  refine (walk_frameHeaders mg0 op0 kl0 el0 ty0 st0 bl0 oq0 cas0 A1 n1 c1 l1 W r0 s0 r1 s1).mono fun e W' ⟨he, bel⟩ => ?_
  subst he
  exact ⟨_, rfl, _, _, _, [], _, [], hW', trodAll_mk1 (shut_bool Try.underlying4 _), (trodAll_cons_mk (Below.trod laidOut (by kernel_rfl) (of_decide_eq_true (by kernel_rfl)) k0 bel (trod_places k0)) (trodAll_cons_mk (Below.trod laidOut (by kernel_rfl) (of_decide_eq_true (by kernel_rfl)) k1 bel (trod_places k1)) trodAll_mk0)), rfl, bel.frame _, fun h => by cases h⟩

theorem over_frameHeaders : Rows.frameHeadersRow.holds Try.pinned (OpenSpec.ofChange Rows.frameHeadersSpec) :=
  OpenClaim.holds_of_wide 9 Try.f9 rfl rfl rfl rfl rfl rfl rfl ⟨rfl, rfl, rfl, rfl, rfl⟩ rfl rfl rfl rfl rfl (by kernel_rfl) Try.func9 (by kernel_rfl)
    (of_decide_eq_true (by kernel_rfl)) (by unfold Func.isWrapper; first | (rw [if_pos (by decide +kernel)]; kernel_rfl) | (rw [if_neg (by decide +kernel)]; exact ⟨rfl, rfl⟩))
    (fun os started H enc _ => lifted_frameHeaders os started H enc)

/-- The statement. -/
theorem frameHeaders_holds : Rows.FrameHeadersSaid := over_frameHeaders
#print axioms frameHeaders_holds

end Go.Proofs.Ytbmlpeomcagcjaa

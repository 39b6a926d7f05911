/- ReplyReads: whatever bytes are read as the answer that they begin with, or refused. Conditions: none. -/
import Derived.Test.YtnghmgbmflcngaaPrd21
import Derived.Test.YtnghmgbmflcngaaRrd21
import Derived.Test.YtnghmgbmflcngaaAsm
import Derived.Test.YtnghmgbmflcngaaOpq
import Derived.Test.YtnghmgbmflcngaaOpen
import Derived.Test.YtnghmgbmflcngaaClo
namespace Go.Proofs.Ytnghmgbmflcngaa
set_option linter.unusedVariables false
open Go.ChangeShapes Go.WideShapes Go.ChangeAt Go.RowKit

theorem readP_few (op : Int) (qt fu : Bool) (oq : Nat) (lk l : List UInt8) : (readP op qt fu oq lk l).SL.length ≤ 1000 := by
  unfold readP
  cases h : gather op 17 l with
  | short => exact Nat.zero_le _
  | bad => exact Nat.zero_le _
  | done N SL f =>
    show (AR.SL (if _ then _ else _)).length ≤ 1000
    split
    · have := (gather_small h).1
      show SL.length ≤ 1000
      omega
    · exact Nat.zero_le _
set_option maxRecDepth 100000 in
set_option maxHeartbeats 4000000 in
theorem walk_replyReads (op : Int) (qt fu : Bool) (bd : Int) (oq fl ex cs dl ni : Nat) (KA : Option Addr) (nk ck : Nat) (lk : List UInt8) (VB : Option Addr) (nb cb2 : Nat) (lb : List UInt8) (A1 : Option Addr) (n1 c1 : Nat) (l1 : List UInt8) (w : World) (hq : Rqs w w.heap.size op qt fu bd oq fl ex cs dl ni KA nk ck lk VB nb cb2 lb) (sk : ck ≤ 140737488351232 ∧ cb2 ≤ 140737488351232) (rb : Rd w w.heap.size A1 n1 c1 l1) (sb : c1 ≤ 140737488351232) :
    Calls Try.prog 15 #[reqV op qt fu bd oq (.slice KA nk ck) (.slice VB nb cb2) fl ex cs dl ni, .slice A1 n1 c1] w fun e w' => e = .returned (.bool true) ∧ Below w.heap.size w w' := by
  obtain ⟨rK, -, hoq, -⟩ := hq
  have HWK := Lib.hid (fun W => wakes21 W)
  have HRK := Lib.hid rK
  have HRB := Lib.hid rb
  unfold reqV
  have kq := Blk.new w #[.int .i64 op, .bool qt, .bool fu, .int .i64 bd, .int .u32 (oq : Nat), .slice KA nk ck, .slice VB nb cb2, .int .u32 (fl : Nat), .int .u32 (ex : Nat), .int .u64 (cs : Nat), .int .u64 (dl : Nat), .int .u64 (ni : Nat)] 26
  have b := below_a1' (Below.refl w.heap.size w) (.cells #[.int .i64 op, .bool qt, .bool fu, .int .i64 bd, .int .u32 (oq : Nat), .slice KA nk ck, .slice VB nb cb2, .int .u32 (fl : Nat), .int .u32 (ex : Nat), .int .u64 (cs : Nat), .int .u64 (dl : Nat), .int .u64 (ni : Nat)] 26)
  have HOQ := Lib.hid hoq
  clear rK hoq rb sk sb
  go_enter Try.func15, Try.ntmps15
  go_upto_region 1 with fail
  generalize w.alloc (.cells #[.int .i64 op, .bool qt, .bool fu, .int .i64 bd, .int .u32 (oq : Nat), .slice KA nk ck, .slice VB nb cb2, .int .u32 (fl : Nat), .int .u32 (ex : Nat), .int .u64 (cs : Nat), .int .u64 (dl : Nat), .int .u64 (ni : Nat)] 26) = W0 at kq b ⊢
  go_wp2_with fail
  refine (HWK.out W0).mono ?_
  rintro e w1 ⟨rfl, b1⟩
  replace kq := kq.step b1
  replace b := below_step b b1
  clear b1 HWK
  obtain ⟨q0, q1, q2, q3, q4, q5, q6, q7, q8, q9, q10, q11⟩ := box12 kq
  by_cases hbk : 2000 < nk
  · have hk' : ((2000 : Int) < (nk : Int)) = True := eq_true (by omega)
    go_wp2_with fail
    go_ret
    exact ⟨rfl, b⟩
  by_cases hbs : 40000 < n1
  · have hk' : ((2000 : Int) < (nk : Int)) = False := eq_false (by omega)
    have hs' : ((40000 : Int) < (n1 : Int)) = True := eq_true (by omega)
    go_wp2_with fail
    go_ret
    exact ⟨rfl, b⟩
  have hk' : ((2000 : Int) < (nk : Int)) = False := eq_false (by omega)
  have hs' : ((40000 : Int) < (n1 : Int)) = False := eq_false (by omega)
  have HLE : Hid (n1 ≤ 40000) := Lib.hid (by omega)
  obtain ⟨R, hR⟩ : ∃ R, R = readP op qt fu oq lk l1 := ⟨_, rfl⟩
  have hRF : readF op qt fu oq lk l1 = R := by rw [hR]; exact (read_same op qt fu oq lk l1 HOQ.out (codeB_lt op qt fu) (by rw [HRK.out.len]; omega)).symm
  have HP : Hid (∀ (W : World) (A : Option Addr) (c : Nat), Below w.heap.size w W → Rd W W.heap.size A n1 c l1 → Calls Try.prog 59 #[.agg #[.int .i64 op, .bool qt, .bool fu, .int .i64 bd, .int .u32 (oq : Nat), .slice KA nk ck, .slice VB nb cb2, .int .u32 (fl : Nat), .int .u32 (ex : Nat), .int .u64 (cs : Nat), .int .u64 (dl : Nat), .int .u64 (ni : Nat)], .slice A n1 c] W (R.Q W)) := Lib.hid (fun W A c b r => by have h := pread_any op qt fu bd oq fl ex cs dl ni KA nk ck lk (.slice VB nb cb2) A n1 c l1 W ((HRK.out.below b).more b.size) r (by omega) (by omega) HOQ.out; unfold RdP at h; rw [← hR] at h; exact h)
  have HF : Hid (∀ (W : World) (A : Option Addr) (c : Nat), Below w.heap.size w W → Rd W W.heap.size A n1 c l1 → Calls Try.prog 60 #[.agg #[.int .i64 op, .bool qt, .bool fu, .int .i64 bd, .int .u32 (oq : Nat), .slice KA nk ck, .slice VB nb cb2, .int .u32 (fl : Nat), .int .u32 (ex : Nat), .int .u64 (cs : Nat), .int .u64 (dl : Nat), .int .u64 (ni : Nat)], .slice A n1 c] W (R.Q W)) := Lib.hid (fun W A c b r => by have h := rread_any op qt fu bd oq fl ex cs dl ni KA nk ck lk (.slice VB nb cb2) A n1 c l1 W ((HRK.out.below b).more b.size) r (by omega) (by omega) HOQ.out; unfold RfP at h; rw [hRF] at h; exact h)
  have HSS : Hid (R.SL.length ≤ 1000) := Lib.hid (by rw [hR]; exact readP_few _ _ _ _ _ _)
  clear hR hRF hbk hbs
  go_upto_region 5 with fail
  clear hk' hs' q0 q1 q2 q3 q4 q5 q6 q7 q8 q9 q10 q11
  go_cut [5, 6, 7] (fun s5 s6 s7 wx => ∃ (gA : Nat) (VA : Option Addr) (nv cv : Nat) (SA : Option Addr) (ns sc : Nat), s5 = .pointer (some ⟨gA, 0, none⟩) ∧ s6 = .int .i64 (R.at_ : Nat) ∧ s7 = .int .i64 R.er ∧ Blk wx gA #[.int .i64 R.st, .slice VA nv cv, .int .u32 (R.F : Nat), .int .u64 (R.C : Nat), .int .u64 (R.N : Nat), .slice SA ns sc, .bool false] 29 ∧ Rd wx wx.heap.size VA nv cv R.V ∧ Rz wx wx.heap.size 2 SA ns sc (R.SL.map stCells).flatten ∧ R.SL.length = ns ∧ Blk wx w.heap.size #[.int .i64 op, .bool qt, .bool fu, .int .i64 bd, .int .u32 (oq : Nat), .slice KA nk ck, .slice VB nb cb2, .int .u32 (fl : Nat), .int .u32 (ex : Nat), .int .u64 (cs : Nat), .int .u64 (dl : Nat), .int .u64 (ni : Nat)] 26 ∧ Below w.heap.size w wx)
  case first =>
    refine wp_region_noPanic ?_
    refine region_T (fun wx => Blk wx w.heap.size #[.int .i64 op, .bool qt, .bool fu, .int .i64 bd, .int .u32 (oq : Nat), .slice KA nk ck, .slice VB nb cb2, .int .u32 (fl : Nat), .int .u32 (ex : Nat), .int .u64 (cs : Nat), .int .u64 (dl : Nat), .int .u64 (ni : Nat)] 26) 13 (by kernel_rfl) ?_
    have bD : Below w1.heap.size w1 w1.drew := (Below.refl _ _).drew
    have kq := kq.step bD
    have b := below_step b bD
    have hHeld := kq
    clear bD
    generalize w1.drew = Y0 at kq b hHeld ⊢
    refine takeT (i := 0) (v := ?_) rfl (by kernel_rfl) (by kernel_rfl) (by decide) (by kernel_rfl) (by kernel_rfl) (fun _ _ _ h => h) (Or.inl ⟨by rfl, ?_⟩) hHeld ?_
    rotate_left
    · (intro wx hSw; obtain ⟨a0, a1, a2, a3, a4, a5, a6, a7, a8, a9, a10, a11⟩ := box12 hSw; go_simp; try (with_reducible rfl))
    try simp only [Act.put, List.setIfInBounds_toArray, List.set_cons_zero, List.set_cons_succ]
    refine takeT (i := 2) (v := ?_) rfl (by kernel_rfl) (by kernel_rfl) (by decide) (by kernel_rfl) (by kernel_rfl) (fun _ _ _ h => h) (Or.inl ⟨by rfl, ?_⟩) hHeld ?_
    rotate_left
    · (intro wx hSw; obtain ⟨a0, a1, a2, a3, a4, a5, a6, a7, a8, a9, a10, a11⟩ := box12 hSw; go_simp; try (with_reducible rfl))
    try simp only [Act.put, List.setIfInBounds_toArray, List.set_cons_zero, List.set_cons_succ]
    refine twoT (i := 1) (j := 9) rfl rfl (by kernel_rfl) (fun KK hK => ?_) (fun KK hK => ?_)
    · clear hHeld
      go_simp
      have o1 : Own (Y0.alloc (.cells #[] 5)) (w.heap.size + 1) (some ⟨Y0.heap.size, 0, none⟩) 0 0 [] := Own.emptyK Y0 _ _ rfl kq.lt
      have ba := below_a1' (Below.refl Y0.heap.size Y0) (.cells #[] 5)
      have kq := kq.step ba
      have b := below_step b ba
      clear ba
      generalize hW : Y0.alloc (.cells #[] 5) = Y1 at o1 kq b ⊢
      clear hW
      generalize Y0.heap.size = g1 at o1 ⊢
      have hHeld := kq
      refine hK.out _ _ (fun _ => hHeld) ?_
      clear hK KK
      try simp only [Act.put, List.setIfInBounds_toArray, List.set_cons_zero, List.set_cons_succ]
      refine twoT (i := 3) (j := 9) rfl rfl (by kernel_rfl) (fun KK hK => ?_) (fun KK hK => ?_)
      · clear hHeld
        refine step_app8g _ rfl _ _ rfl (w.heap.size + 1) g1 0 0 [] rfl o1 w.heap.size A1 n1 c1 l1 rfl (HRB.out.below b) (by have := HLE.out; omega) kq.lt ?_
        intro g3 c3 Y2 o3 gb3 hg3
        have h1 := o1.base
        simp only [Nat.zero_add, List.nil_append] at o3 ⊢
        have b := b.trans (below_grown gb3 (by omega) h1.2)
        have kq := kq.left gb3 (by omega)
        clear gb3 hg3 h1 o1
        have hHeld := kq
        refine hK.out _ _ (fun _ => hHeld) ?_
        clear hK KK
        try simp only [Act.put, List.setIfInBounds_toArray, List.set_cons_zero, List.set_cons_succ]
        refine twoT (i := 4) (j := 9) rfl rfl (by kernel_rfl) (fun KK hK => ?_) (fun KK hK => ?_)
        · clear hHeld
          go_simp
          refine (HP.out Y2 (some ⟨g3, 0, none⟩) c3 b o3.rd).mono ?_
          rintro e Y3 ⟨VA1, nv1, cv1, SA1, ns1, sc1, rfl, rV1, rS1, hns1, ba⟩
          have kq := kq.step ba
          have b := below_step b ba
          clear ba o3
          have hHeld := kq
          refine hK.out _ _ (fun _ => hHeld) ?_
          clear hK KK
          try simp only [Act.put, List.setIfInBounds_toArray, List.set_cons_zero, List.set_cons_succ]
          refine takeT (i := 5) (v := ?_) rfl (by kernel_rfl) (by kernel_rfl) (by decide) (by kernel_rfl) (by kernel_rfl) (fun _ _ _ h => h) (Or.inl ⟨by rfl, ?_⟩) hHeld ?_
          rotate_left
          · (intro wx hSw; obtain ⟨a0, a1, a2, a3, a4, a5, a6, a7, a8, a9, a10, a11⟩ := box12 hSw; go_simp; try (with_reducible rfl))
          try simp only [Act.put, List.setIfInBounds_toArray, List.set_cons_zero, List.set_cons_succ]
          refine takeT (i := 6) (v := ?_) rfl (by kernel_rfl) (by kernel_rfl) (by decide) (by kernel_rfl) (by kernel_rfl) (fun _ _ _ h => h) (Or.inl ⟨by rfl, ?_⟩) hHeld ?_
          rotate_left
          · (intro wx hSw; obtain ⟨a0, a1, a2, a3, a4, a5, a6, a7, a8, a9, a10, a11⟩ := box12 hSw; go_simp; try (with_reducible rfl))
          try simp only [Act.put, List.setIfInBounds_toArray, List.set_cons_zero, List.set_cons_succ]
          refine takeT (i := 7) (v := ?_) rfl (by kernel_rfl) (by kernel_rfl) (by decide) (by kernel_rfl) (by kernel_rfl) (fun _ _ _ h => h) (Or.inl ⟨by rfl, ?_⟩) hHeld ?_
          rotate_left
          · (intro wx hSw; obtain ⟨a0, a1, a2, a3, a4, a5, a6, a7, a8, a9, a10, a11⟩ := box12 hSw; go_simp; try (with_reducible rfl))
          try simp only [Act.put, List.setIfInBounds_toArray, List.set_cons_zero, List.set_cons_succ]
          refine takeT (i := 8) (v := ?_) rfl (by kernel_rfl) (by kernel_rfl) (by decide) (by kernel_rfl) (by kernel_rfl) (fun _ _ _ h => h) (Or.inl ⟨by rfl, ?_⟩) hHeld ?_
          rotate_left
          · (intro wx hSw; obtain ⟨a0, a1, a2, a3, a4, a5, a6, a7, a8, a9, a10, a11⟩ := box12 hSw; go_simp; try (with_reducible rfl))
          try simp only [Act.put, List.setIfInBounds_toArray, List.set_cons_zero, List.set_cons_succ]
          refine oneT (i := 9) rfl (by kernel_rfl) (fun KK hK => ?_)
          clear hHeld
          go_simp
          have kA := Blk.new Y3 #[.int .i64 0, .slice none 0 0, .int .u32 0, .int .u64 0, .int .u64 0, .slice none 0 0, .bool false] 29
          have ba := below_a1' (Below.refl Y3.heap.size Y3) (.cells #[.int .i64 0, .slice none 0 0, .int .u32 0, .int .u64 0, .int .u64 0, .slice none 0 0, .bool false] 29)
          have hA0 := kq.lt
          have rV1 := rV1.step ba
          have rS1 := rS1.step ba
          have kq := kq.step ba
          have b := below_step b ba
          clear ba
          generalize hW : Y3.alloc (.cells #[.int .i64 0, .slice none 0 0, .int .u32 0, .int .u64 0, .int .u64 0, .slice none 0 0, .bool false] 29) = Y4 at kA kq b rV1 rS1 ⊢
          clear hW
          generalize Y3.heap.size = gA at kA hA0 ⊢
          have hHeld := kq
          refine hK.out _ _ (fun _ => hHeld) ?_
          clear hK KK
          try simp only [Act.put, List.setIfInBounds_toArray, List.set_cons_zero, List.set_cons_succ]
          have hgA := kA.lt
          have gs := grown_put7 Y4 gA (.int .i64 R.st) (.slice VA1 nv1 cv1) (.int .u32 (R.F : Nat)) (.int .u64 (R.C : Nat)) (.int .u64 (R.N : Nat)) (.slice SA1 ns1 sc1) (.bool false)
          have kS := blk_put7 kA (.int .i64 R.st) (.slice VA1 nv1 cv1) (.int .u32 (R.F : Nat)) (.int .u64 (R.C : Nat)) (.int .u64 (R.N : Nat)) (.slice SA1 ns1 sc1) (.bool false)
          have hqA : w.heap.size ≠ gA := Nat.ne_of_lt hA0
          obtain ⟨p0, p1, p2, p3, p4, p5, p6⟩ := box7 kA
          have y0 := kA.frozen 0
          have y1 := kA.frozen 1
          have y2 := kA.frozen 2
          have y3 := kA.frozen 3
          have y4 := kA.frozen 4
          have y5 := kA.frozen 5
          have y6 := kA.frozen 6
          have kq9 := kq.left gs hqA
          have rV9 := rd_zero rV1 kA gs
          have rS9 := rz_zero rS1 kA gs
          have b9 := b.trans (below_grown gs (Nat.le_of_lt hA0) hgA)
          clear hHeld
          have hHeld := kq9
          refine oneT (i := 10) rfl (by kernel_rfl) (fun KK hK => ?_)
          go_simp
          refine hK.out _ _ (fun _ => hHeld) ?_
          clear hK KK
          try simp only [Act.put, List.setIfInBounds_toArray, List.set_cons_zero, List.set_cons_succ]
          refine oneT (i := 11) rfl (by kernel_rfl) (fun KK hK => ?_)
          go_simp
          refine hK.out _ _ (fun _ => hHeld) ?_
          clear hK KK
          try simp only [Act.put, List.setIfInBounds_toArray, List.set_cons_zero, List.set_cons_succ]
          refine oneT (i := 12) rfl (by kernel_rfl) (fun KK hK => ?_)
          go_simp
          refine hK.out _ _ (fun _ => hHeld) ?_
          clear hK KK
          try simp only [Act.put, List.setIfInBounds_toArray, List.set_cons_zero, List.set_cons_succ]
          refine doneT (by kernel_rfl) ?_ _
          refine NoPanic.normal ?_
          have HR := Lib.hid (And.intro kS (And.intro rV9 (And.intro rS9 (And.intro hns1 (And.intro kq9 b9)))))
          clear hHeld kq kA b gs kS hqA hgA kq9 rV9 rS9 b9 rV1 rS1 hns1 p0 p1 p2 p3 p4 p5 p6 y0 y1 y2 y3 y4 y5 y6
          go_wp2_with fail
          go_meet
          exact ⟨gA, VA1, nv1, cv1, SA1, ns1, sc1, rfl, rfl, rfl, HR.out⟩
        · clear hHeld
          go_simp
          have kA := Blk.new Y2 #[.int .i64 0, .slice none 0 0, .int .u32 0, .int .u64 0, .int .u64 0, .slice none 0 0, .bool false] 29
          have ba := below_a1' (Below.refl Y2.heap.size Y2) (.cells #[.int .i64 0, .slice none 0 0, .int .u32 0, .int .u64 0, .int .u64 0, .slice none 0 0, .bool false] 29)
          have hA0 := kq.lt
          have o3 := o3.below ba
          have kq := kq.step ba
          have b := below_step b ba
          clear ba
          generalize hW : Y2.alloc (.cells #[.int .i64 0, .slice none 0 0, .int .u32 0, .int .u64 0, .int .u64 0, .slice none 0 0, .bool false] 29) = Y3 at kA kq b o3 ⊢
          clear hW
          generalize Y2.heap.size = gA at kA hA0 ⊢
          have hHeld := kq
          refine hK.out _ _ (fun _ => hHeld) ?_
          clear hK KK
          try simp only [Act.put, List.setIfInBounds_toArray, List.set_cons_zero, List.set_cons_succ]
          refine oneT (i := 4) rfl (by kernel_rfl) (fun KK hK => ?_)
          clear hHeld
          go_simp
          refine (HP.out Y3 (some ⟨g3, 0, none⟩) c3 b o3.rd).mono ?_
          rintro e Y4 ⟨VA1, nv1, cv1, SA1, ns1, sc1, rfl, rV1, rS1, hns1, ba⟩
          have kA := kA.step ba
          have kq := kq.step ba
          have b := below_step b ba
          clear ba o3
          have hHeld := kq
          refine hK.out _ _ (fun _ => hHeld) ?_
          clear hK KK
          try simp only [Act.put, List.setIfInBounds_toArray, List.set_cons_zero, List.set_cons_succ]
          refine takeT (i := 5) (v := ?_) rfl (by kernel_rfl) (by kernel_rfl) (by decide) (by kernel_rfl) (by kernel_rfl) (fun _ _ _ h => h) (Or.inl ⟨by rfl, ?_⟩) hHeld ?_
          rotate_left
          · (intro wx hSw; obtain ⟨a0, a1, a2, a3, a4, a5, a6, a7, a8, a9, a10, a11⟩ := box12 hSw; go_simp; try (with_reducible rfl))
          try simp only [Act.put, List.setIfInBounds_toArray, List.set_cons_zero, List.set_cons_succ]
          refine takeT (i := 6) (v := ?_) rfl (by kernel_rfl) (by kernel_rfl) (by decide) (by kernel_rfl) (by kernel_rfl) (fun _ _ _ h => h) (Or.inl ⟨by rfl, ?_⟩) hHeld ?_
          rotate_left
          · (intro wx hSw; obtain ⟨a0, a1, a2, a3, a4, a5, a6, a7, a8, a9, a10, a11⟩ := box12 hSw; go_simp; try (with_reducible rfl))
          try simp only [Act.put, List.setIfInBounds_toArray, List.set_cons_zero, List.set_cons_succ]
          refine takeT (i := 7) (v := ?_) rfl (by kernel_rfl) (by kernel_rfl) (by decide) (by kernel_rfl) (by kernel_rfl) (fun _ _ _ h => h) (Or.inl ⟨by rfl, ?_⟩) hHeld ?_
          rotate_left
          · (intro wx hSw; obtain ⟨a0, a1, a2, a3, a4, a5, a6, a7, a8, a9, a10, a11⟩ := box12 hSw; go_simp; try (with_reducible rfl))
          try simp only [Act.put, List.setIfInBounds_toArray, List.set_cons_zero, List.set_cons_succ]
          refine takeT (i := 8) (v := ?_) rfl (by kernel_rfl) (by kernel_rfl) (by decide) (by kernel_rfl) (by kernel_rfl) (fun _ _ _ h => h) (Or.inl ⟨by rfl, ?_⟩) hHeld ?_
          rotate_left
          · (intro wx hSw; obtain ⟨a0, a1, a2, a3, a4, a5, a6, a7, a8, a9, a10, a11⟩ := box12 hSw; go_simp; try (with_reducible rfl))
          try simp only [Act.put, List.setIfInBounds_toArray, List.set_cons_zero, List.set_cons_succ]
          have hgA := kA.lt
          have gs := grown_put7 Y4 gA (.int .i64 R.st) (.slice VA1 nv1 cv1) (.int .u32 (R.F : Nat)) (.int .u64 (R.C : Nat)) (.int .u64 (R.N : Nat)) (.slice SA1 ns1 sc1) (.bool false)
          have kS := blk_put7 kA (.int .i64 R.st) (.slice VA1 nv1 cv1) (.int .u32 (R.F : Nat)) (.int .u64 (R.C : Nat)) (.int .u64 (R.N : Nat)) (.slice SA1 ns1 sc1) (.bool false)
          have hqA : w.heap.size ≠ gA := Nat.ne_of_lt hA0
          obtain ⟨p0, p1, p2, p3, p4, p5, p6⟩ := box7 kA
          have y0 := kA.frozen 0
          have y1 := kA.frozen 1
          have y2 := kA.frozen 2
          have y3 := kA.frozen 3
          have y4 := kA.frozen 4
          have y5 := kA.frozen 5
          have y6 := kA.frozen 6
          have kq9 := kq.left gs hqA
          have rV9 := rd_zero rV1 kA gs
          have rS9 := rz_zero rS1 kA gs
          have b9 := b.trans (below_grown gs (Nat.le_of_lt hA0) hgA)
          clear hHeld
          have hHeld := kq9
          refine oneT (i := 10) rfl (by kernel_rfl) (fun KK hK => ?_)
          go_simp
          refine hK.out _ _ (fun _ => hHeld) ?_
          clear hK KK
          try simp only [Act.put, List.setIfInBounds_toArray, List.set_cons_zero, List.set_cons_succ]
          refine oneT (i := 11) rfl (by kernel_rfl) (fun KK hK => ?_)
          go_simp
          refine hK.out _ _ (fun _ => hHeld) ?_
          clear hK KK
          try simp only [Act.put, List.setIfInBounds_toArray, List.set_cons_zero, List.set_cons_succ]
          refine oneT (i := 12) rfl (by kernel_rfl) (fun KK hK => ?_)
          go_simp
          refine hK.out _ _ (fun _ => hHeld) ?_
          clear hK KK
          try simp only [Act.put, List.setIfInBounds_toArray, List.set_cons_zero, List.set_cons_succ]
          refine doneT (by kernel_rfl) ?_ _
          refine NoPanic.normal ?_
          have HR := Lib.hid (And.intro kS (And.intro rV9 (And.intro rS9 (And.intro hns1 (And.intro kq9 b9)))))
          clear hHeld kq kA b gs kS hqA hgA kq9 rV9 rS9 b9 rV1 rS1 hns1 p0 p1 p2 p3 p4 p5 p6 y0 y1 y2 y3 y4 y5 y6
          go_wp2_with fail
          go_meet
          exact ⟨gA, VA1, nv1, cv1, SA1, ns1, sc1, rfl, rfl, rfl, HR.out⟩
      · clear hHeld
        go_simp
        have kA := Blk.new Y1 #[.int .i64 0, .slice none 0 0, .int .u32 0, .int .u64 0, .int .u64 0, .slice none 0 0, .bool false] 29
        have ba := below_a1' (Below.refl Y1.heap.size Y1) (.cells #[.int .i64 0, .slice none 0 0, .int .u32 0, .int .u64 0, .int .u64 0, .slice none 0 0, .bool false] 29)
        have hA0 := kq.lt
        have hAg : Y1.heap.size ≠ g1 := Nat.ne_of_gt o1.base.2
        have o1 := o1.below ba
        have kq := kq.step ba
        have b := below_step b ba
        clear ba
        generalize hW : Y1.alloc (.cells #[.int .i64 0, .slice none 0 0, .int .u32 0, .int .u64 0, .int .u64 0, .slice none 0 0, .bool false] 29) = Y2 at kA kq b o1 ⊢
        clear hW
        generalize Y1.heap.size = gA at kA hA0 hAg ⊢
        have hHeld := kq
        refine hK.out _ _ (fun _ => hHeld) ?_
        clear hK KK
        try simp only [Act.put, List.setIfInBounds_toArray, List.set_cons_zero, List.set_cons_succ]
        refine oneT (i := 3) rfl (by kernel_rfl) (fun KK hK => ?_)
        clear hHeld
        refine step_app8g _ rfl _ _ rfl (w.heap.size + 1) g1 0 0 [] rfl o1 w.heap.size A1 n1 c1 l1 rfl (HRB.out.below b) (by have := HLE.out; omega) kq.lt ?_
        intro g3 c3 Y3 o3 gb3 hg3
        have h1 := o1.base
        simp only [Nat.zero_add, List.nil_append] at o3 ⊢
        have b := b.trans (below_grown gb3 (by omega) h1.2)
        have kA := kA.left gb3 hAg
        have kq := kq.left gb3 (by omega)
        clear gb3 hg3 h1 o1
        have hHeld := kq
        refine hK.out _ _ (fun _ => hHeld) ?_
        clear hK KK
        try simp only [Act.put, List.setIfInBounds_toArray, List.set_cons_zero, List.set_cons_succ]
        refine oneT (i := 4) rfl (by kernel_rfl) (fun KK hK => ?_)
        clear hHeld
        go_simp
        refine (HP.out Y3 (some ⟨g3, 0, none⟩) c3 b o3.rd).mono ?_
        rintro e Y4 ⟨VA1, nv1, cv1, SA1, ns1, sc1, rfl, rV1, rS1, hns1, ba⟩
        have kA := kA.step ba
        have kq := kq.step ba
        have b := below_step b ba
        clear ba o3
        have hHeld := kq
        refine hK.out _ _ (fun _ => hHeld) ?_
        clear hK KK
        try simp only [Act.put, List.setIfInBounds_toArray, List.set_cons_zero, List.set_cons_succ]
        refine takeT (i := 5) (v := ?_) rfl (by kernel_rfl) (by kernel_rfl) (by decide) (by kernel_rfl) (by kernel_rfl) (fun _ _ _ h => h) (Or.inl ⟨by rfl, ?_⟩) hHeld ?_
        rotate_left
        · (intro wx hSw; obtain ⟨a0, a1, a2, a3, a4, a5, a6, a7, a8, a9, a10, a11⟩ := box12 hSw; go_simp; try (with_reducible rfl))
        try simp only [Act.put, List.setIfInBounds_toArray, List.set_cons_zero, List.set_cons_succ]
        refine takeT (i := 6) (v := ?_) rfl (by kernel_rfl) (by kernel_rfl) (by decide) (by kernel_rfl) (by kernel_rfl) (fun _ _ _ h => h) (Or.inl ⟨by rfl, ?_⟩) hHeld ?_
        rotate_left
        · (intro wx hSw; obtain ⟨a0, a1, a2, a3, a4, a5, a6, a7, a8, a9, a10, a11⟩ := box12 hSw; go_simp; try (with_reducible rfl))
        try simp only [Act.put, List.setIfInBounds_toArray, List.set_cons_zero, List.set_cons_succ]
        refine takeT (i := 7) (v := ?_) rfl (by kernel_rfl) (by kernel_rfl) (by decide) (by kernel_rfl) (by kernel_rfl) (fun _ _ _ h => h) (Or.inl ⟨by rfl, ?_⟩) hHeld ?_
        rotate_left
        · (intro wx hSw; obtain ⟨a0, a1, a2, a3, a4, a5, a6, a7, a8, a9, a10, a11⟩ := box12 hSw; go_simp; try (with_reducible rfl))
        try simp only [Act.put, List.setIfInBounds_toArray, List.set_cons_zero, List.set_cons_succ]
        refine takeT (i := 8) (v := ?_) rfl (by kernel_rfl) (by kernel_rfl) (by decide) (by kernel_rfl) (by kernel_rfl) (fun _ _ _ h => h) (Or.inl ⟨by rfl, ?_⟩) hHeld ?_
        rotate_left
        · (intro wx hSw; obtain ⟨a0, a1, a2, a3, a4, a5, a6, a7, a8, a9, a10, a11⟩ := box12 hSw; go_simp; try (with_reducible rfl))
        try simp only [Act.put, List.setIfInBounds_toArray, List.set_cons_zero, List.set_cons_succ]
        have hgA := kA.lt
        have gs := grown_put7 Y4 gA (.int .i64 R.st) (.slice VA1 nv1 cv1) (.int .u32 (R.F : Nat)) (.int .u64 (R.C : Nat)) (.int .u64 (R.N : Nat)) (.slice SA1 ns1 sc1) (.bool false)
        have kS := blk_put7 kA (.int .i64 R.st) (.slice VA1 nv1 cv1) (.int .u32 (R.F : Nat)) (.int .u64 (R.C : Nat)) (.int .u64 (R.N : Nat)) (.slice SA1 ns1 sc1) (.bool false)
        have hqA : w.heap.size ≠ gA := Nat.ne_of_lt hA0
        obtain ⟨p0, p1, p2, p3, p4, p5, p6⟩ := box7 kA
        have y0 := kA.frozen 0
        have y1 := kA.frozen 1
        have y2 := kA.frozen 2
        have y3 := kA.frozen 3
        have y4 := kA.frozen 4
        have y5 := kA.frozen 5
        have y6 := kA.frozen 6
        have kq9 := kq.left gs hqA
        have rV9 := rd_zero rV1 kA gs
        have rS9 := rz_zero rS1 kA gs
        have b9 := b.trans (below_grown gs (Nat.le_of_lt hA0) hgA)
        clear hHeld
        have hHeld := kq9
        refine oneT (i := 10) rfl (by kernel_rfl) (fun KK hK => ?_)
        go_simp
        refine hK.out _ _ (fun _ => hHeld) ?_
        clear hK KK
        try simp only [Act.put, List.setIfInBounds_toArray, List.set_cons_zero, List.set_cons_succ]
        refine oneT (i := 11) rfl (by kernel_rfl) (fun KK hK => ?_)
        go_simp
        refine hK.out _ _ (fun _ => hHeld) ?_
        clear hK KK
        try simp only [Act.put, List.setIfInBounds_toArray, List.set_cons_zero, List.set_cons_succ]
        refine oneT (i := 12) rfl (by kernel_rfl) (fun KK hK => ?_)
        go_simp
        refine hK.out _ _ (fun _ => hHeld) ?_
        clear hK KK
        try simp only [Act.put, List.setIfInBounds_toArray, List.set_cons_zero, List.set_cons_succ]
        refine doneT (by kernel_rfl) ?_ _
        refine NoPanic.normal ?_
        have HR := Lib.hid (And.intro kS (And.intro rV9 (And.intro rS9 (And.intro hns1 (And.intro kq9 b9)))))
        clear hHeld kq kA b gs kS hqA hgA kq9 rV9 rS9 b9 rV1 rS1 hns1 p0 p1 p2 p3 p4 p5 p6 y0 y1 y2 y3 y4 y5 y6
        go_wp2_with fail
        go_meet
        exact ⟨gA, VA1, nv1, cv1, SA1, ns1, sc1, rfl, rfl, rfl, HR.out⟩
    · clear hHeld
      go_simp
      have kA := Blk.new Y0 #[.int .i64 0, .slice none 0 0, .int .u32 0, .int .u64 0, .int .u64 0, .slice none 0 0, .bool false] 29
      have ba := below_a1' (Below.refl Y0.heap.size Y0) (.cells #[.int .i64 0, .slice none 0 0, .int .u32 0, .int .u64 0, .int .u64 0, .slice none 0 0, .bool false] 29)
      have hA0 := kq.lt
      have kq := kq.step ba
      have b := below_step b ba
      clear ba
      generalize hW : Y0.alloc (.cells #[.int .i64 0, .slice none 0 0, .int .u32 0, .int .u64 0, .int .u64 0, .slice none 0 0, .bool false] 29) = Y1 at kA kq b ⊢
      clear hW
      generalize Y0.heap.size = gA at kA hA0 ⊢
      have hHeld := kq
      refine hK.out _ _ (fun _ => hHeld) ?_
      clear hK KK
      try simp only [Act.put, List.setIfInBounds_toArray, List.set_cons_zero, List.set_cons_succ]
      refine oneT (i := 1) rfl (by kernel_rfl) (fun KK hK => ?_)
      clear hHeld
      go_simp
      have o1 : Own (Y1.alloc (.cells #[] 5)) (w.heap.size + 1) (some ⟨Y1.heap.size, 0, none⟩) 0 0 [] := Own.emptyK Y1 _ _ rfl kq.lt
      have ba := below_a1' (Below.refl Y1.heap.size Y1) (.cells #[] 5)
      have hAg : gA ≠ Y1.heap.size := Nat.ne_of_lt kA.lt
      have kA := kA.step ba
      have kq := kq.step ba
      have b := below_step b ba
      clear ba
      generalize hW : Y1.alloc (.cells #[] 5) = Y2 at o1 kq b kA ⊢
      clear hW
      generalize Y1.heap.size = g1 at o1 hAg ⊢
      have hHeld := kq
      refine hK.out _ _ (fun _ => hHeld) ?_
      clear hK KK
      try simp only [Act.put, List.setIfInBounds_toArray, List.set_cons_zero, List.set_cons_succ]
      refine oneT (i := 3) rfl (by kernel_rfl) (fun KK hK => ?_)
      clear hHeld
      refine step_app8g _ rfl _ _ rfl (w.heap.size + 1) g1 0 0 [] rfl o1 w.heap.size A1 n1 c1 l1 rfl (HRB.out.below b) (by have := HLE.out; omega) kq.lt ?_
      intro g3 c3 Y3 o3 gb3 hg3
      have h1 := o1.base
      simp only [Nat.zero_add, List.nil_append] at o3 ⊢
      have b := b.trans (below_grown gb3 (by omega) h1.2)
      have kA := kA.left gb3 hAg
      have kq := kq.left gb3 (by omega)
      clear gb3 hg3 h1 o1
      have hHeld := kq
      refine hK.out _ _ (fun _ => hHeld) ?_
      clear hK KK
      try simp only [Act.put, List.setIfInBounds_toArray, List.set_cons_zero, List.set_cons_succ]
      refine oneT (i := 4) rfl (by kernel_rfl) (fun KK hK => ?_)
      clear hHeld
      go_simp
      refine (HP.out Y3 (some ⟨g3, 0, none⟩) c3 b o3.rd).mono ?_
      rintro e Y4 ⟨VA1, nv1, cv1, SA1, ns1, sc1, rfl, rV1, rS1, hns1, ba⟩
      have kA := kA.step ba
      have kq := kq.step ba
      have b := below_step b ba
      clear ba o3
      have hHeld := kq
      refine hK.out _ _ (fun _ => hHeld) ?_
      clear hK KK
      try simp only [Act.put, List.setIfInBounds_toArray, List.set_cons_zero, List.set_cons_succ]
      refine takeT (i := 5) (v := ?_) rfl (by kernel_rfl) (by kernel_rfl) (by decide) (by kernel_rfl) (by kernel_rfl) (fun _ _ _ h => h) (Or.inl ⟨by rfl, ?_⟩) hHeld ?_
      rotate_left
      · (intro wx hSw; obtain ⟨a0, a1, a2, a3, a4, a5, a6, a7, a8, a9, a10, a11⟩ := box12 hSw; go_simp; try (with_reducible rfl))
      try simp only [Act.put, List.setIfInBounds_toArray, List.set_cons_zero, List.set_cons_succ]
      refine takeT (i := 6) (v := ?_) rfl (by kernel_rfl) (by kernel_rfl) (by decide) (by kernel_rfl) (by kernel_rfl) (fun _ _ _ h => h) (Or.inl ⟨by rfl, ?_⟩) hHeld ?_
      rotate_left
      · (intro wx hSw; obtain ⟨a0, a1, a2, a3, a4, a5, a6, a7, a8, a9, a10, a11⟩ := box12 hSw; go_simp; try (with_reducible rfl))
      try simp only [Act.put, List.setIfInBounds_toArray, List.set_cons_zero, List.set_cons_succ]
      refine takeT (i := 7) (v := ?_) rfl (by kernel_rfl) (by kernel_rfl) (by decide) (by kernel_rfl) (by kernel_rfl) (fun _ _ _ h => h) (Or.inl ⟨by rfl, ?_⟩) hHeld ?_
      rotate_left
      · (intro wx hSw; obtain ⟨a0, a1, a2, a3, a4, a5, a6, a7, a8, a9, a10, a11⟩ := box12 hSw; go_simp; try (with_reducible rfl))
      try simp only [Act.put, List.setIfInBounds_toArray, List.set_cons_zero, List.set_cons_succ]
      refine takeT (i := 8) (v := ?_) rfl (by kernel_rfl) (by kernel_rfl) (by decide) (by kernel_rfl) (by kernel_rfl) (fun _ _ _ h => h) (Or.inl ⟨by rfl, ?_⟩) hHeld ?_
      rotate_left
      · (intro wx hSw; obtain ⟨a0, a1, a2, a3, a4, a5, a6, a7, a8, a9, a10, a11⟩ := box12 hSw; go_simp; try (with_reducible rfl))
      try simp only [Act.put, List.setIfInBounds_toArray, List.set_cons_zero, List.set_cons_succ]
      have hgA := kA.lt
      have gs := grown_put7 Y4 gA (.int .i64 R.st) (.slice VA1 nv1 cv1) (.int .u32 (R.F : Nat)) (.int .u64 (R.C : Nat)) (.int .u64 (R.N : Nat)) (.slice SA1 ns1 sc1) (.bool false)
      have kS := blk_put7 kA (.int .i64 R.st) (.slice VA1 nv1 cv1) (.int .u32 (R.F : Nat)) (.int .u64 (R.C : Nat)) (.int .u64 (R.N : Nat)) (.slice SA1 ns1 sc1) (.bool false)
      have hqA : w.heap.size ≠ gA := Nat.ne_of_lt hA0
      obtain ⟨p0, p1, p2, p3, p4, p5, p6⟩ := box7 kA
      have y0 := kA.frozen 0
      have y1 := kA.frozen 1
      have y2 := kA.frozen 2
      have y3 := kA.frozen 3
      have y4 := kA.frozen 4
      have y5 := kA.frozen 5
      have y6 := kA.frozen 6
      have kq9 := kq.left gs hqA
      have rV9 := rd_zero rV1 kA gs
      have rS9 := rz_zero rS1 kA gs
      have b9 := b.trans (below_grown gs (Nat.le_of_lt hA0) hgA)
      clear hHeld
      have hHeld := kq9
      refine oneT (i := 10) rfl (by kernel_rfl) (fun KK hK => ?_)
      go_simp
      refine hK.out _ _ (fun _ => hHeld) ?_
      clear hK KK
      try simp only [Act.put, List.setIfInBounds_toArray, List.set_cons_zero, List.set_cons_succ]
      refine oneT (i := 11) rfl (by kernel_rfl) (fun KK hK => ?_)
      go_simp
      refine hK.out _ _ (fun _ => hHeld) ?_
      clear hK KK
      try simp only [Act.put, List.setIfInBounds_toArray, List.set_cons_zero, List.set_cons_succ]
      refine oneT (i := 12) rfl (by kernel_rfl) (fun KK hK => ?_)
      go_simp
      refine hK.out _ _ (fun _ => hHeld) ?_
      clear hK KK
      try simp only [Act.put, List.setIfInBounds_toArray, List.set_cons_zero, List.set_cons_succ]
      refine doneT (by kernel_rfl) ?_ _
      refine NoPanic.normal ?_
      have HR := Lib.hid (And.intro kS (And.intro rV9 (And.intro rS9 (And.intro hns1 (And.intro kq9 b9)))))
      clear hHeld kq kA b gs kS hqA hgA kq9 rV9 rS9 b9 rV1 rS1 hns1 p0 p1 p2 p3 p4 p5 p6 y0 y1 y2 y3 y4 y5 y6
      go_wp2_with fail
      go_meet
      exact ⟨gA, VA1, nv1, cv1, SA1, ns1, sc1, rfl, rfl, rfl, HR.out⟩
  case rest =>
    clear b kq
    obtain ⟨gA, VA, nv, cv, SA, ns, sc, rfl, rfl, rfl, kA, rV, rS, hns, kq, b⟩ := hcut
    obtain ⟨q0, q1, q2, q3, q4, q5, q6, q7, q8, q9, q10, q11⟩ := box12 kq
    have HB := Lib.hid b
    go_wp2_with fail
    refine (HF.out wc A1 c1 b (HRB.out.below b |>.more b.size)).mono ?_
    rintro e w6 ⟨VA2, nv2, cv2, SA2, ns2, sc2, rfl, rV2, rS2, hns2, b6⟩
    clear q0 q1 q2 q3 q4 q5 q6 q7 q8 q9 q10 q11
    have kA := kA.step b6
    have rV := rV.step b6
    have rS := rS.step b6
    have b := below_step b b6
    clear b6 kq
    go_upto_region 7 with fail
    have kB := Blk.new w6 #[.int .i64 R.st, .slice VA2 nv2 cv2, .int .u32 (R.F : Nat), .int .u64 (R.C : Nat), .int .u64 (R.N : Nat), .slice SA2 ns2 sc2, .bool false] 29
    have bb := below_a1' (Below.refl w6.heap.size w6) (.cells #[.int .i64 R.st, .slice VA2 nv2 cv2, .int .u32 (R.F : Nat), .int .u64 (R.C : Nat), .int .u64 (R.N : Nat), .slice SA2 ns2 sc2, .bool false] 29)
    have kA := kA.step bb
    have rV := rV.step bb
    have rS := rS.step bb
    have rV2 := rV2.step bb
    have rS2 := rS2.step bb
    have b := below_step b bb
    clear bb
    generalize hW : w6.alloc (.cells #[.int .i64 R.st, .slice VA2 nv2 cv2, .int .u32 (R.F : Nat), .int .u64 (R.C : Nat), .int .u64 (R.N : Nat), .slice SA2 ns2 sc2, .bool false] 29) = w7 at kB kA rV rS rV2 rS2 b ⊢
    clear hW
    generalize w6.heap.size = gB at kB ⊢
    have e1 : nv = nv2 := by rw [← rV.len, ← rV2.len]
    have e2 : ns = ns2 := by rw [← hns, ← hns2]
    subst e1 e2
    have HSM := Lib.hid (asame_yes R.st VA VA2 SA SA2 nv cv cv2 ns sc sc2 R.F R.C R.N R.V R.SL false false w7 rV rV2 rS rS2 (by have := HSS.out; omega))
    unfold ansV at HSM
    clear rV rS rV2 rS2 hns hns2
    obtain ⟨p0, p1, p2, p3, p4, p5, p6⟩ := box7 kA
    obtain ⟨r0, r1, r2, r3, r4, r5, r6⟩ := box7 kB
    go_wp2_with fail
    refine HSM.out.mono ?_
    rintro e w8 ⟨rfl, b8⟩
    clear HSM p0 p1 p2 p3 p4 p5 p6 r0 r1 r2 r3 r4 r5 r6
    have kA := kA.step b8
    have b := below_step b b8
    clear b8 kB
    obtain ⟨p0, p1, p2, p3, p4, p5, p6⟩ := box7 kA
    have eN : ((R.at_ : Int) == (R.at_ : Int)) = true := beq_self_eq_true _
    have eE : (R.er == R.er) = true := beq_self_eq_true _
    have HBB := Lib.hid b
    clear b kA HB
    go_wp2_with fail
    go_ret
    exact ⟨rfl, HBB.out⟩

set_option maxRecDepth 100000 in
theorem lifted_replyReads (os : Os) (started : os.Started) (H : Type) (enc : TypeId × Value → H) :
    ReturnsInHanded {} Try.checked os 15 .any (Rows.replyReadsSpec.pre6 enc Try.prog Try.f15 Rows.replyReadsRow.domain false) (Rows.replyReadsSpec.post enc Try.prog Try.f15 false true false false) := by
  refine returnsInHanded_of_change_sized (C := Try.checked) own started (by kernel_rfl) Try.func15
    (ChangeSpec.witness6 (enc := enc) (C := Try.checked) false ⟨#[], #[.agg #[.int .i64 0, .bool false, .bool false, .int .i64 0, .int .u32 0, .slice none 0 0, .slice none 0 0, .int .u32 0, .int .u32 0, .int .u64 0, .int .u64 0, .int .u64 0], .slice none 0 0], []⟩ 8 (by kernel_rfl) (by kernel_rfl) (by kernel_rfl) (by kernel_rfl)) ?_
  intro W base args ds gs before hval0 hW hcnd hsz0 _
  have hval : ∀ (j : Nat) t v, Try.f15.params[j]? = some t → args[j]? = some v → Value.okWide Try.prog W .any base t v := hval0
  have hsz : (DataW.weightsEach Try.prog (Try.f15.params.toList ++ Rows.replyReadsSpec.plain.varTypes Try.prog) (ds ++ gs)).all (· ≤ reachBytes) = true := hsz0
  have hW' := hW
  obtain ⟨p, q, hA0, hV, rfl, hfz, hnd⟩ := hW
  have hA : DataW.TrodAll enc Try.prog W 0 (fun _ => true) true Try.f15.params.toList args.toList ds p := hA0
  rw [Try.params15] at hA hval hsz
  obtain ⟨v0, vs0, d0, ds0, p0, q0, hargs, rfl, rfl, h0, t0⟩ := trodAll_cons hA
  obtain ⟨v1, vs1, d1, ds1, p1, q1, rfl, rfl, rfl, h1, t1⟩ := trodAll_cons t0
  obtain ⟨rfl, rfl, rfl⟩ := trodAll_nil t1
  obtain rfl : args = #[v0, v1] := by cases args; simp_all
  obtain ⟨rfl, rfl⟩ := trodVars_none hV
  have k0 := h0
  obtain ⟨op0, qt0, fu0, bd0, oq0, fl0, ex0, cs0, dl0, ni0, K0, nk0, ck0, lk0, V0, nv0, cv0, lv0, rfl, r0, y0⟩ := open_req (hval 0 26 v0 rfl rfl) h0
  have s0 := y0 (weights_of hsz (j := 0) rfl rfl)
  have k1 := h1
  obtain ⟨A1, n1, c1, l1, rfl, r1, y1⟩ := open_bytes (hval 1 23 v1 rfl rfl) h1
  have s1 := y1 (weights_of hsz (j := 1) rfl rfl)
  clear hA0 hval0
  refine (walk_replyReads op0 qt0 fu0 bd0 oq0 fl0 ex0 cs0 dl0 ni0 K0 nk0 ck0 lk0 V0 nv0 cv0 lv0 A1 n1 c1 l1 W r0 s0 r1 s1).mono fun e W' ⟨he, bel⟩ => ?_
  subst he
  exact ⟨_, rfl, _, _, _, [], _, [], hW', trodAll_mk1 (shut_bool Try.underlying4 _), (trodAll_cons_mk (Below.trod laidOut (by kernel_rfl) (of_decide_eq_true (by kernel_rfl)) k0 bel (trod_places k0)) (trodAll_cons_mk (Below.trod laidOut (by kernel_rfl) (of_decide_eq_true (by kernel_rfl)) k1 bel (trod_places k1)) trodAll_mk0)), rfl, bel.frame _, fun h => by cases h⟩

theorem closed_replyReads : joinedFacts Try.pinned.checked.prog 15 Try.f15 Rows.replyReadsSpec Rows.replyReadsRow = true := by
  unfold joinedFacts
  rw [clo_heard, clo_may, clo_lifts, clo_make]
  kernel_rfl
theorem over_replyReads : Rows.replyReadsRow.holds Try.pinned (OpenSpec.ofChange Rows.replyReadsSpec) :=
  OpenClaim.holds_of_wide 15 Try.f15 rfl rfl rfl rfl rfl rfl rfl ⟨rfl, rfl, rfl, rfl, rfl⟩ rfl rfl rfl rfl rfl (by kernel_rfl) Try.func15 closed_replyReads
    (of_decide_eq_true (by kernel_rfl)) (by unfold Func.isWrapper; first | (rw [if_pos (by decide +kernel)]; kernel_rfl) | (rw [if_neg (by decide +kernel)]; exact ⟨rfl, rfl⟩))
    (fun os started H enc _ => lifted_replyReads os started H enc)

/-- The statement. -/
theorem replyReads_holds : Rows.ReplyReadsSaid := over_replyReads
#print axioms replyReads_holds

end Go.Proofs.Ytnghmgbmflcngaa

/- A connection closes. Conditions: typed in each theorem. -/
import Derived.Test.YtnghmgbmflcngaaCny
import Derived.Test.YtnghmgbmflcngaaCna
import Derived.Deep.DeepCutAuto
namespace Go.Proofs.Ytnghmgbmflcngaa
set_option linter.unusedVariables false
open Go.RowKit
structure CnC (w : World) (B gc : Nat) (OA : Option Addr) (on oc : Nat) (lo : List UInt8) : Prop where
  box : Blk w gc #[.pointer none, .pointer none, .slice OA on oc, .bool true] 160
  out : Own w B OA on oc lo
  bc : B ≤ gc
  oc_ : obk OA ≠ some gc
theorem CnC.step {w w' : World} {B gc on oc : Nat} {OA : Option Addr} {lo : List UInt8} (h : CnC w B gc OA on oc lo) (b : Below w.heap.size w w') : CnC w' B gc OA on oc lo := ⟨h.box.step b, h.out.step b, h.bc, h.oc_⟩
theorem step_appO (w : World) {ops : Array Oper} {o : Oper} {a : Act} {K : Act → World → Prop} {Q : Exit → Act → World → Prop} {E : Prop}
    (hg : Region.wanted o (yielded ops a.tmps) = true) (s x : Operand) (hop : o.op = Op.call { callee := Callee.builtin Builtin.append, args := #[s, x], argTypes := #[23, 23] })
    (B : Nat) (A : Option Addr) (n c : Nat) (l : List UInt8) (hs : a.eval s = .slice A n c) (hown : Own w B A n c l)
    (B2 : Nat) (A2 : Option Addr) (m c2 : Nat) (l2 : List UInt8) (hx : a.eval x = .slice A2 m c2) (hr : Rd w B2 A2 m c2 l2)
    (hbytes : n + m ≤ 140737488355328) (hbase : B ≤ w.heap.size)
    (hK : ∀ A' c' w', Own w' B A' (n + m) c' (l ++ l2) → w.grownBy w' (obk A) → (obk A' = obk A ∨ obk A' = some w.heap.size) → K (a.put o.dst (.slice A' (n + m) c')) w') :
    if Region.wanted o (yielded ops a.tmps) = true then Oper.wp Try.prog o a w K Q else E := by
  rw [if_pos hg]
  obtain ⟨i0, hi0, hz0, hz1, hz2⟩ := info_parts u8info
  obtain ⟨A', c', w', hrun, h1, h2, r3⟩ := run_app (P := Try.prog) w B 23 o.type 5 i0 _ 1 Try.underlying23 hi0 hz0 hz1 hz2 rfl A n c (cbs l) hown B2 A2 m c2 (cbs l2) hr (cbs_one _) (fits_small (by omega)) (by unfold maxLen; omega) hbase
  rw [obk_eq] at h2 r3
  rw [obk_eq] at r3
  unfold Oper.wp
  simp [execOp, hop, resolve, invoke, builtin, hs, hx, hrun, Result.andThen]
  exact hK A' c' w' (by unfold Own; rw [cbs_append]; exact h1) h2 r3
set_option maxRecDepth 100000 in
set_option maxHeartbeats 1000000 in
theorem cclose_any (gc : Nat) (v0 v1 v2 v3 : Value) (w : World) (h : Blk w gc #[v0, v1, v2, v3] 160) : Calls Try.prog 109 #[.pointer (some ⟨gc, 0, none⟩)] w fun e w' => e = .returned (.tuple #[]) ∧ Blk w' gc #[.pointer none, .pointer none, v2, .bool true] 160 ∧ w.grownBy w' (some gc) := by
  obtain ⟨p0, p1, p2, p3⟩ := box4 h
  have y0 := h.frozen 0
  have y1 := h.frozen 1
  have y3 := h.frozen 3
  have k1 := ((h.set_ 3 (.bool true)).set_ 1 (.pointer none)).set_ 0 (.pointer none)
  have gg := grown_trans (grown_trans (rdr_grown_set w gc 3 (.bool true)) (rdr_grown_set _ gc 1 (.pointer none))) (rdr_grown_set _ gc 0 (.pointer none))
  have HK := Lib.hid k1
  have HG := Lib.hid gg
  clear k1 gg h
  go_enter Try.func109, Try.ntmps109
  go_wp2_with fail
  go_end0
  exact ⟨rfl, HK.out, HG.out⟩
def BadCQ (B gc gp : Nat) (A OA : Option Addr) (on : Nat) (lo : List UInt8) (w : World) (e : Ending) (w' : World) : Prop :=
  ∃ OA' oc', e = .returned (.tuple #[.agg #[.int .i64 0, .bool false, .bool false, .int .i64 0, .int .u32 0, .slice none 0 0, .slice none 0 0, .int .u32 0, .int .u32 0, .int .u64 0, .int .u64 0, .int .u64 0], .bool false]) ∧ CnC w' B gc OA' (on + malB.length) oc' (lo ++ malB) ∧ Kp w w' (FP gc gp A OA) ∧ (obk OA' = obk OA ∨ ∃ k, obk OA' = some k ∧ w.heap.size ≤ k)
set_option maxRecDepth 100000 in
set_option maxHeartbeats 4000000 in
theorem cnext_bad (B gc gp n c on oc : Nat) (A OA : Option Addr) (l lo : List UInt8) (w : World) (h : CnA w B gc gp A n c l OA on oc lo (.pointer none) none) (hx : nxt l = none) (hon : on ≤ 100000000000) : Calls Try.prog 64 #[.pointer (some ⟨gc, 0, none⟩)] w (BadCQ B gc gp A OA on lo w) := by
  have HX := Lib.hid hx
  have HON := Lib.hid hon
  clear hx hon
  have k2 := Blk.new w #[.int .i64 0, .bool false, .bool false, .int .i64 0, .int .u32 0, .slice none 0 0, .slice none 0 0, .int .u32 0, .int .u32 0, .int .u64 0, .int .u64 0, .int .u64 0] 26
  have ba := below_a1' (Below.refl w.heap.size w) (.cells #[.int .i64 0, .bool false, .bool false, .int .i64 0, .int .u32 0, .slice none 0 0, .slice none 0 0, .int .u32 0, .int .u32 0, .int .u64 0, .int .u64 0, .int .u64 0] 26)
  have h0 := h.step ba
  have hgcl := h.box.lt
  have HGC : Hid (gc < w.heap.size) := Lib.hid hgcl
  have HFP : Hid (∀ k, FP gc gp A OA k → B ≤ k ∧ k < w.heap.size) := Lib.hid (fun k hk => h.fp k hk)
  clear hgcl h
  obtain ⟨p0, p1, p2, p3⟩ := box4 h0.box
  have HN := Lib.hid (next_bad' gp n c A l (w.alloc (.cells #[.int .i64 0, .bool false, .bool false, .int .i64 0, .int .u32 0, .slice none 0 0, .slice none 0 0, .int .u32 0, .int .u32 0, .int .u64 0, .int .u64 0, .int .u64 0] 26)) h0.prs HX.out)
  have HC := Lib.hid h0
  clear h0
  go_enter Try.func64, Try.ntmps64
  go_upto_region 4 with fail
  generalize hW : w.alloc (.cells #[.int .i64 0, .bool false, .bool false, .int .i64 0, .int .u32 0, .slice none 0 0, .slice none 0 0, .int .u32 0, .int .u32 0, .int .u64 0, .int .u64 0, .int .u64 0] 26) = W0 at k2 ba HN HC p0 p1 p2 p3 ⊢
  clear hW
  go_wp2_with fail
  refine HN.out.mono ?_
  rintro e w1 ⟨rfl, hp1, g1⟩
  clear HN p0 p1 p2 p3
  have hk1 := Kp.of_grown g1
  have h0 := HC.out
  have kc := hk1.blk h0.box h0.cp
  have oo := h0.out.kp hk1 (fun k e1 e2 => h0.op_ (by rw [← e2]; exact e1))
  have k2 := hk1.blk k2 (fun e => by have := (HFP.out gp (Or.inr (Or.inl rfl))).2; omega)
  have HNE : Hid (obk OA ≠ some gc) := Lib.hid h0.oc_
  have HBC : Hid (B ≤ gc) := Lib.hid h0.bc
  have HK := Lib.hid ((Kp.of_below ba (FP gc gp A OA)).after hk1 (fun k _ e => Or.inr (Or.inl e)))
  clear hk1 g1 hp1 h0 HC
  have b5 := below_a1' (Below.refl w1.heap.size w1) (.cells #[.int .i64 0, .bool false, .bool false, .int .i64 0, .int .u32 0, .slice none 0 0, .slice none 0 0, .int .u32 0, .int .u32 0, .int .u64 0, .int .u64 0, .int .u64 0] 26)
  have kc := kc.step b5
  have oo := oo.step b5
  have k2 := k2.step b5
  have HK := Lib.hid (HK.out.after (Kp.of_below b5 (FP gc gp A OA)) (fun k _ e => e))
  clear b5 ba
  go_upto_region 5 with fail
  generalize w1.alloc (.cells #[.int .i64 0, .bool false, .bool false, .int .i64 0, .int .u32 0, .slice none 0 0, .slice none 0 0, .int .u32 0, .int .u32 0, .int .u64 0, .int .u64 0, .int .u64 0] 26) = w2 at kc oo k2 HK ⊢
  go_upto_region 6 with fail
  go_cut [] (fun wx => ∃ OA' oc', Blk wx gc #[.pointer (some ⟨gp, 0, none⟩), .pointer none, .slice OA' (on + malB.length) oc', .bool false] 160 ∧ Own wx B OA' (on + malB.length) oc' (lo ++ malB) ∧ obk OA' ≠ some gc ∧ (∀ k, obk OA' = some k → k ≠ w.heap.size) ∧ (obk OA' = obk OA ∨ ∃ k, obk OA' = some k ∧ w.heap.size ≤ k) ∧ Blk wx w.heap.size #[.int .i64 0, .bool false, .bool false, .int .i64 0, .int .u32 0, .slice none 0 0, .slice none 0 0, .int .u32 0, .int .u32 0, .int .u64 0, .int .u64 0, .int .u64 0] 26 ∧ Kp w wx (FP gc gp A OA))
  case first =>
    refine wp_region_noPanic ?_
    refine region_T (fun wx => Blk wx gc #[.pointer (some ⟨gp, 0, none⟩), .pointer none, .slice OA on oc, .bool false] 160) 7 (by kernel_rfl) ?_
    have bD : Below w2.heap.size w2 w2.drew := (Below.refl _ _).drew
    have kc := kc.step bD
    have oo := oo.step bD
    have k2 := k2.step bD
    have HK := Lib.hid (HK.out.after (Kp.of_below bD (FP gc gp A OA)) (fun k _ e => e))
    have hHeld := kc
    clear bD
    generalize w2.drew = Y0 at kc oo k2 HK hHeld ⊢
    refine takeA (i := 0) (v := ?_) rfl (fun _ _ _ h => h) (Or.inl ⟨by rfl, ?_⟩) hHeld ?_
    rotate_left
    · (intro wx hSw; obtain ⟨a0, a1, a2, a3⟩ := box4 hSw; go_simp; try (with_reducible rfl))
    try simp only [Act.put, List.setIfInBounds_toArray, List.set_cons_zero, List.set_cons_succ]
    refine takeA (i := 1) (v := ?_) rfl (fun _ _ _ h => h) (Or.inl ⟨by rfl, ?_⟩) hHeld ?_
    rotate_left
    · (intro wx hSw; obtain ⟨a0, a1, a2, a3⟩ := box4 hSw; go_simp; try (with_reducible rfl))
    try simp only [Act.put, List.setIfInBounds_toArray, List.set_cons_zero, List.set_cons_succ]
    refine takeA (i := 2) (v := ?_) rfl (fun _ _ _ h => h) (Or.inl ⟨by rfl, ?_⟩) hHeld ?_
    rotate_left
    · (intro wx hSw; obtain ⟨a0, a1, a2, a3⟩ := box4 hSw; go_simp; try (with_reducible rfl))
    try simp only [Act.put, List.setIfInBounds_toArray, List.set_cons_zero, List.set_cons_succ]
    refine takeA (i := 3) (v := ?_) rfl (fun _ _ _ h => h) (Or.inl ⟨by rfl, ?_⟩) hHeld ?_
    rotate_left
    · (intro wx hSw; obtain ⟨a0, a1, a2, a3⟩ := box4 hSw; go_simp; try (with_reducible rfl))
    try simp only [Act.put, List.setIfInBounds_toArray, List.set_cons_zero, List.set_cons_succ]
    refine takeA (i := 4) (v := ?_) rfl (fun _ _ _ h => h) (Or.inl ⟨by rfl, ?_⟩) hHeld ?_
    rotate_left
    · (intro wx hSw; obtain ⟨a0, a1, a2, a3⟩ := box4 hSw; go_simp; try (with_reducible rfl))
    try simp only [Act.put, List.setIfInBounds_toArray, List.set_cons_zero, List.set_cons_succ]
    refine oneT (i := 5) rfl (by kernel_rfl) (fun KK hK => ?_)
    go_simp
    refine (mal_any Y0).mono ?_
    rintro e Y1 ⟨N3, A3, c3, rfl, o3, b3⟩
    clear hHeld
    have r3 := o3.rd
    have hN3 := o3.len
    subst hN3
    have kc := kc.step b3
    have oo := oo.step b3
    have k2 := k2.step b3
    have HK := Lib.hid (HK.out.after (Kp.of_below b3 (FP gc gp A OA)) (fun k _ e => e))
    have hHeld := kc
    clear b3 o3
    refine hK.out _ _ (fun _ => hHeld) ?_
    clear hK KK
    try simp only [Act.put, List.setIfInBounds_toArray, List.set_cons_zero, List.set_cons_succ]
    have hml : malB.length ≤ 1000 := by decide +kernel
    have hbs : B ≤ Y1.heap.size := by have := HBC.out; have := kc.lt; omega
    refine oneT (i := 6) rfl (by kernel_rfl) (fun KK hK => ?_)
    refine step_appO _ rfl _ _ rfl B OA on oc lo rfl oo Y1.heap.size A3 malB.length c3 malB rfl r3 (by have := HON.out; omega) hbs ?_
    intro OA' oc' Y2 o6 g6 hA6
    clear hHeld
    have hk6 := Kp.of_row g6
    have hs2 := k2.lt
    have hO : ∀ k, obk OA' = some k → obk OA = some k ∨ k = Y1.heap.size := fun k hk => by rcases hA6 with e | e; exact Or.inl (e.symm.trans hk); rw [e] at hk; exact Or.inr (Option.some.inj hk).symm
    have hcl := kc.lt
    have n1 : obk OA' ≠ some gc := fun e => by rcases hO gc e with e | e; exact HNE.out e; omega
    have n2 : ∀ k, obk OA' = some k → k ≠ w.heap.size := fun k e e2 => by rcases hO k e with e | e; have := (HFP.out k (Or.inr (Or.inr (Or.inr e)))).2; omega; omega
    have n3 : (obk OA' = obk OA ∨ ∃ k, obk OA' = some k ∧ w.heap.size ≤ k) := by rcases hA6 with e | e; exact Or.inl e; exact Or.inr ⟨_, e, by omega⟩
    have kc := hk6.blk kc (fun e => HNE.out e.symm)
    have k2 := hk6.blk k2 (fun e => by have := (HFP.out _ (Or.inr (Or.inr (Or.inr e.symm)))).2; omega)
    have HK := Lib.hid (HK.out.after hk6 (fun k _ e => Or.inr (Or.inr (Or.inr e.symm))))
    have hHeld := kc
    clear hk6 g6 hA6 hO oo r3 hcl hs2 hbs
    refine hK.out _ _ (fun _ => hHeld) ?_
    clear hK KK
    try simp only [Act.put, List.setIfInBounds_toArray, List.set_cons_zero, List.set_cons_succ]
    refine oneT (i := 7) rfl (by kernel_rfl) (fun KK hK => ?_)
    go_simp
    refine hK.out _ _ (fun h => absurd h (by decide)) ?_
    clear hK KK
    try simp only [Act.put, List.setIfInBounds_toArray, List.set_cons_zero, List.set_cons_succ]
    refine oneT (i := 8) rfl (by kernel_rfl) (fun KK hK => ?_)
    go_simp
    refine hK.out _ _ (fun h => absurd h (by decide)) ?_
    clear hK KK
    try simp only [Act.put, List.setIfInBounds_toArray, List.set_cons_zero, List.set_cons_succ]
    have y2 := kc.frozen 2
    obtain ⟨u0, u1, u2, u3⟩ := box4 kc
    refine oneT (i := 9) rfl (by kernel_rfl) (fun KK hK => ?_)
    go_simp
    refine hK.out _ _ (fun h => absurd h (by decide)) ?_
    clear hK KK
    try simp only [Act.put, List.setIfInBounds_toArray, List.set_cons_zero, List.set_cons_succ]
    have gs := rdr_grown_set Y2 gc 2 (.slice OA' (on + malB.length) oc')
    have hks := Kp.of_grown gs
    refine doneT (by kernel_rfl) ?_ _
    refine NoPanic.normal ?_
    go_wp2_with fail
    go_meet
    exact ⟨OA', oc', kc.set_ 2 _, o6.kp hks (fun k e1 e2 => n1 (by rw [← e2]; exact e1)), n1, n2, n3, hks.blk k2 (fun e => by have := HGC.out; omega), HK.out.after hks (fun k _ e => Or.inl e)⟩
  case rest =>
    obtain ⟨OA', oc', kc, oo, n1, n2, n3, k2, hk⟩ := hcut
    have HK3 := Lib.hid hk
    clear hk HK
    have HCL := Lib.hid (cclose_any gc _ _ _ _ wc kc)
    go_wp2_with fail
    refine HCL.out.mono ?_
    rintro e w8 ⟨rfl, k8, g8⟩
    have hk8 := Kp.of_grown g8
    have oo := oo.kp hk8 (fun k e1 e2 => n1 (by rw [← e2]; exact e1))
    have k2 := hk8.blk k2 (fun e => by have := HGC.out; omega)
    have gz := grown_set12 w8 w.heap.size (.int .i64 0) (.bool false) (.bool false) (.int .i64 0) (.int .u32 0) (.slice none 0 0) (.slice none 0 0) (.int .u32 0) (.int .u32 0) (.int .u64 0) (.int .u64 0) (.int .u64 0)
    have hkz := Kp.of_grown gz
    have HQ := Lib.hid (show BadCQ B gc gp A OA on lo w _ _ from ⟨OA', oc', rfl, ⟨hkz.blk k8 (fun e => by have := HGC.out; omega), oo.kp hkz (fun k e1 e2 => n2 k e1 e2), HBC.out, n1⟩, (HK3.out.after hk8 (fun k _ e => Or.inl e)).after hkz (fun k hk e => absurd hk (by omega)), n3⟩)
    clear HCL kc oo k8 g8 hk8 gz hkz n1 n2
    obtain ⟨z0, z1, z2, z3, z4, z5, z6, z7, z8, z9, z10, z11⟩ := box12 k2
    have y0 := k2.frozen 0
    have y1 := k2.frozen 1
    have y2 := k2.frozen 2
    have y3 := k2.frozen 3
    have y4 := k2.frozen 4
    have y5 := k2.frozen 5
    have y6 := k2.frozen 6
    have y7 := k2.frozen 7
    have y8 := k2.frozen 8
    have y9 := k2.frozen 9
    have y10 := k2.frozen 10
    have y11 := k2.frozen 11
    have kf := blk_set12 k2 (.int .i64 0) (.bool false) (.bool false) (.int .i64 0) (.int .u32 0) (.slice none 0 0) (.slice none 0 0) (.int .u32 0) (.int .u32 0) (.int .u64 0) (.int .u64 0) (.int .u64 0)
    obtain ⟨t0, t1, t2, t3, t4, t5, t6, t7, t8, t9, t10, t11⟩ := box12 kf
    clear kf
    go_wp2_with fail
    refine bodyPost_ret (v := .tuple #[.agg #[.int .i64 0, .bool false, .bool false, .int .i64 0, .int .u32 0, .slice none 0 0, .slice none 0 0, .int .u32 0, .int .u32 0, .int .u64 0, .int .u64 0, .int .u64 0], .bool false]) (by simp [results, Try.results64, go_sem, t0, t1, t2, t3, t4, t5, t6, t7, t8, t9, t10, t11]) rfl ?_
    exact HQ.out
end Go.Proofs.Ytnghmgbmflcngaa

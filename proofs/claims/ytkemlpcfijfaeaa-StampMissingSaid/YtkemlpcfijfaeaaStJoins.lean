/- StampJoins: whatever sectors are joined as the document says, or refused. Conditions: none. -/
import Derived.Test.YtkemlpcfijfaeaaSpk
import Derived.Test.YtkemlpcfijfaeaaOpk
import Derived.Test.YtkemlpcfijfaeaaWak5
namespace Go.Proofs.Ytkemlpcfijfaeaa
set_option linter.unusedVariables false
open Go.ChangeShapes Go.WideShapes Go.ChangeAt Go.RowKit

def LawJ5 (w : World) (e : Ending) (w' : World) : Prop := e = .returned (.bool true) ∧ Below w.heap.size w w'
theorem owB_empty (w : World) (B : Nat) (hB : B ≤ w.heap.size) : OwB (w.alloc (.cells #[] 47)) B (some ⟨w.heap.size, 0, none⟩) 0 0 [] := Oz.empty w B _ 64 hB
/-- Joined by both. -/
def JBoth (L : List (List UInt8)) (n : Nat) : Prop :=
  (∀ A c w, RdB w w.heap.size A n c L → Calls Try.prog 12 #[.slice A n c] w (JoinOk (joinB L n) w)) ∧ (∀ A c w, RdB w w.heap.size A n c L → Calls Try.prog 13 #[.slice A n c] w (RJoinOk (joinB L n) w))
def JNone (L : List (List UInt8)) (n : Nat) : Prop :=
  (∀ A c w, RdB w w.heap.size A n c L → Calls Try.prog 12 #[.slice A n c] w (JoinNo w)) ∧ (∀ A c w, RdB w w.heap.size A n c L → Calls Try.prog 13 #[.slice A n c] w (RJoinNo w))
theorem join_yes (L : List (List UInt8)) (n : Nat) (h64 : ∀ x ∈ L, x.length = 64) (hl : L.length = n) (hn : n ≤ 1000) (h0 : n ≠ 0) (hg : ∀ j, j < n → GoodJ L j) (A : Option Addr) (c : Nat) (w : World) (r : RdB w w.heap.size A n c L) : Calls Try.prog 12 #[.slice A n c] w (JoinOk (joinB L n) w) := by
  refine (join_any L h64 A n c hn h0 w r).mono fun e w' h => ?_
  rcases h with ⟨_, h⟩ | ⟨⟨j, hj, hb⟩, _⟩
  · rwa [hl] at h
  · exact absurd (hg j (by omega)) hb
theorem join_no (L : List (List UInt8)) (n : Nat) (h64 : ∀ x ∈ L, x.length = 64) (hl : L.length = n) (hn : n ≤ 1000) (hg : n = 0 ∨ ∃ j, j < n ∧ ¬ GoodJ L j) (A : Option Addr) (c : Nat) (w : World) (r : RdB w w.heap.size A n c L) : Calls Try.prog 12 #[.slice A n c] w (JoinNo w) := by
  by_cases h0 : n = 0
  · subst h0; exact join_nil A c w
  · obtain ⟨j, hj, hb⟩ := hg.resolve_left h0
    refine (join_any L h64 A n c hn h0 w r).mono fun e w' h => ?_
    rcases h with ⟨h, _⟩ | ⟨_, h⟩
    · exact absurd (h j (by omega)) hb
    · exact h
theorem rjoin_yes (L : List (List UInt8)) (n : Nat) (h64 : ∀ x ∈ L, x.length = 64) (hl : L.length = n) (hn : n ≤ 1000) (h0 : n ≠ 0) (hg : ∀ j, j < n → GoodJ L j) (A : Option Addr) (c : Nat) (w : World) (r : RdB w w.heap.size A n c L) : Calls Try.prog 13 #[.slice A n c] w (RJoinOk (joinB L n) w) := by
  refine (rjoin_any L h64 A n c hn h0 w r).mono fun e w' h => ?_
  rcases h with ⟨_, h⟩ | ⟨⟨j, hj, hb⟩, _⟩
  · rwa [hl] at h
  · exact absurd (hg j (by omega)) hb
theorem rjoin_no (L : List (List UInt8)) (n : Nat) (h64 : ∀ x ∈ L, x.length = 64) (hl : L.length = n) (hn : n ≤ 1000) (hg : n = 0 ∨ ∃ j, j < n ∧ ¬ GoodJ L j) (A : Option Addr) (c : Nat) (w : World) (r : RdB w w.heap.size A n c L) : Calls Try.prog 13 #[.slice A n c] w (RJoinNo w) := by
  by_cases h0 : n = 0
  · subst h0; exact rjoin_nil A c w
  · obtain ⟨j, hj, hb⟩ := hg.resolve_left h0
    refine (rjoin_any L h64 A n c hn h0 w r).mono fun e w' h => ?_
    rcases h with ⟨h, _⟩ | ⟨_, h⟩
    · exact absurd (h j (by omega)) hb
    · exact h
set_option maxRecDepth 100000 in
set_option maxHeartbeats 1000000 in
theorem joins_big (A : Option Addr) (n c : Nat) (hn : 300 < n) (w : World) : Calls Try.prog 4 #[.slice A n c] w (LawJ5 w) := by
  have i1 : (300 : Int) < (n : Int) := by omega
  go_enter Try.func4, Try.ntmps4
  go_wp2_with fail
  refine (wakes05 _).mono ?_
  rintro e w1 ⟨rfl, b1⟩
  go_wp2_with fail
  go_ret
  exact ⟨rfl, b1⟩
set_option maxRecDepth 100000 in
set_option maxHeartbeats 1000000 in
theorem joins_yes (A : Option Addr) (n c : Nat) (L : List (List UInt8)) (hn : n ≤ 300) (w : World) (r : RdB w w.heap.size A n c L) (hJ : JBoth L n) : Calls Try.prog 4 #[.slice A n c] w (LawJ5 w) := by
  have i1 : (n : Int) ≤ 300 := by omega
  have b := Below.refl w.heap.size w
  have h1 := hJ.1
  have h2 := hJ.2
  unfold JoinOk at h1
  unfold RJoinOk at h2
  generalize joinB L n = l at h1 h2
  obtain ⟨N, hN⟩ : ∃ N, N = l.length := ⟨_, rfl⟩
  rw [← hN] at h1 h2
  have H1 := Lib.hid h1
  have H2 := Lib.hid h2
  clear h1 h2 hJ hN
  go_enter Try.func4, Try.ntmps4
  go_wp2_with fail
  refine (wakes05 _).mono ?_
  rintro e w1 ⟨rfl, b1⟩
  replace b := below_step b b1
  clear b1
  go_wp2_with (at_builtin; refine wpl_appA _ rfl _ _ rfl w1.heap.size (some ⟨w1.heap.size, 0, none⟩) 0 0 [] rfl (owB_empty w1 _ (Nat.le_refl _)) w.heap.size A n c L rfl (Rz.alloc (Rz.below r b) b.size _) (by omega) (by simp) ?_)
  intro A2 c2 w2 o2 b2
  replace b := below_step b (((Below.refl w1.heap.size w1).alloc (Nat.le_refl _) _).trans b2)
  clear b2
  replace o2 : OwB w2 w1.heap.size A2 n c2 L := by simpa using o2
  have h1 := H1.out A2 c2 w2 o2.rdB
  go_wp2_with fail
  refine h1.mono ?_
  rintro e w3 ⟨A3, c3, rfl, o3, b3⟩
  replace b := below_step b b3
  clear h1 o2 b3
  have h2 := H2.out A c w3 (r.step b)
  have r3 := o3.rd
  go_wp2_with fail
  refine h2.mono ?_
  rintro e w4 ⟨A4, c4, rfl, o4, b4⟩
  replace b := below_step b b4
  replace r3 := r3.step b4
  have r4 := o4.rd
  clear h2 o3 o4 b4
  have hs := same_any A3 A4 N c3 N c4 _ l l w4 r3 r4
  go_wp2_with fail
  refine hs.mono ?_
  rintro e w5 ⟨rfl, hq⟩
  have b5 := quiet_self hq
  clear hq hs
  replace b := below_step b b5
  rw [show eqB l l = true from decide_eq_true rfl]
  go_wp2_with fail
  go_ret
  exact ⟨rfl, b⟩
set_option maxRecDepth 100000 in
set_option maxHeartbeats 1000000 in
theorem joins_no (A : Option Addr) (n c : Nat) (L : List (List UInt8)) (hn : n ≤ 300) (w : World) (r : RdB w w.heap.size A n c L) (hJ : JNone L n) : Calls Try.prog 4 #[.slice A n c] w (LawJ5 w) := by
  have i1 : (n : Int) ≤ 300 := by omega
  have b := Below.refl w.heap.size w
  have h1 := hJ.1
  have h2 := hJ.2
  unfold JoinNo at h1
  unfold RJoinNo at h2
  have H1 := Lib.hid h1
  have H2 := Lib.hid h2
  clear h1 h2 hJ
  go_enter Try.func4, Try.ntmps4
  go_wp2_with fail
  refine (wakes05 _).mono ?_
  rintro e w1 ⟨rfl, b1⟩
  replace b := below_step b b1
  clear b1
  go_wp2_with (at_builtin; refine wpl_appA _ rfl _ _ rfl w1.heap.size (some ⟨w1.heap.size, 0, none⟩) 0 0 [] rfl (owB_empty w1 _ (Nat.le_refl _)) w.heap.size A n c L rfl (Rz.alloc (Rz.below r b) b.size _) (by omega) (by simp) ?_)
  intro A2 c2 w2 o2 b2
  replace b := below_step b (((Below.refl w1.heap.size w1).alloc (Nat.le_refl _) _).trans b2)
  clear b2
  replace o2 : OwB w2 w1.heap.size A2 n c2 L := by simpa using o2
  have h1 := H1.out A2 c2 w2 o2.rdB
  go_wp2_with fail
  refine h1.mono ?_
  rintro e w3 ⟨rfl, b3⟩
  replace b := below_step b b3
  clear h1 o2 b3
  have h2 := H2.out A c w3 (r.step b)
  go_wp2_with fail
  refine h2.mono ?_
  rintro e w4 ⟨rfl, b4⟩
  replace b := below_step b b4
  clear h2 b4
  go_wp2_with fail
  go_ret
  exact ⟨rfl, b⟩
theorem walk_stampJoins (A : Option Addr) (n c : Nat) (L : List (List UInt8)) (w : World) (r : RdB w w.heap.size A n c L ∧ ∀ x ∈ L, x.length = 64) (_ : True) :
    Calls Try.prog 4 #[.slice A n c] w fun e w' => e = .returned (.bool true) ∧ Below w.heap.size w w' := by
  obtain ⟨r, h64⟩ := r
  have hl := r.len h64
  by_cases hn : 300 < n
  · exact joins_big A n c hn w
  · by_cases h : n = 0 ∨ ∃ j, j < n ∧ ¬ GoodJ L j
    · exact joins_no A n c L (by omega) w r ⟨fun A c w r => join_no L n h64 hl (by omega) h A c w r, fun A c w r => rjoin_no L n h64 hl (by omega) h A c w r⟩
    · have h0 : n ≠ 0 := fun e => h (Or.inl e)
      have hg : ∀ j, j < n → GoodJ L j := fun j hj => Classical.byContradiction fun hb => h (Or.inr ⟨j, hj, hb⟩)
      exact joins_yes A n c L (by omega) w r ⟨fun A c w r => join_yes L n h64 hl (by omega) h0 hg A c w r, fun A c w r => rjoin_yes L n h64 hl (by omega) h0 hg A c w r⟩


set_option maxRecDepth 100000 in
theorem lifted_stampJoins (os : Os) (started : os.Started) (H : Type) (enc : TypeId × Value → H) :
    ReturnsInHanded {} Try.checked os 4 .any (Rows.stampJoinsSpec.pre6 enc Try.prog Try.f4 Rows.stampJoinsRow.domain false) (Rows.stampJoinsSpec.post enc Try.prog Try.f4 false true false false) := by
  refine returnsInHanded_of_change_sized (C := Try.checked) own started (by kernel_rfl) Try.func4
    (ChangeSpec.witness6 (enc := enc) (C := Try.checked) false ⟨#[], #[.slice none 0 0], []⟩ 8 (by kernel_rfl) (by kernel_rfl) (by kernel_rfl) (by kernel_rfl)) ?_
  intro W base args ds gs before hval0 hW hcnd hsz0 _
  have hval : ∀ (j : Nat) t v, Try.f4.params[j]? = some t → args[j]? = some v → Value.okWide Try.prog W .any base t v := hval0
  have hsz : (DataW.weightsEach Try.prog (Try.f4.params.toList ++ Rows.stampJoinsSpec.plain.varTypes Try.prog) (ds ++ gs)).all (· ≤ reachBytes) = true := hsz0
  have hW' := hW
  obtain ⟨p, q, hA0, hV, rfl, hfz, hnd⟩ := hW
  have hA : DataW.TrodAll enc Try.prog W 0 (fun _ => true) true Try.f4.params.toList args.toList ds p := hA0
  rw [Try.params4] at hA hval hsz
  obtain ⟨v0, vs0, d0, ds0, p0, q0, hargs, rfl, rfl, h0, t0⟩ := trodAll_cons hA
  obtain ⟨rfl, rfl, rfl⟩ := trodAll_nil t0
  obtain rfl : args = #[v0] := by cases args; simp_all
  obtain ⟨rfl, rfl⟩ := trodVars_none hV
  have k0 := h0
  obtain ⟨A0, n0, c0, L0, rfl, r0, y0⟩ := open_blocks (hval 0 30 v0 rfl rfl) h0
  have s0 := y0 (weights_of hsz (j := 0) rfl rfl)
  clear hA0 hval0
  refine (walk_stampJoins A0 n0 c0 L0 W r0 s0).mono fun e W' ⟨he, bel⟩ => ?_
  subst he
  exact ⟨_, rfl, _, _, _, [], _, [], hW', trodAll_mk1 (shut_bool Try.underlying4 _), (trodAll_cons_mk (Below.trod laidOut (by kernel_rfl) (of_decide_eq_true (by kernel_rfl)) k0 bel (trod_places k0)) trodAll_mk0), rfl, bel.frame _, fun h => by cases h⟩

theorem over_stampJoins : Rows.stampJoinsRow.holds Try.pinned (OpenSpec.ofChange Rows.stampJoinsSpec) :=
  OpenClaim.holds_of_wide 4 Try.f4 rfl rfl rfl rfl rfl rfl rfl ⟨rfl, rfl, rfl, rfl, rfl⟩ rfl rfl rfl rfl rfl (by kernel_rfl) Try.func4 (by kernel_rfl)
    (of_decide_eq_true (by kernel_rfl)) (by unfold Func.isWrapper; first | (rw [if_pos (by decide +kernel)]; kernel_rfl) | (rw [if_neg (by decide +kernel)]; exact ⟨rfl, rfl⟩))
    (fun os started H enc _ => lifted_stampJoins os started H enc)

/-- The statement. -/
theorem stampJoins_holds : Rows.StampJoinsSaid := over_stampJoins
#print axioms stampJoins_holds

end Go.Proofs.Ytkemlpcfijfaeaa

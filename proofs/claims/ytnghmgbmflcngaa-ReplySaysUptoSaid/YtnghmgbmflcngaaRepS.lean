/- ReplySays (arguments of bulk at most 1048576): whatever answer of whatever request is told in the document's frames, kept back, or refused. Conditions: the given statement's own bound. -/
import Derived.Test.YtnghmgbmflcngaaRepsw
import Derived.Test.YtnghmgbmflcngaaRrt
import Derived.Test.YtnghmgbmflcngaaUpa
import Derived.Test.YtnghmgbmflcngaaOpen
import Derived.Test.YtnghmgbmflcngaaClo
import Derived.JoinedCond
namespace Go.Proofs.Ytnghmgbmflcngaa
set_option linter.unusedVariables false
open Go.ChangeShapes Go.WideShapes Go.ChangeAt Go.RowKit

theorem sp_rb {p : SP} (hf : p.fits) (cb oq : Nat) : p.bytes cb oq = p.rbytes cb oq := by
  unfold SP.fits tooLong at hf
  unfold SP.bytes SP.rbytes
  rw [show p.lk.length % 65536 = p.lk.length from by omega, show p.lx.length % 256 = p.lx.length from by omega, show (p.lx.length + p.lk.length + p.lv.length) % 4294967296 = p.lx.length + p.lk.length + p.lv.length from by omega]
  simp only [List.append_assoc]
theorem spB_rb (cb oq : Nat) : ∀ Ps : List SP, (∀ p ∈ Ps, p.fits) → spB cb oq Ps = rspB cb oq Ps := by
  intro Ps h
  unfold spB rspB
  congr 1
  exact List.map_congr_left fun p hp => sp_rb (h p hp) cb oq
theorem says_fit (op : Int) (fu : Bool) (st : Int) (af ac an nk nv ns : Nat) (lk lv : List UInt8) (SL : List (ByteArray × ByteArray)) (hk : lk.length = nk) (hv : lv.length = nv) (hw : wrongA st op nv af ac an ns SL = false) (hok : okB op fu st nk nv = true) (hnk : nk ≤ 5000) :
    ∀ p ∈ allP op fu st af ac an lk lv SL, p.fits := by
  obtain ⟨h1, h2, h3⟩ := wrong_lens hw
  have tl : ∀ s : ByteArray, s.data.toList.length = s.size := fun s => by rw [Array.length_toList]; rfl
  intro p hp
  unfold allP at hp
  unfold okB at hok
  by_cases h0 : st = 0
  · rw [if_neg (show ¬ (st ≠ 0) from fun h => h h0)] at hp hok
    split at hp
    · rename_i hr
      rw [if_pos hr] at hok
      have hle := of_decide_eq_true hok
      rw [List.mem_singleton] at hp
      subst hp
      unfold SP.fits tooLong
      cases fu with
      | true =>
        rw [if_pos rfl] at hle
        simp only [if_true, length_highB]
        omega
      | false =>
        simp only [length_highB, Bool.false_eq_true, if_false, List.length_nil]
        simp only [Bool.false_eq_true, if_false] at hle
        omega
    · split at hp
      · rw [List.mem_singleton] at hp
        subst hp
        unfold SP.fits tooLong
        simp only [length_highB, List.length_nil]
        omega
      · split at hp
        · rw [List.mem_singleton] at hp
          subst hp
          unfold SP.fits tooLong
          simp only [List.length_nil]
          omega
        · split at hp
          · rcases List.mem_append.1 hp with hp | hp
            · obtain ⟨q, hq, rfl⟩ := List.mem_map.1 hp
              have := h3 q hq
              unfold SP.fits tooLong
              simp only [tl, List.length_nil]
              omega
            · rw [List.mem_singleton] at hp
              subst hp
              unfold SP.fits tooLong
              simp only [List.length_nil]
              omega
          · rw [List.mem_singleton] at hp
            subst hp
            unfold SP.fits tooLong
            simp only [List.length_nil]
            omega
  · rw [if_pos h0] at hp
    rw [List.mem_singleton] at hp
    subst hp
    have := text_len st
    unfold SP.fits tooLong
    simp only [tl, List.length_nil]
    omega
set_option maxHeartbeats 4000000 in
theorem walk_replySays (op : Int) (qt fu : Bool) (bad : Int) (oq fl ex cs dl ini : Nat) (KA : Option Addr) (nk ck : Nat) (lk : List UInt8) (VB : Option Addr) (nb cb2 : Nat) (lb : List UInt8) (st : Int) (VA : Option Addr) (nv cv : Nat) (lv : List UInt8) (af ac an : Nat) (SA : Option Addr) (ns sc : Nat) (SL : List (ByteArray × ByteArray)) (cl : Bool) (w : World)
    (hq : Rqs w w.heap.size op qt fu bad oq fl ex cs dl ini KA nk ck lk VB nb cb2 lb) (ha : Ans w w.heap.size st VA nv cv lv af ac an SA ns sc SL) {H : Type} {enc : TypeId × Value → H} {d0 d1 : DataW H} {p0 p1 : List MemPlace}
    (k0 : DataW.Trod enc Try.prog w 0 (fun _ => true) true 26 (reqV op qt fu bad oq (.slice KA nk ck) (.slice VB nb cb2) fl ex cs dl ini) d0 p0) (k1 : DataW.Trod enc Try.prog w 0 (fun _ => true) true 29 (ansV st (.slice VA nv cv) af ac an (.slice SA ns sc) cl) d1 p1)
    (hk : Rows.uptoBulk d0 + (Rows.uptoBulk d1 + 0) ≤ 1048576) :
    Calls Try.prog 3 #[reqV op qt fu bad oq (.slice KA nk ck) (.slice VB nb cb2) fl ex cs dl ini, ansV st (.slice VA nv cv) af ac an (.slice SA ns sc) cl] w fun e w' => e = .returned (.bool true) ∧ Below w.heap.size w w' := by
  obtain ⟨rK, -, hoq, -⟩ := hq
  obtain ⟨rV, ⟨rS, hsl, hms⟩, haf, hac, han, -⟩ := ha
  have hu0 := ub_req k0
  have hu1 := ub_ans k1 ⟨rS, hsl, hms⟩
  clear k0 k1 hms
  have hnv : nv ≤ 1048576 := by have := hu1.1; omega
  have hst : ∀ p ∈ SL, p.1.size ≤ 2000000 ∧ p.2.size ≤ 2000000 := fun p hp => by have := hu1.2 p hp; omega
  clear hu0 hu1 hk
  by_cases hg : 5000 < nk ∨ 40 < ns
  · exact says_g op qt fu bad oq fl ex cs dl ini KA nk ck VB nb cb2 st VA nv cv af ac an SA ns sc cl w hg
  have hns : ns ≤ 40 := by omega
  have hnk : nk ≤ 5000 := by omega
  have hcop : ∀ W, Below w.heap.size w W → Calls Try.prog 23 #[ansV st (.slice VA nv cv) af ac an (.slice SA ns sc) cl] W (fun e W' => ∃ A1 c1 A2 c2, e = .returned (ansV st (.slice A1 nv c1) af ac an (.slice A2 ns c2) cl) ∧ (Rd W' W'.heap.size A1 nv c1 lv ∧ Rz W' W'.heap.size 2 A2 ns c2 (SL.map stCells).flatten) ∧ Below W.heap.size W W') :=
    fun W b => (copied21_any st VA nv cv lv af ac an SA ns sc SL cl W ((rV.below b).more b.size) ((rS.below b).more b.size) (by omega) (by omega)).mono (fun e W' h => by
      obtain ⟨A1, c1, A2, c2, he, o1, o2, bb⟩ := h
      exact ⟨A1, c1, A2, c2, he, ⟨o1.rd, o2.rz⟩, bb⟩)
  have hof : ∀ W A1 c1 A2 c2, Below w.heap.size w W → Rd W W.heap.size A1 nv c1 lv ∧ Rz W W.heap.size 2 A2 ns c2 (SL.map stCells).flatten → Calls Try.prog 22 #[reqV op qt fu bad oq (.slice KA nk ck) (.slice VB nb cb2) fl ex cs dl ini, ansV st (.slice A1 nv c1) af ac an (.slice A2 ns c2) cl] W (fun e W' => ∃ (N : Nat) (A : Option Addr) (c : Nat), e = .returned (.tuple #[.slice A N c, .int .i64 (ofR op qt fu oq st nv af ac an ns lk lv SL).2]) ∧ Rd W' W'.heap.size A N c (ofR op qt fu oq st nv af ac an ns lk lv SL).1 ∧ Below W.heap.size W W') :=
    fun W A1 c1 A2 c2 b r => (of_any op qt fu bad oq KA nk ck lk (.slice VB nb cb2) fl ex cs dl ini st A1 nv c1 lv af ac an A2 ns c2 SL cl W ((rK.below b).more b.size) r.1 r.2 hsl (by omega) haf hac han (by omega) hoq).mono (fun e W' h => by
      obtain ⟨N, A, c, he, o1, bb⟩ := h
      exact ⟨N, A, c, he, o1.rd, bb⟩)
  have hck : ∀ W A1 c1 A2 c2, Below w.heap.size w W → Rd W W.heap.size A1 nv c1 lv ∧ Rz W W.heap.size 2 A2 ns c2 (SL.map stCells).flatten → Calls Try.prog 25 #[reqV op qt fu bad oq (.slice KA nk ck) (.slice VB nb cb2) fl ex cs dl ini, ansV st (.slice A1 nv c1) af ac an (.slice A2 ns c2) cl] W (CkQ (wrongA st op nv af ac an ns SL) W) :=
    fun W A1 c1 A2 c2 b r => check_any op qt fu bad oq (.slice KA nk ck) (.slice VB nb cb2) fl ex cs dl ini st A1 nv c1 af ac an A2 ns c2 cl SL W r.2 (by omega) hsl
  have hsi : ∀ W A1 c1 A2 c2, Calls Try.prog 26 #[reqV op qt fu bad oq (.slice KA nk ck) (.slice VB nb cb2) fl ex cs dl ini, ansV st (.slice A1 nv c1) af ac an (.slice A2 ns c2) cl] W (BoxQ' (.bool (silB op qt st)) W) :=
    fun W A1 c1 A2 c2 => silent_any op qt fu bad oq (.slice KA nk ck) (.slice VB nb cb2) fl ex cs dl ini st A1 nv c1 af ac an A2 ns c2 cl W
  have hrs : ∀ W, Calls Try.prog 27 #[reqV op qt fu bad oq (.slice KA nk ck) (.slice VB nb cb2) fl ex cs dl ini, ansV st (.slice VA nv cv) af ac an (.slice SA ns sc) cl] W (BoxQ' (.bool (silB op qt st)) W) :=
    fun W => rsilent_any op qt fu bad oq (.slice KA nk ck) (.slice VB nb cb2) fl ex cs dl ini st VA nv cv af ac an SA ns sc cl W
  have hrt : ∀ W, Below w.heap.size w W → Calls Try.prog 24 #[reqV op qt fu bad oq (.slice KA nk ck) (.slice VB nb cb2) fl ex cs dl ini, ansV st (.slice VA nv cv) af ac an (.slice SA ns sc) cl] W (BoxQ' (.bool (!wrongA st op nv af ac an ns SL)) W) :=
    fun W b => rright21_any op qt fu bad oq (.slice KA nk ck) (.slice VB nb cb2) fl ex cs dl ini st VA nv cv af ac an SA ns sc cl SL W ((rS.below b).more b.size) (by omega) hsl
  have hrb : ∀ W, Below w.heap.size w W → Calls Try.prog 28 #[reqV op qt fu bad oq (.slice KA nk ck) (.slice VB nb cb2) fl ex cs dl ini, ansV st (.slice VA nv cv) af ac an (.slice SA ns sc) cl] W (RbQ (rspB (codeB op qt fu) oq (allP op fu st af ac an lk lv SL)) (okB op fu st nk nv) W) :=
    fun W b => rbytes21_any op qt fu bad oq hoq KA nk ck lk (.slice VB nb cb2) fl ex cs dl ini st VA nv cv lv af ac an SA ns sc SL cl W ((rK.below b).more b.size) ((rV.below b).more b.size) ((rS.below b).more b.size) hsl (by omega) (by omega) haf hac han (by omega) hst
  unfold reqV ansV at *
  cases hw : wrongA st op nv af ac an ns SL with
  | true =>
    rw [hw] at hck hrt
    exact says_w op qt fu bad oq fl ex cs dl ini KA nk ck VB nb cb2 st VA nv cv af ac an SA ns sc cl w lv SL _ _ _ _ _ ⟨hnk, hns⟩ hcop hof hck hsi hrs hrt hrb (by unfold ofR; rw [if_pos hw]) (by unfold ofR; rw [if_pos hw])
  | false =>
    rw [hw] at hck hrt
    have hwn : ¬ (wrongA st op nv af ac an ns SL = true) := by rw [hw]; decide
    cases hs : silB op qt st with
    | true => exact says_s op qt fu bad oq fl ex cs dl ini KA nk ck VB nb cb2 st VA nv cv af ac an SA ns sc cl w lv SL _ _ _ _ _ ⟨hnk, hns⟩ hcop hof hck hsi hrs hrt hrb (by unfold ofR; rw [if_neg hwn, if_pos hs]) (by unfold ofR; rw [if_neg hwn, if_pos hs]) hs
    | false =>
      have hsn : ¬ (silB op qt st = true) := by rw [hs]; decide
      cases ho : okB op fu st nk nv with
      | false => exact says_n op qt fu bad oq fl ex cs dl ini KA nk ck VB nb cb2 st VA nv cv af ac an SA ns sc cl w lv SL _ _ _ _ _ ⟨hnk, hns⟩ hcop hof hck hsi hrs hrt hrb hs ho
      | true =>
        have hf := says_fit op fu st af ac an nk nv ns lk lv SL rK.len rV.len hw ho hnk
        exact says_k op qt fu bad oq fl ex cs dl ini KA nk ck VB nb cb2 st VA nv cv af ac an SA ns sc cl w lv SL _ _ _ _ _ ⟨hnk, hns⟩ hcop hof hck hsi hrs hrt hrb hs ho (by unfold ofR; rw [if_neg hwn, if_neg hsn, if_pos hf]) (by unfold ofR; rw [if_neg hwn, if_neg hsn, if_pos hf]; exact spB_rb _ _ _ hf)


set_option maxRecDepth 100000 in
theorem lifted_replySays (os : Os) (started : os.Started) (H : Type) (enc : TypeId × Value → H) (F : Stop.Interp) :
    ReturnsInHanded {} Try.checked os 3 .any ((Rows.OpenSpec.upto Rows.replySaysSpec).pre6 enc Try.prog Try.f3 Rows.replySaysUptoRow.domain false) (((Rows.OpenSpec.upto Rows.replySaysSpec).at F).post enc Try.prog Try.f3 false true false false) := by
  refine returnsInHanded_of_cond (C := Try.checked) (s := Rows.OpenSpec.upto Rows.replySaysSpec) (k := Rows.uptoSmall) rfl own started (by kernel_rfl) Try.func3
    (OpenSpec.witness (enc := enc) (C := Try.checked) (s := Rows.OpenSpec.upto Rows.replySaysSpec) (k := Rows.uptoSmall) rfl false ⟨#[], #[.agg #[.int .i64 0, .bool false, .bool false, .int .i64 0, .int .u32 0, .slice none 0 0, .slice none 0 0, .int .u32 0, .int .u32 0, .int .u64 0, .int .u64 0, .int .u64 0], .agg #[.int .i64 0, .slice none 0 0, .int .u32 0, .int .u64 0, .int .u64 0, .slice none 0 0, .bool false]], []⟩ 8 (by kernel_rfl) (by kernel_rfl) (by kernel_rfl)
      (x := ([.agg [.lit (.int .i64 0), .lit (.bool false), .lit (.bool false), .lit (.int .i64 0), .lit (.int .u32 0), .nil, .nil, .lit (.int .u32 0), .lit (.int .u32 0), .lit (.int .u64 0), .lit (.int .u64 0), .lit (.int .u64 0)], .agg [.lit (.int .i64 0), .nil, .lit (.int .u32 0), .lit (.int .u64 0), .lit (.int .u64 0), .nil, .lit (.bool false)]], [], [])) (by kernel_rfl) rfl (by kernel_rfl)) ?_
  intro W base args ds gs before hval0 hW hcnd hk0 hsz0
  have hval : ∀ (j : Nat) t v, Try.f3.params[j]? = some t → args[j]? = some v → Value.okWide Try.prog W .any base t v := hval0
  have hkb : Rows.uptoBulkAll (ds ++ gs) ≤ 1048576 := of_decide_eq_true hk0
  show Calls Try.prog 3 args W fun e W' => ∃ v, e = .returned v ∧ Rows.replySaysSpec.post enc Try.prog Try.f3 false true false false W args v W'
  have hW' := hW
  obtain ⟨p, q, hA0, hV, rfl, hfz, hnd⟩ := hW
  have hA : DataW.TrodAll enc Try.prog W 0 (fun _ => true) true Try.f3.params.toList args.toList ds p := hA0
  rw [Try.params3] at hA hval
  obtain ⟨v0, vs0, d0, ds0, p0, q0, hargs, rfl, rfl, h0, t0⟩ := trodAll_cons hA
  obtain ⟨v1, vs1, d1, ds1, p1, q1, rfl, rfl, rfl, h1, t1⟩ := trodAll_cons t0
  obtain ⟨rfl, rfl, rfl⟩ := trodAll_nil t1
  obtain rfl : args = #[v0, v1] := by cases args; simp_all
  obtain ⟨rfl, rfl⟩ := trodVars_none hV
  simp only [List.append_nil, Rows.uptoBulkAll] at hkb
  have k0 := h0
  obtain ⟨op0, qt0, fu0, bd0, oq0, fl0, ex0, cs0, dl0, ni0, K0, nk0, ck0, lk0, V0, nv0, cv0, lv0, rfl, r0, y0⟩ := open_req (hval 0 26 v0 rfl rfl) h0
  have k1 := h1
  obtain ⟨st1, VA1, nv1, cv1, lv1, af1, ac1, an1, SA1, ns1, sc1, SL1, cl1, rfl, r1, y1⟩ := open_ans (hval 1 29 v1 rfl rfl) h1
  clear hA0 hval0
  refine (walk_replySays op0 qt0 fu0 bd0 oq0 fl0 ex0 cs0 dl0 ni0 K0 nk0 ck0 lk0 V0 nv0 cv0 lv0 st1 VA1 nv1 cv1 lv1 af1 ac1 an1 SA1 ns1 sc1 SL1 cl1 W r0 r1 k0 k1 (by omega)).mono fun e W' ⟨he, bel⟩ => ?_
  subst he
  exact ⟨_, rfl, _, _, _, [], _, [], hW', trodAll_mk1 (shut_bool Try.underlying4 _), (trodAll_cons_mk (Below.trod laidOut (by kernel_rfl) (of_decide_eq_true (by kernel_rfl)) k0 bel (trod_places k0)) (trodAll_cons_mk (Below.trod laidOut (by kernel_rfl) (of_decide_eq_true (by kernel_rfl)) k1 bel (trod_places k1)) trodAll_mk0)), rfl, bel.frame _, fun h => by cases h⟩

theorem closed_replySays : joinedFacts Try.pinned.checked.prog 3 Try.f3 (Rows.OpenSpec.upto Rows.replySaysSpec).bare Rows.replySaysUptoRow = true := by
  unfold joinedFacts
  rw [clo_heard, clo_may, clo_lifts, clo_make]
  kernel_rfl
theorem over_replySays : Rows.replySaysUptoRow.holds Try.pinned (Rows.OpenSpec.upto Rows.replySaysSpec) :=
  OpenClaim.holds_of_cond 3 Try.f3 rfl rfl rfl rfl rfl rfl rfl ⟨rfl, rfl, rfl, rfl, rfl⟩ rfl rfl rfl rfl rfl (by kernel_rfl) Try.func3 closed_replySays
    (of_decide_eq_true (by kernel_rfl)) (by unfold Func.isWrapper; first | (rw [if_pos (by decide +kernel)]; kernel_rfl) | (rw [if_neg (by decide +kernel)]; exact ⟨rfl, rfl⟩))
    (fun os started H enc _ F => lifted_replySays os started H enc F)

/-- The statement. -/
theorem replySaysUpto_holds : Rows.ReplySaysUptoSaid := over_replySays
#print axioms replySaysUpto_holds

end Go.Proofs.Ytnghmgbmflcngaa

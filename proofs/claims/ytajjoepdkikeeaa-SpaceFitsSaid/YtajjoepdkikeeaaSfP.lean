/- space.Fits. Conditions: typed in each theorem. -/
import Derived.Test.YtajjoepdkikeeaaSfV
import Derived.RangeFuncFrom
import Derived.Deep.CutBlock
import Derived.Deep.DeepCutAuto
import Derived.RangeFuncLeaves
import Derived.Maps.Own
import Derived.Maps.OwnIn
import Derived.StringKeys
namespace Go.Proofs.Ytajjoepdkikeeaa
set_option linter.unusedVariables false
open Go.RowKit Go.Maps Go.Sort Go.Shelf

def fitL (its : List IT) : List KV := its.map (fun t => (t.lk, chI t.lk.length t.lv.length))
def itOk (t : IT) : Bool := rightI t.sq t.lk.length t.lv.length
def planOk (s n k p c : Int) : Bool := decide (4 ≤ s ∧ s ≤ 16 ∧ 24 ≤ n ∧ n ≤ 64 ∧ 1 ≤ k ∧ k ≤ 1024 ∧ 1 ≤ p ∧ p ≤ 256 ∧ 1 ≤ c ∧ c ≤ 4)
/-- What Fits answers. -/
def fitsR (s n k p c : Int) (its : List IT) : Bool × Int := if planOk s n k p c = false then (false, 2) else if its.all itOk = false then (false, 230) else (decide ((sumL (lastOcc (fitL its)) : Int) ≤ (s - 4) * (n - 17)) && decide (((lastOcc (fitL its)).length : Int) ≤ k), 0)
def FitQ (r : Bool × Int) (w : World) (e : Ending) (w' : World) : Prop := e = .returned (.tuple #[.bool r.1, .int .i64 r.2]) ∧ RowKit.Below w.heap.size w w'
theorem fitsR_plan {s n k p c : Int} (its : List IT) (h : ¬ (4 ≤ s ∧ s ≤ 16 ∧ 24 ≤ n ∧ n ≤ 64 ∧ 1 ≤ k ∧ k ≤ 1024 ∧ 1 ≤ p ∧ p ≤ 256 ∧ 1 ≤ c ∧ c ≤ 4)) : fitsR s n k p c its = (false, 2) := by
  unfold fitsR planOk
  rw [decide_eq_false h, if_pos rfl]
theorem fitsR_bad {s n k p c : Int} {its : List IT} (h : 4 ≤ s ∧ s ≤ 16 ∧ 24 ≤ n ∧ n ≤ 64 ∧ 1 ≤ k ∧ k ≤ 1024 ∧ 1 ≤ p ∧ p ≤ 256 ∧ 1 ≤ c ∧ c ≤ 4) {j : Nat} {t : IT} (ht : its[j]? = some t) (hb : itOk t = false) : fitsR s n k p c its = (false, 230) := by
  unfold fitsR planOk
  have : its.all itOk = false := List.all_eq_false.2 ⟨t, List.mem_of_getElem? ht, by rw [hb]; decide⟩
  rw [decide_eq_true h, if_neg (by decide), this, if_pos rfl]
theorem fitsR_ok {s n k p c : Int} {its : List IT} (h : 4 ≤ s ∧ s ≤ 16 ∧ 24 ≤ n ∧ n ≤ 64 ∧ 1 ≤ k ∧ k ≤ 1024 ∧ 1 ≤ p ∧ p ≤ 256 ∧ 1 ≤ c ∧ c ≤ 4) (ha : its.all itOk = true) : fitsR s n k p c its = (decide ((sumL (lastOcc (fitL its)) : Int) ≤ (s - 4) * (n - 17)) && decide (((lastOcc (fitL its)).length : Int) ≤ k), 0) := by
  unfold fitsR planOk
  rw [decide_eq_true h, if_neg (by decide), ha, if_neg (by decide)]
theorem fitL_take {its : List IT} {j : Nat} {t : IT} (h : its[j]? = some t) : fitL (its.take (j + 1)) = fitL (its.take j) ++ [(t.lk, chI t.lk.length t.lv.length)] := by
  unfold fitL
  rw [List.take_add_one, h, List.map_append]
  rfl
theorem chI_le {sq k v : Nat} (h : rightI sq k v = true) : chI k v ≤ 17 := by
  unfold rightI at h
  have := of_decide_eq_true h
  unfold chI
  omega
theorem fit_sum {its : List IT} (h : its.all itOk = true) (hl : its.length ≤ 200) : sumL (lastOcc (fitL its)) ≤ 3400 ∧ (lastOcc (fitL its)).length ≤ 200 := by
  have := sumL_le (m := 17) (fitL its) (fun q hq => by
    unfold fitL at hq
    obtain ⟨t, ht, rfl⟩ := List.mem_map.1 hq
    exact chI_le (List.all_eq_true.1 h t ht))
  have e : (fitL its).length = its.length := by unfold fitL; rw [List.length_map]
  omega
theorem run_strI {w : World} {B : Nat} {A : Option Addr} {n c : Nat} {l : List UInt8} (h : Rd w B A n c l) :
    (convert 33 9 (.slice A n c)).run Try.prog w = .ok (.string ⟨l.toArray⟩) w := by
  by_cases hn : 0 < n
  · obtain ⟨ad, x, rfl, -, -, -⟩ := h.at_ hn
    have hl := h.len
    subst hl
    refine run_convert_bytes_back w 33 9 5 ad c l Try.underlying33 Try.underlying5 Try.underlying9 fun j hj => ?_
    have := h.2.2.2.2.2 ad j (cb l[j]) rfl (by rw [cbs_get?, List.getElem?_eq_getElem hj]; rfl)
    exact this
  · obtain rfl : n = 0 := by omega
    have hl : l = [] := List.eq_nil_of_length_eq_zero h.len
    subst hl
    cases A with
    | none =>
      obtain rfl : c = 0 := h.2.2.2.1 rfl
      rfl
    | some ad => exact run_convert_bytes_back w 33 9 5 ad c [] Try.underlying33 Try.underlying5 Try.underlying9 fun j hj => by simp at hj
theorem bodyPostM_ret {F : Fence} {n : Nat} {P : Program} {fn : Func} {R : Ending → World → Prop} {a : Act} {w : World} {v : Value} (hr : (results fn a.tmps).run P w = .ok v w) (hd : a.defers = []) (hR : R (.returned v) w) : bodyPostM F n P fn R .ret a w := by
  show LeavesInM F n P fn a.tmps R a.defers .returning w
  rw [hd]
  exact ⟨v, hr, hR⟩
theorem own_below25 {H : Type} {P : Program} {kt : TypeId} {R : Value → Option (DataW H × List MemPlace)} {W W' : World} {b nn : Nat} {D : DataW H} (h : W.ownsMap P kt R b nn D) (bl : RowKit.Below W.heap.size W W') : W'.ownsMap P kt R b nn D := by
  have hbl := h.lt
  obtain ⟨es, clock, hb, Ft, hs, hD⟩ := h
  exact ⟨es, clock, (bl.block b hbl).trans hb, Ft, hs, hD⟩
theorem blk_from {W W' : World} {g B : Nat} {cs : Array Value} {T : TypeId} {row : Option Nat} (h : Blk W g cs T) (hlt : g < B) (hg : W.grownBy W' row) (hr : ∀ r, row = some r → B ≤ r ∧ ∃ o : Obj, W.heap[r]? = some o ∧ o.isCells = false) : Blk W' g cs T := (hg.block g h.lt (fun e => by have := (hr g e.symm).1; omega)).trans h
theorem map_from {H : Type} {P : Program} {kt : TypeId} {R : Value → Option (DataW H × List MemPlace)} {W W' : World} {b nn B : Nat} {D : DataW H} {row : Option Nat} (h : W.ownsMap P kt R b nn D) (hlt : b < B) (hg : W.grownBy W' row) (hr : ∀ r, row = some r → B ≤ r ∧ ∃ o : Obj, W.heap[r]? = some o ∧ o.isCells = false) : W'.ownsMap P kt R b nn D := h.kept hg (fun e => by have := (hr b e.symm).1; omega)
/-- What holds between two rounds of the sum. -/
def SumI (PCS : Array Value) (gs bm m : Nat) (D : DataW Unit) (w : World) (pre : List Int) (W : World) : Prop := Blk W gs #[.int .i64 (sumW25 pre)] 3 ∧ Blk W w.heap.size PCS 23 ∧ W.ownsMap Try.prog 9 (plainElem Try.prog 3) bm m D ∧ RowKit.Below w.heap.size w W
theorem sumI_own {PCS : Array Value} {gs bm m B : Nat} {D : DataW Unit} {w : World} (h1 : gs < B) (h2 : w.heap.size < B) (h3 : bm < B) : OwnFrom B (SumI PCS gs bm m D w) := fun s W W' row h hg hr => ⟨blk_from h.1 h1 hg hr, blk_from h.2.1 h2 hg hr, map_from h.2.2.1 h3 hg hr, h.2.2.2.grown hg h.2.2.2.size (fun k e => Nat.le_trans (Nat.le_of_lt h2) (hr k e).1)⟩
theorem grown_set25 (w : World) (g i : Nat) (v : Value) : w.grownBy (w.setCell ⟨g, i, none⟩ v) (some g) :=
  ⟨rfl, rfl, rfl, by simp, fun k _ hk => heap_setCell_other w ⟨g, i, none⟩ k v (fun e => hk (by simp [e]))⟩
theorem sumI_put {PCS : Array Value} {gs bm m : Nat} {D : DataW Unit} {w W : World} {pre : List Int} {x : Int} (hs : Blk W gs #[.int .i64 (sumW25 pre)] 3) (hp : Blk W w.heap.size PCS 23) (ho : W.ownsMap Try.prog 9 (plainElem Try.prog 3) bm m D) (hb : RowKit.Below w.heap.size w W) (h1 : w.heap.size < gs) (h2 : bm < gs) : SumI PCS gs bm m D w (pre ++ [x]) (W.setCell ⟨gs, 0, none⟩ (.int .i64 (sumW25 (pre ++ [x])))) := by
  have hg := grown_set25 W gs 0 (.int .i64 (sumW25 (pre ++ [x])))
  exact ⟨hs.set_ 0 _, (hg.block _ hp.lt (fun e => by have := Option.some.inj e; omega)).trans hp, ho.kept hg (fun e => by have := Option.some.inj e; omega), hb.grown hg hb.size (fun k e => by cases e; omega)⟩
theorem bodyPostM_ret1 {F : Fence} {n D : Nat} {P : Program} {fn : Func} {R : Ending → World → Prop} {a : Act} {w : World} {v : Value} (hr : (results fn a.tmps).run P (w.putObj D (.deferred none)) = .ok v (w.putObj D (.deferred none))) (hd : a.defers = [{ target := .collected D, args := #[] }]) (hK : w.heap[D]? = some (.deferred (some []))) (hR : R (.returned v) (w.putObj D (.deferred none))) : bodyPostM F n P fn R .ret a w := by
  show LeavesInM F n P fn a.tmps R a.defers .returning w
  rw [hd]
  exact ⟨by simp, .inl ⟨_, _, rfl, run_takeDeferred hK, v, hr, hR⟩⟩
/-- The loop that fills the map. -/
def FillR (PCS : Array Value) (bm j : Nat) (its : List IT) (w wx : World) : Prop := ∃ D : DataW Unit, Rep D (fitL (its.take j)) ∧ wx.ownsMap Try.prog 9 (plainElem Try.prog 3) bm j D ∧ w.heap.size < bm ∧ (its.take j).all itOk = true ∧ Blk wx w.heap.size PCS 23 ∧ RowKit.Below w.heap.size w wx
theorem wf_ch {x : Nat} (h : x ≤ 17) : (Lit.int .i64 (x : Nat)).wf = true := by
  have : ∀ y : Fin 18, (Lit.int .i64 ((y.val : Nat) : Int)).wf = true := by decide
  exact this ⟨x, by omega⟩
set_option maxRecDepth 100000 in
set_option maxHeartbeats 4000000 in
theorem fits_any (s n k p c : Int) (hk : in64 k) (A : Option Addr) (m cc : Nat) (its : List IT) (w : World) (h : RowI w w.heap.size A m cc its) (hm : m ≤ 200) :
    Calls Try.prog 5 #[planV s n k p c, .slice A m cc] w (FitQ (fitsR s n k p c its) w) := by
  unfold planV
  have k1 := Blk.new w #[.int .i64 s, .int .i64 n, .int .i64 k, .int .i64 p, .int .i64 c] 23
  have b := below_a1' (RowKit.Below.refl w.heap.size w) (.cells #[.int .i64 s, .int .i64 n, .int .i64 k, .int .i64 p, .int .i64 c] 23)
  have HI := Lib.hid h
  have HM := Lib.hid hm
  obtain ⟨r, hr⟩ : ∃ r, r = fitsR s n k p c its := ⟨_, rfl⟩
  rw [← hr]
  have HR := Lib.hid hr
  clear hr h hm
  have hmm := @run_makeMap Try.prog
  refine (callsIn_wide (n := 3)).1 ?_
  refine callsIn_of_wp_marks Try.func5 rfl trivial ?_ rfl
  simp only [Try.ntmps5, List.size_toArray, List.length_cons, List.length_nil, Nat.reduceAdd, Nat.reduceSub, Array.replicate_succ, Array.replicate_zero, List.push_toArray, List.append_toArray, List.nil_append, List.cons_append]
  refine wpIn_wide.2 ?_
  go_upto_region 1 with fail
  generalize w.alloc (.cells #[.int .i64 s, .int .i64 n, .int .i64 k, .int .i64 p, .int .i64 c] 23) = W0 at k1 b ⊢
  obtain ⟨q0, q1, q2, q3, q4⟩ := box5 k1
  go_wp2_with fail
  refine (bound_any s n W0).mono ?_
  rintro e w1 ⟨rfl, b1⟩
  clear q0 q1 q2 q3 q4
  replace k1 := k1.step b1
  replace b := below_step b b1
  clear b1
  obtain ⟨q0, q1, q2, q3, q4⟩ := box5 k1
  by_cases hs : sizedB s n = true
  · rw [bndV_yes hs]
    have hs' : 4 ≤ s ∧ s ≤ 16 ∧ 24 ≤ n ∧ n ≤ 64 := by unfold sizedB at hs; exact of_decide_eq_true hs
    clear hs
    by_cases c0 : k < 1
    · have HX := Lib.hid (fitsR_plan its (s := s) (n := n) (k := k) (p := p) (c := c) (by omega))
      have e0 := eq_true c0
      clear hs' c0
      go_wp2_with fail
      refine bodyPostM_ret (results_tmp2 rfl _ _ _) rfl ?_
      exact ⟨by rw [HR.out, HX.out]; rfl, b⟩
    have e0 := eq_false c0
    by_cases c1 : (1024 : Int) < k
    · have HX := Lib.hid (fitsR_plan its (s := s) (n := n) (k := k) (p := p) (c := c) (by omega))
      have e1 := eq_true c1
      clear hs' c0 c1
      go_wp2_with fail
      refine bodyPostM_ret (results_tmp2 rfl _ _ _) rfl ?_
      exact ⟨by rw [HR.out, HX.out]; rfl, b⟩
    have e1 := eq_false c1
    by_cases c2 : p < 1
    · have HX := Lib.hid (fitsR_plan its (s := s) (n := n) (k := k) (p := p) (c := c) (by omega))
      have e2 := eq_true c2
      clear hs' c0 c1 c2
      go_wp2_with fail
      refine bodyPostM_ret (results_tmp2 rfl _ _ _) rfl ?_
      exact ⟨by rw [HR.out, HX.out]; rfl, b⟩
    have e2 := eq_false c2
    by_cases c3 : (256 : Int) < p
    · have HX := Lib.hid (fitsR_plan its (s := s) (n := n) (k := k) (p := p) (c := c) (by omega))
      have e3 := eq_true c3
      clear hs' c0 c1 c2 c3
      go_wp2_with fail
      refine bodyPostM_ret (results_tmp2 rfl _ _ _) rfl ?_
      exact ⟨by rw [HR.out, HX.out]; rfl, b⟩
    have e3 := eq_false c3
    by_cases c4 : c < 1
    · have HX := Lib.hid (fitsR_plan its (s := s) (n := n) (k := k) (p := p) (c := c) (by omega))
      have e4 := eq_true c4
      clear hs' c0 c1 c2 c3 c4
      go_wp2_with fail
      refine bodyPostM_ret (results_tmp2 rfl _ _ _) rfl ?_
      exact ⟨by rw [HR.out, HX.out]; rfl, b⟩
    have e4 := eq_false c4
    by_cases c5 : (4 : Int) < c
    · have HX := Lib.hid (fitsR_plan its (s := s) (n := n) (k := k) (p := p) (c := c) (by omega))
      have e5 := eq_true c5
      clear hs' c0 c1 c2 c3 c4 c5
      go_wp2_with fail
      refine bodyPostM_ret (results_tmp2 rfl _ _ _) rfl ?_
      exact ⟨by rw [HR.out, HX.out]; rfl, b⟩
    have e5 := eq_false c5
    have hpl : 4 ≤ s ∧ s ≤ 16 ∧ 24 ≤ n ∧ n ≤ 64 ∧ 1 ≤ k ∧ k ≤ 1024 ∧ 1 ≤ p ∧ p ≤ 256 ∧ 1 ≤ c ∧ c ≤ 4 := by omega
    have HPL := Lib.hid hpl
    clear hpl hs' c0 c1 c2 c3 c4 c5
    go_upto_region 5 with fail
    clear q0 q1 q2 q3 q4
    clear e0 e1 e2 e3 e4 e5
    have hown := World.ownsMap_made w1 Try.prog 9 (plainElem (H := Unit) Try.prog 3)
    have ba := below_a1' (RowKit.Below.refl w1.heap.size w1) (.map #[] 0)
    have hbm := k1.lt
    replace k1 := k1.step ba
    replace b := below_step b ba
    clear ba
    generalize w1.alloc (.map #[] 0) = W2 at hown k1 b ⊢
    generalize w1.heap.size = bm at hown hbm ⊢
    have hF : FillR #[.int .i64 s, .int .i64 n, .int .i64 k, .int .i64 p, .int .i64 c] bm 0 its w W2 := ⟨.map [], Rep.start, hown, hbm, rfl, k1, b⟩
    clear hown hbm k1 b
    go_wp2_with fail
    go_loopw [10, 11, 12, 58] (fun _ _ _ i wr => ∃ j : Nat, j ≤ m ∧ i = .int .i64 (j : Nat) ∧ FillR #[.int .i64 s, .int .i64 n, .int .i64 k, .int .i64 p, .int .i64 c] bm j its w wr) (fun _ _ _ i _ => m - (intOf i).toNat)
    case atStart => exact ⟨0, Nat.zero_le _, rfl, hF⟩
    case round =>
      clear hF
      obtain ⟨j, hj, rfl, D, hRep, hown, hbm, hall, k1, b⟩ := hrel
      by_cases hlt : j < m
      · obtain ⟨ad, t, AK, nk, ck, AV, nv, cv, hA, ht, hc, rK, rV⟩ := (HI.out.below b).at hlt
        subst hA
        have hlt' : ((j : Int) < (m : Int)) = True := eq_true (by omega)
        have HLT : Hid (j + 1 ≤ m) := Lib.hid (by omega)
        have HJP : IntKind.i64.wrap ((j : Int) + 1) = (j : Int) + 1 := IntWalk.i64_in _ (by have := HM.out; omega)
        have HJ : Hid (j ≤ 200) := Lib.hid (by have := HM.out; omega)
        have hlk := rK.len
        have hlv := rV.len
        have HT := Lib.hid ht
        clear hlt ht
        go_upto_region 8 with (first | refine wpl_loadI rfl _ rfl (ad.add (j * 6)) (by rfl) _ _ _ _ _ _ hc ?_)
        have k10 := Blk.new wr #[.slice AK nk ck, .slice AV nv cv, .int .u32 (t.fl : Int), .int .u32 (t.ex : Int), .int .u64 (t.sq : Int), .bool t.b] 37
        have ba := below_a1' (RowKit.Below.refl wr.heap.size wr) (.cells #[.slice AK nk ck, .slice AV nv cv, .int .u32 (t.fl : Int), .int .u32 (t.ex : Int), .int .u64 (t.sq : Int), .bool t.b] 37)
        have rK := rK.below (ba.mono b.size)
        replace hown := own_below25 hown ba
        replace k1 := k1.step ba
        replace b := below_step b ba
        clear ba hc rV
        generalize wr.alloc (.cells #[.slice AK nk ck, .slice AV nv cv, .int .u32 (t.fl : Int), .int .u32 (t.ex : Int), .int .u64 (t.sq : Int), .bool t.b] 37) = W9 at k10 hown k1 b rK ⊢
        generalize wr.heap.size = g10 at k10 ⊢
        obtain ⟨x0, x1, x2, x3, x4, x5⟩ := box6 k10
        have HCH := Lib.hid (charge_any AK AV nk ck nv cv t.fl t.ex t.sq t.b W9)
        unfold itmV at HCH
        by_cases hr : rightI t.sq nk nv = true
        · rw [chV_yes hr] at HCH
          have HRI := Lib.hid hr
          clear hr
          go_wp2_with fail
          refine HCH.out.mono ?_
          rintro e w5 ⟨rfl, b5⟩
          clear x0 x1 x2 x3 x4 x5
          replace hown := own_below25 hown b5
          replace k1 := k1.step b5
          replace k10 := k10.step b5
          have rK := rK.below (b5.mono b.size)
          replace b := below_step b b5
          clear b5 HCH
          obtain ⟨x0, x1, x2, x3, x4, x5⟩ := box6 k10
          have c1 := run_strI rK
          have hkey : keyOf Try.prog 9 (.string ⟨t.lk.toArray⟩) = some (.string t.lk) := by have h := Go.WideMaps.keyOf_string_mk (P := Try.prog) Try.underlying9 (s := ⟨t.lk.toArray⟩) (by show t.lk.toArray.size ≤ maxLen; rw [List.size_toArray, hlk]; exact Nat.le_trans rK.cap rK.max); simpa using h
          have hval : plainElem (H := Unit) Try.prog 3 (.int .i64 (chI nk nv : Nat)) = some (.lit (.int .i64 (chI nk nv : Nat)), []) := plainElem_int Try.underlying3 (wf_ch (chI_le HRI.out))
          have HLV := Lib.hid hlv
          have hj200 := HJ.out
          clear hlv
          go_wp2_with (at_mapUpdate; refine wpList_mapUpdate_own _ rfl _ _ _ 40 rfl 9 3 (string_keyed Try.underlying9) Try.underlying40 _ bm j D rfl hown (by unfold maxLen; omega) _ _ (.string t.lk) rfl rfl hkey _ [] hval ?_)
          intro w9 hown9 hg9
          have hR9 := hRep.put t.lk (chI nk nv)
          have k19 := Eq.trans (hg9.block w.heap.size k1.lt (fun e => absurd (Option.some.inj e) (Nat.ne_of_lt hbm))) k1
          have b9 := b.grown hg9 b.size (fun k e => by cases e; exact Nat.le_of_lt hbm)
          have HNX : Hid (FillR #[.int .i64 s, .int .i64 n, .int .i64 k, .int .i64 p, .int .i64 c] bm (j + 1) its w w9) := Lib.hid ⟨_, by rw [fitL_take HT.out, hlk, HLV.out]; exact hR9, hown9, hbm, by rw [List.take_add_one, HT.out]; simp only [Option.toList_some, List.all_append, List.all_cons, List.all_nil, Bool.and_true, hall, Bool.true_and]; unfold itOk; rw [hlk, HLV.out]; exact HRI.out, k19, b9⟩
          clear hR9 k19 b9 hown9 hg9 hkey hval hown hRep hall k1 k10 b rK hlk c1 hj200 x0 x1 x2 x3 x4 x5
          go_wp2_with fail
          go_roundw
          case rel => exact ⟨j + 1, HLT.out, by first | rfl | go_num, HNX.out⟩
          case measure => have := HLT.out; simp [intOf]; omega
        · have hr' : rightI t.sq nk nv = false := by cases h : rightI t.sq nk nv with | false => rfl | true => exact absurd h hr
          rw [chV_no hr'] at HCH
          have HX := Lib.hid (fitsR_bad HPL.out HT.out (by unfold itOk; rw [hlk, hlv]; exact hr'))
          clear hr hr' hlk hlv
          go_wp2_with fail
          refine HCH.out.mono ?_
          rintro e w5 ⟨rfl, b5⟩
          replace b := below_step b b5
          clear b5 HCH hown hRep hall k1 k10 rK x0 x1 x2 x3 x4 x5
          go_wp2_with fail
          refine bodyPostM_ret (results_tmp2 rfl _ _ _) rfl ?_
          exact ⟨by rw [HR.out, HX.out]; rfl, b⟩
      · have hjm : j = m := by omega
        subst hjm
        have hlt' : ((j : Int) < (j : Int)) = False := eq_false (by omega)
        have hmi : j = its.length := by obtain ⟨_, _, _, h⟩ := HI.out; exact h
        have hall' : its.all itOk = true := by rw [hmi, List.take_length] at hall; exact hall
        have hRep' : Rep D (fitL its) := by rw [hmi, List.take_length] at hRep; exact hRep
        clear hlt hj hall hRep
        have hfs := fit_sum hall' (by rw [← hmi]; exact HM.out)
        have HFR := Lib.hid (fitsR_ok HPL.out hall')
        have HFS := Lib.hid hfs
        clear hmi hfs hall'
        have hsz := hRep'.2.2.2
        go_upto_region 14 with fail
        have ks := Blk.new wr #[.int .i64 0] 3
        have ba := below_a1' (RowKit.Below.refl wr.heap.size wr) (.cells #[.int .i64 0] 3)
        have hgs := k1.lt
        have hbs := hown.lt
        replace hown := own_below25 hown ba
        replace k1 := k1.step ba
        replace b := below_step b ba
        clear ba
        generalize wr.alloc (.cells #[.int .i64 0] 3) = W3 at ks hown k1 b ⊢
        generalize wr.heap.size = gs at ks hgs hbs ⊢
        go_wp2_with fail
        refine (values25_any (some bm) W3).mono ?_
        rintro e W4 ⟨rfl, hW4⟩
        have hs3 := ks.lt
        have km := Blk.new W3 #[.map (some bm)] 40
        have ba := below_a1' (RowKit.Below.refl W3.heap.size W3) (.cells #[.map (some bm)] 40)
        rw [← hW4] at km ba
        have hgm : W3.heap.size < W4.heap.size := km.lt
        replace hown := own_below25 hown ba
        replace k1 := k1.step ba
        replace ks := ks.step ba
        replace b := below_step b ba
        clear ba hW4
        generalize W3.heap.size = gm at km hs3 hgm ⊢
        go_wp2_with fail
        refine (wpIn_wide (n := 3)).1 ?_
        apply wpIn_rangeFunc_ownF (F := Fence.wide) (n := 3) (encs := fun x : Int => #[Value.int .i64 x]) (Kp := KeepsWalks) rfl (by omega) (gf := 17) (lb := #[.pointer (some ⟨gm, 0, none⟩)]) rfl trivial (enters_of Try.func17 (by kernel_rfl) rfl) (values25_stops gm bm j D W4 hgm (box1 km) hown) walksK_t walksK_b (RowKit.Below.refl _ _) (fun _ => rfl) (SumI #[.int .i64 s, .int .i64 n, .int .i64 k, .int .i64 p, .int .i64 c] gs bm j D w) (fun _ _ _ => False) (sumI_own (by omega) (by omega) (by omega)) (fun c s W W' row h hg hr => h) ⟨ks, k1, hown, b⟩
        case hassign =>
          intro l x W K hK
          gi_wp2_with (rw [Oper.semAt_eq _ _ _ (fun c h => by cases h)]; go_simp; try go_bits)
          exact hK
        case hbody =>
          rintro l pre x W ⟨hs, hp, ho, hbw⟩ _
          have y0 := hs.frozen 0
          have z0 := box1 hs
          have HR9 : Hid (∀ u, u = sumW25 (pre ++ [x]) → SumI #[.int .i64 s, .int .i64 n, .int .i64 k, .int .i64 p, .int .i64 c] gs bm j D w (pre ++ [x]) (W.setCell ⟨gs, 0, none⟩ (.int .i64 u))) := Lib.hid (fun u hu => by subst hu; exact sumI_put hs hp ho hbw hgs hbs)
          clear hs hp ho hbw
          gi_wp2_with (rw [Oper.semAt_eq _ _ _ (fun c h => by cases h)]; go_simp; try go_bits)
          exact ⟨KeepsOthers.setCell _ _ _, (KeepsOthers.setCell _ _ _).walks, HR9.out _ (sumW25_snoc _ _).symm⟩
        case hstop =>
          intro D9 c9 pre W _ _ h _
          exact h.elim
        case hdone =>
          rintro D9 xs W hD ⟨ps, hall9, rfl⟩ ⟨hs, hp, ho, hbw⟩ hK
          have hsum := Rep.sum hRep' ho Try.underlying9 (by have := HFS.out.1; omega) hall9
          rw [hsum] at hs
          have hln := fun ty => ho.len Try.underlying40 ty
          rw [hsz] at hln
          have z0 := box1 hs
          obtain ⟨q0, q1, q2, q3, q4⟩ := box5 hp
          have HB := Lib.hid (hbw.trans (belowK_b (w := w) (Nat.le_refl _) W D9 _ (.deferred none) (by omega) hK rfl rfl))
          have HKK := Lib.hid hK
          clear hs hp ho hbw hK hsum hall9 ks km k1 hown b hsz hRep'
          by_cases hq : ((sumL (lastOcc (fitL its)) : Nat) : Int) ≤ (s - 4) * (n - 17)
          · by_cases hc : ((lastOcc (fitL its)).length : Int) ≤ k
            · have eq1 := eq_true hq
              have eq2 := eq_true hc
              go_wp2_with fail
              refine bodyPostM_ret1 (results_tmp2 rfl _ _ _) rfl HKK.out ?_
              exact ⟨by rw [HR.out, HFR.out, decide_eq_true hq, decide_eq_true hc]; rfl, HB.out⟩
            · have eq1 := eq_true hq
              have eq2 := eq_false hc
              go_wp2_with fail
              refine bodyPostM_ret1 (results_tmp2 rfl _ _ _) rfl HKK.out ?_
              exact ⟨by rw [HR.out, HFR.out, decide_eq_true hq, decide_eq_false (Int.not_le.2 hc)]; rfl, HB.out⟩
          · have eq1 := eq_false hq
            go_wp2_with fail
            refine bodyPostM_ret1 (results_tmp2 rfl _ _ _) rfl HKK.out ?_
            exact ⟨by rw [HR.out, HFR.out, decide_eq_false (Int.not_le.2 hq)]; rfl, HB.out⟩
  · rw [bndV_no (by cases h : sizedB s n with | false => rfl | true => exact absurd h hs)]
    have HX := Lib.hid (fitsR_plan its (s := s) (n := n) (k := k) (p := p) (c := c) (fun h => hs (by unfold sizedB; exact decide_eq_true ⟨h.1, h.2.1, h.2.2.1, h.2.2.2.1⟩)))
    clear hs
    go_wp2_with fail
    refine bodyPostM_ret (results_tmp2 rfl _ _ _) rfl ?_
    exact ⟨by rw [HR.out, HX.out]; rfl, b⟩
end Go.Proofs.Ytajjoepdkikeeaa

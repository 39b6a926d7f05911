/- Merged texts: Rla, Rlb, Rlc, Rld, Rle, Ofo, Ofw. Conditions: typed in each theorem. -/
import Derived.Test.YtnghmgbmflcngaaZmd
import Derived.Test.YtnghmgbmflcngaaCnz
import Derived.Test.YtnghmgbmflcngaaCne
import Derived.Test.YtnghmgbmflcngaaPln
import Derived.Test.YtnghmgbmflcngaaHlr
namespace Go.Proofs.Ytnghmgbmflcngaa
set_option linter.unusedVariables false
section
open Go.RowKit
theorem spB_le (cb oq : Nat) : ∀ Ps : List SP, (∀ p ∈ Ps, p.lx.length ≤ 8 ∧ p.lk.length ≤ 250 ∧ p.lv.length ≤ 512) → (spB cb oq Ps).length ≤ 800 * Ps.length
  | [], _ => by simp [spB]
  | p :: Ps, h => by
    have h1 := h p List.mem_cons_self
    have h2 := spB_le cb oq Ps (fun x hx => h x (List.mem_cons_of_mem _ hx))
    rw [spB_cons, List.length_append, sp_len, List.length_cons]
    omega
theorem ofR_ok {q : RQ} (hq : PrQ q) {st : Int} {nva af ac an ns : Nat} {lva : List UInt8} {SL : List (ByteArray × ByteArray)} (hw : wrongA st q.op nva af ac an ns SL = false) (hv : lva.length = nva) (hs : SL.length = ns) :
    ∃ R, ofR q.op q.qt q.fu q.oq st nva af ac an ns q.lk lva SL = (R, 0) ∧ R.length ≤ 20000 := by
  obtain ⟨w1, w2, w3⟩ := wrong_lens hw
  unfold ofR
  rw [if_neg (by rw [hw]; decide)]
  by_cases hsil : silB q.op q.qt st = true
  · rw [if_pos hsil]
    exact ⟨[], rfl, by simp⟩
  rw [if_neg hsil]
  have tl : ∀ s : ByteArray, s.data.toList.length = s.size := fun s => by rw [Array.length_toList]; rfl
  have hk := hq.lk
  have all : (∀ p ∈ allP q.op q.fu st af ac an q.lk lva SL, p.lx.length ≤ 8 ∧ p.lk.length ≤ 250 ∧ p.lv.length ≤ 512) ∧ (allP q.op q.fu st af ac an q.lk lva SL).length ≤ 17 := by
    have one : ∀ p : SP, p.lx.length ≤ 8 ∧ p.lk.length ≤ 250 ∧ p.lv.length ≤ 512 → (∀ x ∈ [p], x.lx.length ≤ 8 ∧ x.lk.length ≤ 250 ∧ x.lv.length ≤ 512) ∧ [p].length ≤ 17 := fun p h => ⟨fun x hx => by rw [List.mem_singleton] at hx; subst hx; exact h, by simp⟩
    unfold allP
    split
    · refine one _ ⟨by simp, by simp, ?_⟩
      have := text_len st
      simp only [tl]
      omega
    · split
      · refine one _ ⟨by simp [length_highB], ?_, by show lva.length ≤ 512; omega⟩
        show (if q.fu = true then q.lk else []).length ≤ 250
        split
        · exact hk
        · simp
      · split
        · exact one _ ⟨by simp, by simp, by simp [length_highB]⟩
        · split
          · exact one _ ⟨by simp, by simp, by show lva.length ≤ 512; omega⟩
          · split
            · refine ⟨fun x hx => ?_, ?_⟩
              · rcases List.mem_append.1 hx with hx | hx
                · obtain ⟨p, hp, rfl⟩ := List.mem_map.1 hx
                  have h5 := w3 p hp
                  refine ⟨by simp, ?_, ?_⟩
                  · show p.1.data.toList.length ≤ 250
                    rw [tl]; exact h5.1
                  · show p.2.data.toList.length ≤ 512
                    rw [tl]; exact h5.2
                · rw [List.mem_singleton] at hx
                  subst hx
                  exact ⟨by simp, by simp, by simp⟩
              · rw [List.length_append, List.length_map, List.length_singleton]
                omega
            · exact one _ ⟨by simp, by simp, by simp⟩
  have hf : ∀ x ∈ allP q.op q.fu st af ac an q.lk lva SL, x.fits := fun x hx => by
    have := all.1 x hx
    unfold SP.fits tooLong
    omega
  rw [if_pos hf]
  refine ⟨_, rfl, ?_⟩
  have := spB_le (codeB q.op q.qt q.fu) q.oq _ all.1
  have := all.2
  omega
def zQ : RQ := ⟨0, false, false, 0, 0, [], [], 0, 0, 0, 0, 0⟩
def GF (gc gp gy : Nat) (A OA : Option Addr) : Nat → Prop := fun k => FP gc gp A OA k ∨ k = gy
def MQ (w : World) (F : Nat → Prop) (rq : List Value) (wq : Option RQ) : Prop :=
  ∃ K nk ck V nv cv, rq = reqL (wq.getD zQ) K nk ck V nv cv ∧ RdF w F K nk ck (wq.getD zQ).lk ∧ RdF w F V nv cv (wq.getD zQ).lv ∧ (wq = none → rq = zrq) ∧ ∀ p, wq = some p → PrQ p
theorem RdF.none0 (w : World) (F : Nat → Prop) : RdF w F none 0 0 [] := ⟨Rd.nil w _, fun k hk => by cases hk⟩
theorem MQ.no (w : World) (F : Nat → Prop) : MQ w F zrq none := ⟨none, 0, 0, none, 0, 0, rfl, RdF.none0 w F, RdF.none0 w F, fun _ => rfl, fun p hp => by cases hp⟩
theorem MQ.kp {w w' : World} {F F' G : Nat → Prop} {rq : List Value} {wq : Option RQ} (h : MQ w F rq wq) (hk : Kp w w' G) (hG : ∀ k, k < w.heap.size → G k → F k) (hF : ∀ k, k < w.heap.size → F' k → F k) : MQ w' F' rq wq := by
  obtain ⟨K, nk, ck, V, nv, cv, h1, h2, h3, h4, h5⟩ := h
  exact ⟨K, nk, ck, V, nv, cv, h1, h2.kp hk hG hF, h3.kp hk hG hF, h4, h5⟩
theorem MQ.q12 {w : World} {F : Nat → Prop} {rq : List Value} {wq : Option RQ} (h : MQ w F rq wq) : Rq12 rq := by
  obtain ⟨K, nk, ck, V, nv, cv, rfl, -⟩ := h
  exact reqL12 _ _ _ _ _ _ _
structure RO (w : World) (B gc gp gy n c on oc pc yc : Nat) (A OA PA YA : Option Addr) (l lo : List UInt8) (wv : Value) (wq : Option RQ) (rq : List Value) : Prop where
  cn : CnA w B gc gp A n c l OA on oc lo wv wq
  wt : WaitQ w (GF gc gp gy A OA) wv wq
  mb : Blk w gy (mcs PA n pc false wq.isSome rq YA on yc false) 106
  ny : ¬ FP gc gp A OA gy
  rp : RdF w (GF gc gp gy A OA) PA n pc l
  ry : RdF w (GF gc gp gy A OA) YA on yc lo
  mq : MQ w (GF gc gp gy A OA) rq wq
structure RC (w : World) (B gc gy on oc yc : Nat) (OA YA : Option Addr) (lo : List UInt8) : Prop where
  cn : CnC w B gc OA on oc lo
  mb : Blk w gy (mcs none 0 0 false false zrq YA on yc true) 106
  ny : gy ≠ gc ∧ obk OA ≠ some gy
  ry : RdF w (fun k => k = gc ∨ obk OA = some k ∨ k = gy) YA on yc lo
def Rel (B gc gy : Nat) (P : Nat → Prop) (M : Nat) (w : World) : Prop :=
  (∃ gp n c on oc pc yc A OA PA YA l lo wv wq rq, RO w B gc gp gy n c on oc pc yc A OA PA YA l lo wv wq rq ∧ (∀ k, GF gc gp gy A OA k → ¬ P k) ∧ on ≤ M ∧ n ≤ 65536) ∨
  (∃ on oc yc OA YA lo, RC w B gc gy on oc yc OA YA lo ∧ (∀ k, (k = gc ∨ obk OA = some k ∨ k = gy) → ¬ P k) ∧ on ≤ M)
theorem Rel.more {B gc gy M M' : Nat} {P : Nat → Prop} {w : World} (h : Rel B gc gy P M w) (hM : M ≤ M') : Rel B gc gy P M' w := by
  rcases h with ⟨gp, n, c, on, oc, pc, yc, A, OA, PA, YA, l, lo, wv, wq, rq, h1, h2, h3, h4⟩ | ⟨on, oc, yc, OA, YA, lo, h1, h2, h3⟩
  · exact .inl ⟨gp, n, c, on, oc, pc, yc, A, OA, PA, YA, l, lo, wv, wq, rq, h1, h2, by omega, h4⟩
  · exact .inr ⟨on, oc, yc, OA, YA, lo, h1, h2, by omega⟩
theorem Rel.shut {B gc gy M : Nat} {P : Nat → Prop} (W : World) (h : Rel B gc gy P M W) : ∃ v0 v1 v2 b m, Blk W gc #[v0, v1, v2, .bool b] 160 ∧ Blk W gy m 106 ∧ m[16]? = some (.bool b) := by
  rcases h with ⟨gp, n, c, on, oc, pc, yc, A, OA, PA, YA, l, lo, wv, wq, rq, h1, h2, h3, h4⟩ | ⟨on, oc, yc, OA, YA, lo, h1, h2, h3⟩
  · exact ⟨_, _, _, _, _, h1.cn.box, h1.mb, mcs_16 h1.mq.q12⟩
  · exact ⟨_, _, _, _, _, h1.cn.box, h1.mb, mcs_16 zrq12⟩
section
variable {w : World} {B gc gp gy n c on oc pc yc : Nat} {A OA PA YA : Option Addr} {l lo : List UInt8} {wv : Value} {wq : Option RQ} {rq : List Value}
theorem RO.lt (h : RO w B gc gp gy n c on oc pc yc A OA PA YA l lo wv wq rq) : ∀ k, GF gc gp gy A OA k → k < w.heap.size := fun k hk => hk.elim (fun e => (h.cn.fp k e).2) (fun e => by rw [e]; exact h.mb.lt)
def F0 (w : World) (gc gp gy : Nat) (A OA : Option Addr) : Nat → Prop := fun k => GF gc gp gy A OA k ∨ w.heap.size ≤ k
theorem RO.wt0 (h : RO w B gc gp gy n c on oc pc yc A OA PA YA l lo wv wq rq) : WaitQ w (F0 w gc gp gy A OA) wv wq := h.wt.kp (Kp.refl w (fun _ => False)) (fun _ _ e => e.elim) (fun k hk e => e.elim id (fun e => by omega))
theorem RO.rp0 (h : RO w B gc gp gy n c on oc pc yc A OA PA YA l lo wv wq rq) : RdF w (F0 w gc gp gy A OA) PA n pc l := h.rp.weak (fun k hk e => e.elim id (fun e => by omega))
theorem RO.ry0 (h : RO w B gc gp gy n c on oc pc yc A OA PA YA l lo wv wq rq) : RdF w (F0 w gc gp gy A OA) YA on yc lo := h.ry.weak (fun k hk e => e.elim id (fun e => by omega))
theorem RO.mq0 (h : RO w B gc gp gy n c on oc pc yc A OA PA YA l lo wv wq rq) : MQ w (F0 w gc gp gy A OA) rq wq := h.mq.kp (Kp.refl w (fun _ => False)) (fun _ _ e => e.elim) (fun k hk e => e.elim id (fun e => by omega))
theorem ro_of {W1 W5 : World} {F D F1 F2 F3 : Nat → Prop} (cn1 : CnA W1 B gc gp A n c l OA on oc lo wv wq) (wt1 : WaitQ W1 F wv wq) (hF : ∀ k, GF gc gp gy A OA k → F k) (hny : ¬ FP gc gp A OA gy) (k15 : Kp W1 W5 D) (hDF : ∀ k, k < W1.heap.size → D k → F k) (hDn : ∀ k, D k → ¬ FP gc gp A OA k)
    (mb : Blk W5 gy (mcs PA n pc false wq.isSome rq YA on yc false) 106) (rp : RdF W5 F1 PA n pc l) (h1 : ∀ k, GF gc gp gy A OA k → F1 k) (ry : RdF W5 F2 YA on yc lo) (h2 : ∀ k, GF gc gp gy A OA k → F2 k) (mq : MQ W5 F3 rq wq) (h3 : ∀ k, GF gc gp gy A OA k → F3 k) :
    RO W5 B gc gp gy n c on oc pc yc A OA PA YA l lo wv wq rq :=
  ⟨cn1.off wt1 (fun k e => hF k (Or.inl e)) k15 hDF hDn, wt1.kp k15 hDF (fun k _ e => hF k e), mb, hny, rp.weak (fun k _ e => h1 k e), ry.weak (fun k _ e => h2 k e), mq.kp (Kp.refl W5 (fun _ => False)) (fun _ _ e => e.elim) (fun k _ e => h3 k e)⟩
theorem rc_of {W1 W5 : World} {D F2 : Nat → Prop} (cn1 : CnC W1 B gc OA on oc lo) (hny : gy ≠ gc ∧ obk OA ≠ some gy) (k15 : Kp W1 W5 D) (hDn : ∀ k, D k → k ≠ gc ∧ obk OA ≠ some k) (mb : Blk W5 gy (mcs none 0 0 false false zrq YA on yc true) 106) (ry : RdF W5 F2 YA on yc lo) (h2 : ∀ k, (k = gc ∨ obk OA = some k ∨ k = gy) → F2 k) :
    RC W5 B gc gy on oc yc OA YA lo :=
  ⟨⟨k15.blk cn1.box (fun e => (hDn _ e).1 rfl), cn1.out.kp k15 (fun k hk e => (hDn _ e).2 hk), cn1.bc, cn1.oc_⟩, mb, hny, ry.weak (fun k _ e => h2 k e)⟩
end
end
section
set_option linter.unusedSimpArgs false
open Go.RowKit
theorem hc0_open {w : World} {B gc gp gy n c on oc pc yc M : Nat} {P : Nat → Prop} {A OA PA YA : Option Addr} {l lo : List UInt8} {wv : Value} {wq : Option RQ} {rq : List Value} (h : RO w B gc gp gy n c on oc pc yc A OA PA YA l lo wv wq rq) (hP : ∀ k, GF gc gp gy A OA k → ¬ P k) (hPw : ∀ k, P k → k < w.heap.size) (hon : on ≤ M) (hn : n ≤ 65536) (BA : Option Addr) (bn bc : Nat) (lb : List UInt8) (rb : RdN w (GF gc gp gy A OA) BA bn bc lb) (hbn : bn ≤ 100000) : ∀ W A1 c1, Below w.heap.size w W → Rd W W.heap.size A1 bn c1 lb → Calls Try.prog 65 #[.pointer (some ⟨gc, 0, none⟩), .slice A1 bn c1] W (fun e W1 => ∃ er, e = .returned (.int .i64 er) ∧ Kp W W1 (GF gc gp gy A OA) ∧ Blk W1 gy (mcs PA n pc false wq.isSome rq YA on yc false) 106 ∧ ∀ W2, Below W1.heap.size W1 W2 → Calls Try.prog 112 #[.agg (mcs PA n pc false wq.isSome rq YA on yc false), .slice BA bn bc] W2 (fun e W3 => ∃ m1, e = .returned (.tuple #[.agg m1, .int .i64 er]) ∧ IsM m1 ∧ Below W2.heap.size W2 W3 ∧ ∀ W4 W5, Blk W4 gy m1 106 → Kp W3 W4 (fun k => k = gy) → Kp W4 W5 (fun k => w.heap.size ≤ k ∧ k < W.heap.size) → (Rel B gc gy P M) W5)) := by
  intro W A1 c1 bW rA
  have q12 := h.mq.q12
  have hlt := h.lt
  have cnW := h.cn.step bW
  have hWs := bW.size
  by_cases hm : n + bn ≤ 65536
  · refine (cfeed_ok B gc gp n c on oc A OA l lo wv wq A1 bn c1 lb W cnW rA hm).mono ?_
    rintro e W1 ⟨A', c', rfl, cn1, hk1, hA'⟩
    refine ⟨0, rfl, hk1.weak (fun k e => Or.inl e), hk1.blk (h.mb.step bW) h.ny, fun W2 b2 => ?_⟩
    have k01 : Kp w W1 (F0 w gc gp gy A OA) := (Kp.of_below bW (F0 w gc gp gy A OA)).after hk1 (fun k _ e => Or.inl (Or.inl e))
    have k02 := k01.after (Kp.of_below b2 (F0 w gc gp gy A OA)) (fun _ _ e => e)
    have rB := rb.kp (G := (F0 w gc gp gy A OA)) (F' := fun _ => False) k02 (fun k hk e => e.elim id (fun e => by omega)) (fun _ _ e => e.elim)
    refine (mfeed_ok PA n pc wq.isSome rq YA on yc q12 l BA bn bc lb W2 (h.rp0.kp k02 (fun _ _ e => e) (fun _ _ e => e)).1 rB.1 hm).mono ?_
    rintro e W3 ⟨A2, c2, rfl, o3, b3⟩
    refine ⟨_, rfl, isM_mcs q12, b3, fun W4 W5 kg4 k34 k45 => ?_⟩
    have hG' : ∀ k, GF gc gp gy A' OA k → (F0 w gc gp gy A OA) k := by
      intro k hk
      rcases hk with (e | e | e | e) | e
      · exact Or.inl (Or.inl (Or.inl e))
      · exact Or.inl (Or.inl (Or.inr (Or.inl e)))
      · rcases hA' with e2 | e2
        · rw [e2] at e; exact Or.inl (Or.inl (Or.inr (Or.inr (Or.inl e))))
        · rw [e2] at e; injection e with e; exact Or.inr (by omega)
      · exact Or.inl (Or.inl (Or.inr (Or.inr (Or.inr e))))
      · exact Or.inl (Or.inr e)
    have hnew : ∀ k, FP gc gp A' OA k → k < w.heap.size ∧ FP gc gp A OA k ∨ k = W.heap.size := by
      intro k hk
      rcases hk with e | e | e | e
      · exact Or.inl ⟨hlt k (Or.inl (Or.inl e)), Or.inl e⟩
      · exact Or.inl ⟨hlt k (Or.inl (Or.inr (Or.inl e))), Or.inr (Or.inl e)⟩
      · rcases hA' with e2 | e2
        · rw [e2] at e; exact Or.inl ⟨hlt k (Or.inl (Or.inr (Or.inr (Or.inl e)))), Or.inr (Or.inr (Or.inl e))⟩
        · rw [e2] at e; injection e with e; exact Or.inr e.symm
      · exact Or.inl ⟨hlt k (Or.inl (Or.inr (Or.inr (Or.inr e)))), Or.inr (Or.inr (Or.inr e))⟩
    have hgy := hlt gy (Or.inr rfl)
    have hny : ¬ FP gc gp A' OA gy := fun e => (hnew gy e).elim (fun e => h.ny e.2) (fun e => by omega)
    have hs1 := hk1.size
    have hs2 := b2.size
    have k35 : Kp W3 W5 (fun k => k = gy ∨ (w.heap.size ≤ k ∧ k < W.heap.size)) := (k34.weak (fun k e => Or.inl e)).after k45 (fun k _ e => Or.inr e)
    have k15 := ((Kp.of_below b2 (fun k => k = gy ∨ (w.heap.size ≤ k ∧ k < W.heap.size))).after (Kp.of_below b3 (fun k => k = gy ∨ (w.heap.size ≤ k ∧ k < W.heap.size))) (fun _ _ e => e)).after k35 (fun _ _ e => e)
    have hDF : ∀ k, (k = gy ∨ (w.heap.size ≤ k ∧ k < W.heap.size)) → (F0 w gc gp gy A OA) k := fun k e => e.elim (fun e => Or.inl (Or.inr e)) (fun e => Or.inr e.1)
    have k05 := k01.after k15 (fun k _ e => hDF k e)
    have hlt1 : ∀ k, GF gc gp gy A' OA k → k < W2.heap.size := fun k e => e.elim (fun e => by have := (cn1.fp k e).2; omega) (fun e => by omega)
    have rp5 := (o3.rdF (F := fun k => k < W2.heap.size) (fun _ e => e)).kp (F' := fun k => k < W2.heap.size) k35 (fun k _ e => e.elim (fun e => by omega) (fun e => by omega)) (fun _ _ e => e)
    exact Or.inl ⟨gp, n + bn, c', on, oc, c2, yc, A', OA, A2, YA, l ++ lb, lo, wv, wq, rq,
      ro_of cn1 (h.wt0.kp k01 (fun _ _ e => e) (fun _ _ e => e)) hG' hny k15 (fun k _ e => hDF k e) (fun k e hf => by rcases e with e | e; exact hny (by rw [← e]; exact hf); rcases hnew k hf with e2 | e2; omega; omega) ((k45.blk kg4 (fun e => by omega))) rp5 hlt1 (h.ry0.kp k05 (fun _ _ e => e) (fun _ _ e => e)) hG' (h.mq0.kp k05 (fun _ _ e => e) (fun _ _ e => e)) hG',
      (fun k e hp => (hG' k e).elim (fun e => hP k e hp) (fun e => by have := hPw k hp; omega)), hon, hm⟩
  · refine (cfeed_long B gc gp n c on oc A OA l lo wv wq A1 bn c1 lb W cnW rA (by omega) (by omega)).mono ?_
    rintro e W1 ⟨rfl, rfl⟩
    refine ⟨3, rfl, Kp.refl _ _, h.mb.step bW, fun W2 b2 => ?_⟩
    refine (mfeed_long PA n pc wq.isSome rq YA on yc q12 BA bn bc W2 (by omega) (by omega)).mono ?_
    rintro e W3 ⟨rfl, b3⟩
    refine ⟨_, rfl, isM_mcs q12, b3, fun W4 W5 kg4 k34 k45 => ?_⟩
    have k01 := Kp.of_below bW (F0 w gc gp gy A OA)
    have hgy := hlt gy (Or.inr rfl)
    have k35 : Kp W3 W5 (fun k => k = gy ∨ (w.heap.size ≤ k ∧ k < W.heap.size)) := (k34.weak (fun k e => Or.inl e)).after k45 (fun k _ e => Or.inr e)
    have k15 := ((Kp.of_below b2 (fun k => k = gy ∨ (w.heap.size ≤ k ∧ k < W.heap.size))).after (Kp.of_below b3 (fun k => k = gy ∨ (w.heap.size ≤ k ∧ k < W.heap.size))) (fun _ _ e => e)).after k35 (fun _ _ e => e)
    have hDF : ∀ k, (k = gy ∨ (w.heap.size ≤ k ∧ k < W.heap.size)) → (F0 w gc gp gy A OA) k := fun k e => e.elim (fun e => Or.inl (Or.inr e)) (fun e => Or.inr e.1)
    have k05 := k01.after k15 (fun k _ e => hDF k e)
    have hG' : ∀ k, GF gc gp gy A OA k → (F0 w gc gp gy A OA) k := fun k e => Or.inl e
    exact Or.inl ⟨gp, n, c, on, oc, pc, yc, A, OA, PA, YA, l, lo, wv, wq, rq,
      ro_of cnW (h.wt0.kp k01 (fun _ _ e => e) (fun _ _ e => e)) hG' h.ny k15 (fun k _ e => hDF k e) (fun k e hf => by rcases e with e | e; exact h.ny (by rw [← e]; exact hf); have := hlt k (Or.inl hf); omega) ((k45.blk kg4 (fun e => by omega))) (h.rp0.kp k05 (fun _ _ e => e) (fun _ _ e => e)) hG' (h.ry0.kp k05 (fun _ _ e => e) (fun _ _ e => e)) hG' (h.mq0.kp k05 (fun _ _ e => e) (fun _ _ e => e)) hG', hP, hon, hn⟩
theorem rel_closed {w : World} {B gc gy on oc yc M : Nat} {P : Nat → Prop} {OA YA : Option Addr} {lo : List UInt8} (h : RC w B gc gy on oc yc OA YA lo) (hP : ∀ k, (k = gc ∨ obk OA = some k ∨ k = gy) → ¬ P k) (hPw : ∀ k, P k → k < w.heap.size) (hon : on ≤ M) {W W2 W3 W4 W5 : World} {X : Nat → Prop} (bW : Below w.heap.size w W) (b2 : Below W.heap.size W W2) (b3 : Below W2.heap.size W2 W3) (k34 : Kp W3 W4 (fun k => k = gy)) (k45 : Kp W4 W5 X) (hX : ∀ k, X k → w.heap.size ≤ k) (kg4 : Blk W4 gy (mcs none 0 0 false false zrq YA on yc true) 106) (hg : ¬ X gy) : Rel B gc gy P M W5 := by
  have hgc := h.cn.box.lt
  have hgo : ∀ k, obk OA = some k → k < w.heap.size := fun k e => (World.ownsRow.lt h.cn.out k (by rw [obk_eq]; exact e)).2
  have k35 : Kp W3 W5 (fun k => k = gy ∨ X k) := (k34.weak (fun k e => Or.inl e)).after k45 (fun k _ e => Or.inr e)
  have kW5 := ((Kp.of_below b2 (fun k => k = gy ∨ X k)).after (Kp.of_below b3 (fun k => k = gy ∨ X k)) (fun _ _ e => e)).after k35 (fun _ _ e => e)
  have r0 : RdF w (fun k => (k = gc ∨ obk OA = some k ∨ k = gy) ∨ w.heap.size ≤ k) YA on yc lo := h.ry.weak (fun k hk e => e.elim id (fun e => by omega))
  have k05 := (Kp.of_below bW (fun k => (k = gc ∨ obk OA = some k ∨ k = gy) ∨ w.heap.size ≤ k)).after kW5 (fun k _ e => e.elim (fun e => Or.inl (Or.inr (Or.inr e))) (fun e => Or.inr (hX k e)))
  exact Or.inr ⟨on, oc, yc, OA, YA, lo, rc_of (h.cn.step bW) h.ny kW5 (fun k e => by
    rcases e with e | e
    · subst e; exact h.ny
    · have h1 := hX k e
      exact ⟨by omega, fun e2 => by have := hgo k e2; omega⟩) (k45.blk kg4 hg) (r0.kp k05 (fun _ _ e => e) (fun _ _ e => e)) (fun k e => Or.inl e), hP, hon⟩
theorem hc0_shut {w : World} {B gc gy on oc yc M : Nat} {P : Nat → Prop} {OA YA : Option Addr} {lo : List UInt8} (h : RC w B gc gy on oc yc OA YA lo) (hP : ∀ k, (k = gc ∨ obk OA = some k ∨ k = gy) → ¬ P k) (hPw : ∀ k, P k → k < w.heap.size) (hon : on ≤ M) (BA : Option Addr) (bn bc : Nat) (lb : List UInt8) : ∀ W A1 c1, Below w.heap.size w W → Rd W W.heap.size A1 bn c1 lb → Calls Try.prog 65 #[.pointer (some ⟨gc, 0, none⟩), .slice A1 bn c1] W (fun e W1 => ∃ er, e = .returned (.int .i64 er) ∧ Kp W W1 (fun k => k = gc ∨ obk OA = some k ∨ k = gy) ∧ Blk W1 gy (mcs none 0 0 false false zrq YA on yc true) 106 ∧ ∀ W2, Below W1.heap.size W1 W2 → Calls Try.prog 112 #[.agg (mcs none 0 0 false false zrq YA on yc true), .slice BA bn bc] W2 (fun e W3 => ∃ m1, e = .returned (.tuple #[.agg m1, .int .i64 er]) ∧ IsM m1 ∧ Below W2.heap.size W2 W3 ∧ ∀ W4 W5, Blk W4 gy m1 106 → Kp W3 W4 (fun k => k = gy) → Kp W4 W5 (fun k => w.heap.size ≤ k ∧ k < W.heap.size) → (Rel B gc gy P M) W5)) := by
  intro W A1 c1 bW rA
  refine (cfeed_closed gc _ _ _ A1 bn c1 W (h.cn.step bW).box).mono ?_
  rintro e W1 ⟨rfl, rfl⟩
  refine ⟨320, rfl, Kp.refl _ _, h.mb.step bW, fun W2 b2 => ?_⟩
  refine (mfeed_closed none 0 0 false false zrq YA on yc zrq12 BA bn bc W2).mono ?_
  rintro e W3 ⟨rfl, b3⟩
  refine ⟨_, rfl, isM_mcs zrq12, b3, fun W4 W5 kg4 k34 k45 => ?_⟩
  have hgy := h.mb.lt
  have hgc := h.cn.box.lt
  have hgo : ∀ k, obk OA = some k → k < w.heap.size := fun k e => (World.ownsRow.lt h.cn.out k (by rw [obk_eq]; exact e)).2
  exact rel_closed h hP hPw hon bW b2 b3 k34 k45 (fun k e => e.1) kg4 (fun e => by omega)
theorem mcs_put15 {PA : Option Addr} {pn pc : Nat} {br wt : Bool} {rq : List Value} {OY : Option Addr} {yn yc : Nat} {cl : Bool} (h : Rq12 rq) {A : Option Addr} {n c : Nat} : (mcs PA pn pc br wt rq OY yn yc cl).setIfInBounds 15 (.slice A n c) = mcs PA pn pc br wt rq A n c cl := by
  unfold mcs
  rw [List.setIfInBounds_toArray]
  congr 1
  rw [List.set_cons_succ, List.set_cons_succ, List.set_cons_succ, List.set_append_right 12 _ (by rw [h.1]; omega), h.1]
  rfl
theorem hc4_open {w : World} {B gc gp gy n c on oc pc yc M : Nat} {P : Nat → Prop} {A OA PA YA : Option Addr} {l lo : List UInt8} {wv : Value} {wq : Option RQ} {rq : List Value} (h : RO w B gc gp gy n c on oc pc yc A OA PA YA l lo wv wq rq) (hP : ∀ k, GF gc gp gy A OA k → ¬ P k) (hPw : ∀ k, P k → k < w.heap.size) (hon : on ≤ M) (hn : n ≤ 65536) : ∀ W, Below w.heap.size w W → Calls Try.prog 67 #[.pointer (some ⟨gc, 0, none⟩)] W (fun e W1 => ∃ OB om od YB yd BO lp, e = .returned (.slice OB om od) ∧ Own W1 BO OB om od lp ∧ Kp W W1 (GF gc gp gy A OA) ∧ Blk W1 gy (mcs PA n pc false wq.isSome rq YA on yc false) 106 ∧ (mcs PA n pc false wq.isSome rq YA on yc false)[15]? = some (.slice YB om yd) ∧ RdF W1 (fun k => k = gy) YB om yd lp ∧ (∀ k, obk OB = some k → k ≠ gy ∧ (k < w.heap.size → (GF gc gp gy A OA) k)) ∧ ∀ W4 W5, Blk W4 gy ((mcs PA n pc false wq.isSome rq YA on yc false).setIfInBounds 15 (.slice none 0 0)) 106 → Kp W1 W4 (fun k => k = gy) → Kp W4 W5 (fun k => obk OB = some k) → (Rel B gc gy P 0) W5) := by
  intro W bW
  have q12 := h.mq.q12
  have hlt := h.lt
  have cnW := h.cn.step bW
  refine (cout_any B gc gp n c on oc A OA l lo wv wq W cnW).mono ?_
  rintro e W1 ⟨rfl, o1, cn1, g1⟩
  have hk1 := Kp.of_grown g1
  have k01 : Kp w W1 (F0 w gc gp gy A OA) := (Kp.of_below bW (F0 w gc gp gy A OA)).after hk1 (fun k _ e => Or.inl (Or.inl (Or.inl e)))
  refine ⟨OA, on, oc, YA, yc, B, lo, rfl, o1, hk1.weak (fun k e => Or.inl (Or.inl e)), hk1.blk (h.mb.step bW) (fun e => h.ny (Or.inl e)), mcs_15 q12, (h.ry0.kp k01 (fun _ _ e => e) (fun _ _ e => e)).weak (fun k _ e => Or.inl (Or.inr e)), fun k hk => ⟨fun e => h.ny (Or.inr (Or.inr (Or.inr (by rw [← e]; exact hk)))), fun _ => Or.inl (Or.inr (Or.inr (Or.inr hk)))⟩, fun W4 W5 kg4 k14 k45 => ?_⟩
  rw [mcs_put15 q12] at kg4
  have k15 : Kp W1 W5 (fun k => k = gy ∨ obk OA = some k) := (k14.weak (fun k e => Or.inl e)).after k45 (fun k _ e => Or.inr e)
  have hDF : ∀ k, (k = gy ∨ obk OA = some k) → (F0 w gc gp gy A OA) k := fun k e => e.elim (fun e => Or.inl (Or.inr e)) (fun e => Or.inl (Or.inl (Or.inr (Or.inr (Or.inr e)))))
  have k05 := k01.after k15 (fun k _ e => hDF k e)
  have hG' : ∀ k, GF gc gp gy A none k → GF gc gp gy A OA k := by
    intro k hk
    rcases hk with (e | e | e | e) | e
    · exact Or.inl (Or.inl e)
    · exact Or.inl (Or.inr (Or.inl e))
    · exact Or.inl (Or.inr (Or.inr (Or.inl e)))
    · cases e
    · exact Or.inr e
  have hny : ¬ FP gc gp A none gy := fun e => (by
    rcases e with e | e | e | e
    · exact h.ny (Or.inl e)
    · exact h.ny (Or.inr (Or.inl e))
    · exact h.ny (Or.inr (Or.inr (Or.inl e)))
    · cases e)
  exact Or.inl ⟨gp, n, c, 0, 0, pc, 0, A, none, PA, none, l, [], wv, wq, rq,
    ro_of cn1 (h.wt0.kp k01 (fun _ _ e => e) (fun _ _ e => e)) (fun k e => Or.inl (hG' k e)) hny k15 (fun k _ e => hDF k e) (fun k e hf => by
      rcases e with e | e
      · exact hny (by rw [← e]; exact hf)
      · rcases hf with e2 | e2 | e2 | e2
        · exact cnW.oc_ (by rw [← e2]; exact e)
        · exact cnW.op_ (by rw [← e2]; exact e)
        · exact cnW.oa k e2 e
        · cases e2) (k45.blk kg4 (fun e => h.ny (Or.inr (Or.inr (Or.inr e))))) (h.rp0.kp k05 (fun _ _ e => e) (fun _ _ e => e)) (fun k e => Or.inl (hG' k e)) (RdF.none0 W5 (fun _ => True)) (fun _ _ => trivial) (h.mq0.kp k05 (fun _ _ e => e) (fun _ _ e => e)) (fun k e => Or.inl (hG' k e)), (fun k e => hP k (hG' k e)), Nat.le_refl _, hn⟩
theorem hc4_shut {w : World} {B gc gy on oc yc M : Nat} {P : Nat → Prop} {OA YA : Option Addr} {lo : List UInt8} (h : RC w B gc gy on oc yc OA YA lo) (hP : ∀ k, (k = gc ∨ obk OA = some k ∨ k = gy) → ¬ P k) (hPw : ∀ k, P k → k < w.heap.size) (hon : on ≤ M) : ∀ W, Below w.heap.size w W → Calls Try.prog 67 #[.pointer (some ⟨gc, 0, none⟩)] W (fun e W1 => ∃ OB om od YB yd BO lp, e = .returned (.slice OB om od) ∧ Own W1 BO OB om od lp ∧ Kp W W1 (fun k => k = gc ∨ obk OA = some k ∨ k = gy) ∧ Blk W1 gy (mcs none 0 0 false false zrq YA on yc true) 106 ∧ (mcs none 0 0 false false zrq YA on yc true)[15]? = some (.slice YB om yd) ∧ RdF W1 (fun k => k = gy) YB om yd lp ∧ (∀ k, obk OB = some k → k ≠ gy ∧ (k < w.heap.size → (fun k => k = gc ∨ obk OA = some k ∨ k = gy) k)) ∧ ∀ W4 W5, Blk W4 gy ((mcs none 0 0 false false zrq YA on yc true).setIfInBounds 15 (.slice none 0 0)) 106 → Kp W1 W4 (fun k => k = gy) → Kp W4 W5 (fun k => obk OB = some k) → (Rel B gc gy P 0) W5) := by
  intro W bW
  have cnW := h.cn.step bW
  have hgo : ∀ k, obk OA = some k → k < w.heap.size := fun k e => (World.ownsRow.lt h.cn.out k (by rw [obk_eq]; exact e)).2
  refine (cout_closed B gc on oc OA lo W cnW).mono ?_
  rintro e W1 ⟨rfl, o1, cn1, g1⟩
  have hk1 := Kp.of_grown g1
  have r0 : RdF w (fun k => (k = gc ∨ obk OA = some k ∨ k = gy) ∨ w.heap.size ≤ k) YA on yc lo := h.ry.weak (fun k hk e => e.elim id (fun e => by omega))
  have k01 := (Kp.of_below bW (fun k => (k = gc ∨ obk OA = some k ∨ k = gy) ∨ w.heap.size ≤ k)).after hk1 (fun k _ e => Or.inl (Or.inl e))
  refine ⟨OA, on, oc, YA, yc, B, lo, rfl, o1, hk1.weak (fun k e => Or.inl e), hk1.blk (h.mb.step bW) h.ny.1, mcs_15 zrq12, (r0.kp k01 (fun _ _ e => e) (fun _ _ e => e)).weak (fun k _ e => Or.inl (Or.inr (Or.inr e))), fun k hk => ⟨fun e => h.ny.2 (by rw [← e]; exact hk), fun _ => Or.inr (Or.inl hk)⟩, fun W4 W5 kg4 k14 k45 => ?_⟩
  rw [mcs_put15 zrq12] at kg4
  have k15 : Kp W1 W5 (fun k => k = gy ∨ obk OA = some k) := (k14.weak (fun k e => Or.inl e)).after k45 (fun k _ e => Or.inr e)
  exact Or.inr ⟨0, 0, 0, none, none, [], rc_of cn1 ⟨h.ny.1, fun e => by cases e⟩ k15 (fun k e => by
    rcases e with e | e
    · subst e; exact ⟨h.ny.1, fun e => by cases e⟩
    · exact ⟨fun e2 => h.cn.oc_ (by rw [← e2]; exact e), fun e => by cases e⟩) (k45.blk kg4 h.ny.2) (RdF.none0 W5 (fun _ => True)) (fun _ _ => trivial), (fun k e => hP k (by rcases e with e | e | e; exact Or.inl e; cases e; exact Or.inr (Or.inr e))), Nat.le_refl _⟩
end
section
set_option linter.unusedSimpArgs false
open Go.RowKit
theorem zsame (W : World) : Calls Try.prog 45 #[.agg (reqL zQ none 0 0 none 0 0).toArray, .agg zrq.toArray] W (PSame true W) := by
  have h := rqsame_any 0 0 0 0 false false false false 0 0 0 0 0 0 0 0 0 0 0 0 none none none none 0 0 0 0 0 0 0 0 [] [] [] [] W (Rd.nil W _) (Rd.nil W _) (Rd.nil W _) (Rd.nil W _)
  rw [reqSame_yes ⟨rfl, rfl, rfl, rfl, rfl, rfl, rfl, rfl, rfl, rfl, rfl, rfl⟩] at h
  exact h
theorem qsame_self (q : RQ) (K K2 V V2 : Option Addr) (nk ck nk2 ck2 nv cv nv2 cv2 : Nat) (W : World) (r1 : Rd W W.heap.size K nk ck q.lk) (r2 : Rd W W.heap.size K2 nk2 ck2 q.lk) (r3 : Rd W W.heap.size V nv cv q.lv) (r4 : Rd W W.heap.size V2 nv2 cv2 q.lv) : Calls Try.prog 45 #[.agg (reqL q K nk ck V nv cv).toArray, .agg (reqL q K2 nk2 ck2 V2 nv2 cv2).toArray] W (PSame true W) := by
  have h := rqsame_any q.op q.op q.bd q.bd q.qt q.qt q.fu q.fu q.oq q.oq q.fl q.fl q.ex q.ex q.cs q.cs q.dl q.dl q.ni q.ni K K2 V V2 nk ck nk2 ck2 nv cv nv2 cv2 q.lk q.lk q.lv q.lv W r1 r2 r3 r4
  rw [reqSame_yes ⟨rfl, rfl, rfl, rfl, rfl, rfl, rfl, rfl, rfl, rfl, rfl, rfl⟩] at h
  exact h
theorem hc1_open {w : World} {B gc gp gy n c on oc pc yc M : Nat} {P : Nat → Prop} {A OA PA YA : Option Addr} {l lo : List UInt8} {wv : Value} {wq : Option RQ} {rq : List Value} (h : RO w B gc gp gy n c on oc pc yc A OA PA YA l lo wv wq rq) (hP : ∀ k, GF gc gp gy A OA k → ¬ P k) (hPw : ∀ k, P k → k < w.heap.size) (hon : on ≤ M) (hn : n ≤ 65536) (hM : M ≤ 100000000000) : ∀ W, Below w.heap.size w W → Calls Try.prog 64 #[.pointer (some ⟨gc, 0, none⟩)] W (fun e W1 => ∃ q K nk ck V nv cv ok lk, e = .returned (.tuple #[.agg (reqL q K nk ck V nv cv).toArray, .bool ok]) ∧ Own W1 W.heap.size K nk ck lk ∧ Kp W W1 (GF gc gp gy A OA) ∧ Blk W1 gy (mcs PA n pc false wq.isSome rq YA on yc false) 106 ∧ ∀ W2, Below W1.heap.size W1 W2 → Calls Try.prog 113 #[.agg (mcs PA n pc false wq.isSome rq YA on yc false)] W2 (fun e W3 => ∃ m1 rm, e = .returned (.tuple #[.agg m1, .agg rm.toArray, .bool ok]) ∧ IsM m1 ∧ Below W2.heap.size W2 W3 ∧ Rq12 rm ∧ (∀ W4, Kp W3 W4 (fun k => k = gy) → Calls Try.prog 45 #[.agg (reqL q K nk ck V nv cv).toArray, .agg rm.toArray] W4 (PSame true W4)) ∧ ∀ W4 W5, Blk W4 gy m1 106 → Kp W3 W4 (fun k => k = gy) → Kp W4 W5 (fun k => obk K = some k) → (Rel B gc gy P (M + 1000)) W5)) := by
  intro W bW
  have hlt := h.lt
  have cnW := h.cn.step bW
  have hWs := bW.size
  have hgy := hlt gy (Or.inr rfl)
  have q12 := h.mq.q12
  cases wq with
  | some q =>
    obtain ⟨K0, nk0, ck0, V0, nv0, cv0, hrq, rK0, rV0, -, hpr⟩ := h.mq0
    have hq := hpr q rfl
    have h1 := hq.lk
    have h2 := hq.lv
    refine (cnext_waits B gc gp n c on oc A OA l lo W wv q cnW ⟨by omega, by omega⟩).mono ?_
    rintro e W1 ⟨K, nk, ck, V, nv, cv, rfl, oK, oV, cn1, -, b1⟩
    have k01 : Kp w W1 (F0 w gc gp gy A OA) := (Kp.of_below bW (F0 w gc gp gy A OA)).after (Kp.of_below b1 (F0 w gc gp gy A OA)) (fun _ _ e => e)
    refine ⟨q, K, nk, ck, V, nv, cv, true, q.lk, rfl, oK, Kp.of_below b1 _, (h.mb.step bW).step b1, fun W2 b2 => ?_⟩
    refine (mnext_waits PA n pc false rq YA on yc q12 W2).mono ?_
    rintro e W3 ⟨rfl, b3⟩
    have k03 := (k01.after (Kp.of_below b2 (F0 w gc gp gy A OA)) (fun _ _ e => e)).after (Kp.of_below b3 (F0 w gc gp gy A OA)) (fun _ _ e => e)
    have hfK : ∀ k, obk K = some k → W.heap.size ≤ k := fun k hk => (World.ownsRow.lt oK k (by rw [obk_eq]; exact hk)).1
    have hfV : ∀ k, obk V = some k → W.heap.size ≤ k := fun k hk => (World.ownsRow.lt oV k (by rw [obk_eq]; exact hk)).1
    refine ⟨_, rq, rfl, isM_mcs q12, b3, q12, fun W4 k34 => ?_, fun W4 W5 kg4 k34 k45 => ?_⟩
    · have k04 := k03.after k34 (fun k _ e => Or.inl (Or.inr e))
      rw [hrq]
      exact qsame_self q K K0 V V0 nk ck nk0 ck0 nv cv nv0 cv0 W4 ((((oK.step b2).step b3).kp k34 (fun k hk e => by have := hfK k hk; omega)).rd) (rK0.kp k04 (fun _ _ e => e) (fun _ _ e => e)).1 ((((oV.step b2).step b3).kp k34 (fun k hk e => by have := hfV k hk; omega)).rd) (rV0.kp k04 (fun _ _ e => e) (fun _ _ e => e)).1
    have k35 : Kp W3 W5 (fun k => k = gy ∨ obk K = some k) := (k34.weak (fun k e => Or.inl e)).after k45 (fun k _ e => Or.inr e)
    have k15 := ((Kp.of_below b2 (fun k => k = gy ∨ obk K = some k)).after (Kp.of_below b3 (fun k => k = gy ∨ obk K = some k)) (fun _ _ e => e)).after k35 (fun _ _ e => e)
    have hDF : ∀ k, (k = gy ∨ obk K = some k) → (F0 w gc gp gy A OA) k := fun k e => e.elim (fun e => Or.inl (Or.inr e)) (fun e => Or.inr (by have := hfK k e; omega))
    have k05 := k01.after k15 (fun k _ e => hDF k e)
    have hG' : ∀ k, GF gc gp gy A OA k → (F0 w gc gp gy A OA) k := fun k e => Or.inl e
    exact Or.inl ⟨gp, n, c, on, oc, pc, yc, A, OA, PA, YA, l, lo, wv, some q, rq,
      ro_of cn1 (h.wt0.kp k01 (fun _ _ e => e) (fun _ _ e => e)) hG' h.ny k15 (fun k _ e => hDF k e) (fun k e hf => by rcases e with e | e; exact h.ny (by rw [← e]; exact hf); have := hlt k (Or.inl hf); have := hfK k e; omega) (k45.blk kg4 (fun e => by have := hfK gy e; omega)) (h.rp0.kp k05 (fun _ _ e => e) (fun _ _ e => e)) hG' (h.ry0.kp k05 (fun _ _ e => e) (fun _ _ e => e)) hG' (h.mq0.kp k05 (fun _ _ e => e) (fun _ _ e => e)) hG', hP, by omega, hn⟩
  | none =>
    obtain rfl : wv = .pointer none := h.cn.wait
    obtain ⟨-, -, -, -, -, -, -, -, -, hz, -⟩ := h.mq
    obtain rfl := hz rfl
    cases hx : nxt l with
    | none =>
      refine (cnext_bad B gc gp n c on oc A OA l lo W cnW hx (by omega)).mono ?_
      rintro e W1 ⟨OA', oc', rfl, cn1, hk1, hO'⟩
      have k01 : Kp w W1 (F0 w gc gp gy A OA) := (Kp.of_below bW (F0 w gc gp gy A OA)).after hk1 (fun k _ e => Or.inl (Or.inl e))
      refine ⟨zQ, none, 0, 0, none, 0, 0, false, [], rfl, Own.nil _ _, hk1.weak (fun k e => Or.inl e), hk1.blk (h.mb.step bW) h.ny, fun W2 b2 => ?_⟩
      have k02 := k01.after (Kp.of_below b2 (F0 w gc gp gy A OA)) (fun _ _ e => e)
      refine (mnext_bad PA n pc zrq YA on yc zrq12 l lo W2 (h.rp0.kp k02 (fun _ _ e => e) (fun _ _ e => e)).1 hx (h.ry0.kp k02 (fun _ _ e => e) (fun _ _ e => e)).1 (by omega)).mono ?_
      rintro e W3 ⟨A2, c2, rfl, o3, b3⟩
      refine ⟨_, zrq, rfl, isM_mcs zrq12, b3, zrq12, fun W4 _ => zsame W4, fun W4 W5 kg4 k34 k45 => ?_⟩
      have hs1 := hk1.size
      have hs2 := b2.size
      have k35 : Kp W3 W5 (fun k => k = gy) := k34.after k45 (fun k _ e => by cases e)
      have k15 := ((Kp.of_below b2 (fun k => k = gy)).after (Kp.of_below b3 (fun k => k = gy)) (fun _ _ e => e)).after k35 (fun _ _ e => e)
      have hO2 : ∀ k, obk OA' = some k → obk OA = some k ∨ W.heap.size ≤ k := fun k e => by
        rcases hO' with e2 | ⟨k2, e2, e3⟩
        · rw [e2] at e; exact Or.inl e
        · rw [e2] at e; injection e with e; exact Or.inr (by omega)
      have hO3 : ∀ k, obk OA' = some k → k < W1.heap.size := fun k e => (World.ownsRow.lt cn1.out k (by rw [obk_eq]; exact e)).2
      have hgc := cn1.box.lt
      have hny : gy ≠ gc ∧ obk OA' ≠ some gy := ⟨fun e => h.ny (Or.inl e), fun e => by rcases hO2 gy e with e | e; exact h.ny (Or.inr (Or.inr (Or.inr e))); omega⟩
      have rp5 := (o3.rdF (F := fun k => k < W2.heap.size) (fun _ e => e)).kp (F' := fun k => k < W2.heap.size) k35 (fun k _ e => by omega) (fun _ _ e => e)
      exact Or.inr ⟨on + malB.length, oc', c2, OA', A2, lo ++ malB, rc_of cn1 hny k15 (fun k e => by subst e; exact hny) (k45.blk kg4 (fun e => by cases e)) rp5 (fun k e => by
        show k < W2.heap.size
        rcases e with e | e | e
        · omega
        · have := hO3 k e; omega
        · omega), (fun k e hp => by
        have hkw := hPw k hp
        rcases e with e | e | e
        · exact hP k (Or.inl (Or.inl e)) hp
        · rcases hO2 k e with e | e
          · exact hP k (Or.inl (Or.inr (Or.inr (Or.inr e)))) hp
          · omega
        · exact hP k (Or.inr e) hp), by have := mal_len; omega⟩
    | some o =>
      cases o with
      | none =>
        refine (cnext_wait B gc gp n c on oc A OA l lo W cnW hx).mono ?_
        rintro e W1 ⟨rfl, cn1, b1⟩
        have k01 : Kp w W1 (F0 w gc gp gy A OA) := (Kp.of_below bW (F0 w gc gp gy A OA)).after (Kp.of_below b1 (F0 w gc gp gy A OA)) (fun _ _ e => e)
        refine ⟨zQ, none, 0, 0, none, 0, 0, false, [], rfl, Own.nil _ _, Kp.of_below b1 _, (h.mb.step bW).step b1, fun W2 b2 => ?_⟩
        have k02 := k01.after (Kp.of_below b2 (F0 w gc gp gy A OA)) (fun _ _ e => e)
        refine (mnext_wait PA n pc zrq YA on yc zrq12 l W2 (h.rp0.kp k02 (fun _ _ e => e) (fun _ _ e => e)).1 hx).mono ?_
        rintro e W3 ⟨rfl, b3⟩
        refine ⟨_, zrq, rfl, isM_mcs zrq12, b3, zrq12, fun W4 _ => zsame W4, fun W4 W5 kg4 k34 k45 => ?_⟩
        have k35 : Kp W3 W5 (fun k => k = gy) := k34.after k45 (fun k _ e => by cases e)
        have k15 := ((Kp.of_below b2 (fun k => k = gy)).after (Kp.of_below b3 (fun k => k = gy)) (fun _ _ e => e)).after k35 (fun _ _ e => e)
        have k05 := k01.after k15 (fun k _ e => Or.inl (Or.inr e))
        have hG' : ∀ k, GF gc gp gy A OA k → (F0 w gc gp gy A OA) k := fun k e => Or.inl e
        exact Or.inl ⟨gp, n, c, on, oc, pc, yc, A, OA, PA, YA, l, lo, .pointer none, none, zrq,
          ro_of cn1 (h.wt0.kp k01 (fun _ _ e => e) (fun _ _ e => e)) hG' h.ny k15 (fun k _ e => Or.inl (Or.inr e)) (fun k e hf => h.ny (by rw [← e]; exact hf)) (k45.blk kg4 (fun e => by cases e)) (h.rp0.kp k05 (fun _ _ e => e) (fun _ _ e => e)) hG' (h.ry0.kp k05 (fun _ _ e => e) (fun _ _ e => e)) hG' (h.mq0.kp k05 (fun _ _ e => e) (fun _ _ e => e)) hG', hP, by omega, hn⟩
      | some qn =>
        obtain ⟨q, N⟩ := qn
        have hq := nxt_pr hx
        have h1 := hq.lk
        have h2 := hq.lv
        refine (cnext_new B gc gp n c on oc A OA l lo W cnW q N hx ⟨by omega, by omega⟩).mono ?_
        rintro e W1 ⟨K, nk, ck, V, nv, cv, A', c', wv', rfl, oK, oV, cn1, wt1, hk1, hA'⟩
        have k01 : Kp w W1 (F0 w gc gp gy A OA) := (Kp.of_below bW (F0 w gc gp gy A OA)).after hk1 (fun k _ e => Or.inl (Or.inl e))
        refine ⟨q, K, nk, ck, V, nv, cv, true, q.lk, rfl, oK, hk1.weak (fun k e => Or.inl e), hk1.blk (h.mb.step bW) h.ny, fun W2 b2 => ?_⟩
        have k02 := k01.after (Kp.of_below b2 (F0 w gc gp gy A OA)) (fun _ _ e => e)
        refine (mnext_yes PA n pc zrq YA on yc zrq12 l W2 (h.rp0.kp k02 (fun _ _ e => e) (fun _ _ e => e)).1 q N hx hn).mono ?_
        rintro e W3 ⟨K2, V2, nk2, ck2, nv2, cv2, X3, cx3, rfl, oX, oK2, oV2, b3⟩
        have hfK : ∀ k, obk K = some k → W.heap.size ≤ k ∧ k < W1.heap.size := fun k hk => World.ownsRow.lt oK k (by rw [obk_eq]; exact hk)
        have hfV : ∀ k, obk V = some k → W.heap.size ≤ k := fun k hk => (World.ownsRow.lt oV k (by rw [obk_eq]; exact hk)).1
        have hs1 := hk1.size
        have hs2 := b2.size
        have f2 := (oK2.rdF (F := fun k => k < W2.heap.size) (fun _ e => e))
        have f3 := (oV2.rdF (F := fun k => k < W2.heap.size) (fun _ e => e))
        have f1 := (oX.rdF (F := fun k => k < W2.heap.size) (fun _ e => e))
        refine ⟨_, _, rfl, isM_mcs (reqL12 _ _ _ _ _ _ _), b3, reqL12 _ _ _ _ _ _ _, fun W4 k34 => ?_, fun W4 W5 kg4 k34 k45 => ?_⟩
        · exact qsame_self q K K2 V V2 nk ck nk2 ck2 nv cv nv2 cv2 W4 ((((oK.step b2).step b3).kp k34 (fun k hk e => by have := hfK k hk; omega)).rd) (f2.kp (F' := fun _ => False) k34 (fun k _ e => by omega) (fun _ _ e => e.elim)).1 ((((oV.step b2).step b3).kp k34 (fun k hk e => by have := hfV k hk; omega)).rd) (f3.kp (F' := fun _ => False) k34 (fun k _ e => by omega) (fun _ _ e => e.elim)).1
        have k35 : Kp W3 W5 (fun k => k = gy ∨ obk K = some k) := (k34.weak (fun k e => Or.inl e)).after k45 (fun k _ e => Or.inr e)
        have k15 := ((Kp.of_below b2 (fun k => k = gy ∨ obk K = some k)).after (Kp.of_below b3 (fun k => k = gy ∨ obk K = some k)) (fun _ _ e => e)).after k35 (fun _ _ e => e)
        have hDF : ∀ k, (k = gy ∨ obk K = some k) → (F0 w gc gp gy A OA) k := fun k e => e.elim (fun e => Or.inl (Or.inr e)) (fun e => Or.inr (by have := hfK k e; omega))
        have k05 := k01.after k15 (fun k _ e => hDF k e)
        have hD2 : ∀ k, (k = gy ∨ obk K = some k) → k < W2.heap.size := fun k e => e.elim (fun e => by omega) (fun e => by have := hfK k e; omega)
        have hFP : ∀ k, FP gc gp A' OA k → FP gc gp A OA k := fun k e => by
          rcases e with e | e | e | e
          · exact Or.inl e
          · exact Or.inr (Or.inl e)
          · rw [hA'] at e; exact Or.inr (Or.inr (Or.inl e))
          · exact Or.inr (Or.inr (Or.inr e))
        have hGG : ∀ k, GF gc gp gy A' OA k → GF gc gp gy A OA k := fun k e => e.elim (fun e => Or.inl (hFP k e)) Or.inr
        have hG3 : ∀ k, GF gc gp gy A' OA k → k < W2.heap.size := fun k e => by have := hlt k (hGG k e); omega
        have mq3 : MQ W5 (fun k => k < W2.heap.size) (reqL q K2 nk2 ck2 V2 nv2 cv2) (some q) := ⟨K2, nk2, ck2, V2, nv2, cv2, rfl, f2.kp k35 (fun k _ e => hD2 k e) (fun _ _ e => e), f3.kp k35 (fun k _ e => hD2 k e) (fun _ _ e => e), fun e => (by cases e), fun p hp => (by injection hp with hp; subst hp; exact hq)⟩
        exact Or.inl ⟨gp, n - N, c', on, oc, cx3, yc, A', OA, X3, YA, l.drop N, lo, wv', some q, _,
          ro_of cn1 wt1 (fun k e => e.elim (fun e => Or.inr (Or.inl e)) (fun e => Or.inl (by omega))) (fun e => h.ny (hFP gy e)) k15 (fun k _ e => e.elim (fun e => Or.inl (by omega)) (fun e => Or.inr (Or.inr (Or.inl e)))) (fun k e hf => by rcases e with e | e; exact h.ny (hFP gy (by rw [← e]; exact hf)); have := hlt k (Or.inl (hFP k hf)); have := hfK k e; omega) (k45.blk kg4 (fun e => by have := hfK gy e; omega)) (f1.kp k35 (fun k _ e => hD2 k e) (fun _ _ e => e)) hG3 (h.ry0.kp k05 (fun _ _ e => e) (fun _ _ e => e)) (fun k e => Or.inl (hGG k e)) mq3 hG3, (fun k e => hP k (hGG k e)), by omega, by omega⟩
theorem hc1_shut {w : World} {B gc gy on oc yc M : Nat} {P : Nat → Prop} {OA YA : Option Addr} {lo : List UInt8} (h : RC w B gc gy on oc yc OA YA lo) (hP : ∀ k, (k = gc ∨ obk OA = some k ∨ k = gy) → ¬ P k) (hPw : ∀ k, P k → k < w.heap.size) (hon : on ≤ M) : ∀ W, Below w.heap.size w W → Calls Try.prog 64 #[.pointer (some ⟨gc, 0, none⟩)] W (fun e W1 => ∃ q K nk ck V nv cv ok lk, e = .returned (.tuple #[.agg (reqL q K nk ck V nv cv).toArray, .bool ok]) ∧ Own W1 W.heap.size K nk ck lk ∧ Kp W W1 (fun k => k = gc ∨ obk OA = some k ∨ k = gy) ∧ Blk W1 gy (mcs none 0 0 false false zrq YA on yc true) 106 ∧ ∀ W2, Below W1.heap.size W1 W2 → Calls Try.prog 113 #[.agg (mcs none 0 0 false false zrq YA on yc true)] W2 (fun e W3 => ∃ m1 rm, e = .returned (.tuple #[.agg m1, .agg rm.toArray, .bool ok]) ∧ IsM m1 ∧ Below W2.heap.size W2 W3 ∧ Rq12 rm ∧ (∀ W4, Kp W3 W4 (fun k => k = gy) → Calls Try.prog 45 #[.agg (reqL q K nk ck V nv cv).toArray, .agg rm.toArray] W4 (PSame true W4)) ∧ ∀ W4 W5, Blk W4 gy m1 106 → Kp W3 W4 (fun k => k = gy) → Kp W4 W5 (fun k => obk K = some k) → (Rel B gc gy P (M + 1000)) W5)) := by
  intro W bW
  refine (cnext_closed gc _ _ _ W (h.cn.step bW).box).mono ?_
  rintro e W1 ⟨rfl, b1⟩
  refine ⟨zQ, none, 0, 0, none, 0, 0, false, [], rfl, Own.nil _ _, Kp.of_below b1 _, (h.mb.step bW).step b1, fun W2 b2 => ?_⟩
  refine (mnext_closed none 0 0 false false zrq YA on yc zrq12 W2).mono ?_
  rintro e W3 ⟨rfl, b3⟩
  exact ⟨_, zrq, rfl, isM_mcs zrq12, b3, zrq12, fun W4 _ => zsame W4, fun W4 W5 kg4 k34 k45 => (rel_closed h hP hPw hon bW (b1.trans (b2.mono b1.size)) b3 k34 k45 (fun k e => by cases e) kg4 (fun e => by cases e)).more (by omega)⟩
end
section
set_option linter.unusedSimpArgs false
open Go.RowKit
theorem hca_open {w : World} {B gc gp gy n c on oc pc yc M : Nat} {P : Nat → Prop} {A OA PA YA : Option Addr} {l lo : List UInt8} {wv : Value} {wq : Option RQ} {rq : List Value} (h : RO w B gc gp gy n c on oc pc yc A OA PA YA l lo wv wq rq) (hP : ∀ k, GF gc gp gy A OA k → ¬ P k) (hPw : ∀ k, P k → k < w.heap.size) (hon : on ≤ M) (hn : n ≤ 65536) (hM : M ≤ 90000000000) (p : RQ) (st : Int) (VA : Option Addr) (nva cva : Nat) (lva : List UInt8) (af ac an : Nat) (SA : Option Addr) (ns sc : Nat) (SL : List (ByteArray × ByteArray)) (acl : Bool) (ra : RdN w (fun k => ¬ P k) VA nva cva lva) (rS : RzN w (fun k => ¬ P k) 2 SA ns sc (SL.map stCells).flatten) (hsl : SL.length = ns) (hns : ns ≤ 9223372036854775800) (haf : af < 4294967296) (hac : ac < 18446744073709551616) (han : an < 18446744073709551616) : ∀ (W : World) (K : Option Addr) (nk ck : Nat) (V : Option Addr) (nv cv : Nat), Below w.heap.size w W → Rd W W.heap.size K nk ck p.lk → Rd W W.heap.size V nv cv p.lv → Calls Try.prog 66 #[.pointer (some ⟨gc, 0, none⟩), .agg (reqL p K nk ck V nv cv).toArray, .agg (ansL st VA nva cva af ac an SA ns sc acl).toArray] W (fun e W1 => ∃ er, e = .returned (.int .i64 er) ∧ Kp W W1 (GF gc gp gy A OA) ∧ Blk W1 gy (mcs PA n pc false wq.isSome rq YA on yc false) 106 ∧ (Rd W1 W1.heap.size K nk ck p.lk → Rd W1 W1.heap.size V nv cv p.lv → ∀ W2, Below W1.heap.size W1 W2 → Calls Try.prog 114 #[.agg (mcs PA n pc false wq.isSome rq YA on yc false), .agg (reqL p K nk ck V nv cv).toArray, .agg (ansL st VA nva cva af ac an SA ns sc acl).toArray] W2 (fun e W3 => ∃ m1, e = .returned (.tuple #[.agg m1, .int .i64 er]) ∧ IsM m1 ∧ Below W2.heap.size W2 W3 ∧ ∀ W4 W5, Blk W4 gy m1 106 → Kp W3 W4 (fun k => k = gy) → Kp W4 W5 (fun _ => False) → (Rel B gc gy P (M + 20000)) W5))) := by
  intro W K nk ck V nv cv bW rk rv
  have hlt := h.lt
  have cnW := h.cn.step bW
  have hWs := bW.size
  have hgy := hlt gy (Or.inr rfl)
  have q12 := h.mq.q12
  have kPW : Kp w W (fun k => ¬ P k) := Kp.of_below bW _
  have raW := ra.kp kPW (fun _ _ e => e) (fun _ _ e => e)
  have rSW := rS.kp kPW (fun _ _ e => e) (fun _ _ e => e)
  cases wq with
  | none =>
    obtain rfl : wv = .pointer none := h.cn.wait
    refine (canswer_none gc _ _ p.op p.qt p.fu p.bd p.oq p.fl p.ex p.cs p.dl p.ni (.slice K nk ck) (.slice V nv cv) st (.slice VA nva cva) (.slice SA ns sc) af ac an acl W cnW.box).mono ?_
    rintro e W1 ⟨rfl, b1⟩
    have k01 : Kp w W1 (F0 w gc gp gy A OA) := (Kp.of_below bW (F0 w gc gp gy A OA)).after (Kp.of_below b1 (F0 w gc gp gy A OA)) (fun _ _ e => e)
    refine ⟨4, rfl, Kp.of_below b1 _, (h.mb.step bW).step b1, fun _ _ W2 b2 => ?_⟩
    refine (manswer_none PA n pc false rq YA on yc q12 _ _ W2).mono ?_
    rintro e W3 ⟨rfl, b3⟩
    refine ⟨_, rfl, isM_mcs q12, b3, fun W4 W5 kg4 k34 k45 => ?_⟩
    have k35 : Kp W3 W5 (fun k => k = gy) := k34.after k45 (fun k _ e => e.elim)
    have k15 := ((Kp.of_below b2 (fun k => k = gy)).after (Kp.of_below b3 (fun k => k = gy)) (fun _ _ e => e)).after k35 (fun _ _ e => e)
    have k05 := k01.after k15 (fun k _ e => Or.inl (Or.inr e))
    have hG' : ∀ k, GF gc gp gy A OA k → (F0 w gc gp gy A OA) k := fun k e => Or.inl e
    exact Or.inl ⟨gp, n, c, on, oc, pc, yc, A, OA, PA, YA, l, lo, .pointer none, none, rq,
      ro_of (cnW.step b1) (h.wt0.kp k01 (fun _ _ e => e) (fun _ _ e => e)) hG' h.ny k15 (fun k _ e => Or.inl (Or.inr e)) (fun k e hf => h.ny (by rw [← e]; exact hf)) (k45.blk kg4 (fun e => e)) (h.rp0.kp k05 (fun _ _ e => e) (fun _ _ e => e)) hG' (h.ry0.kp k05 (fun _ _ e => e) (fun _ _ e => e)) hG' (h.mq0.kp k05 (fun _ _ e => e) (fun _ _ e => e)) hG', hP, by omega, hn⟩
  | some q =>
    obtain ⟨K0, nk0, ck0, V0, nv0, cv0, hrq, rK0, rV0, -, hpr⟩ := h.mq0
    have hq := hpr q rfl
    have hrq : rq = reqL q K0 nk0 ck0 V0 nv0 cv0 := hrq
    subst hrq
    by_cases hno : (reqSame q.op p.op q.bd p.bd q.qt p.qt q.fu p.fu q.oq p.oq q.fl p.fl q.ex p.ex q.cs p.cs q.dl p.dl q.ni p.ni q.lk p.lk q.lv p.lv = true → wrongA st p.op nva af ac an ns SL = true)
    · refine (canswer_no B gc gp n c on oc A OA l lo wv q W cnW p.op p.qt p.fu p.bd p.oq p.fl p.ex p.cs p.dl p.ni K nk ck V nv cv p.lk p.lv rk rv st VA nva cva af ac an SA ns sc acl SL rSW.1 hsl hns hno).mono ?_
      rintro e W1 ⟨rfl, cn1, b1⟩
      have k01 : Kp w W1 (F0 w gc gp gy A OA) := (Kp.of_below bW (F0 w gc gp gy A OA)).after (Kp.of_below b1 (F0 w gc gp gy A OA)) (fun _ _ e => e)
      refine ⟨2, rfl, Kp.of_below b1 _, (h.mb.step bW).step b1, fun rk1 rv1 W2 b2 => ?_⟩
      have k02 := k01.after (Kp.of_below b2 (F0 w gc gp gy A OA)) (fun _ _ e => e)
      have rS2 := (rSW.kp ((Kp.of_below b1 (fun k => ¬ P k)).after (Kp.of_below b2 _) (fun _ _ e => e)) (fun _ _ e => e) (fun _ _ e => e))
      refine (manswer_no PA n pc false YA on yc q p K0 nk0 ck0 V0 nv0 cv0 K nk ck V nv cv st VA nva cva af ac an SA ns sc acl W2 (rK0.kp k02 (fun _ _ e => e) (fun _ _ e => e)).1 (rV0.kp k02 (fun _ _ e => e) (fun _ _ e => e)).1 (rk1.step b2) (rv1.step b2) SL rS2.1 hsl hns hno).mono ?_
      rintro e W3 ⟨rfl, b3⟩
      refine ⟨_, rfl, isM_mcs q12, b3, fun W4 W5 kg4 k34 k45 => ?_⟩
      have k35 : Kp W3 W5 (fun k => k = gy) := k34.after k45 (fun k _ e => e.elim)
      have k15 := ((Kp.of_below b2 (fun k => k = gy)).after (Kp.of_below b3 (fun k => k = gy)) (fun _ _ e => e)).after k35 (fun _ _ e => e)
      have k05 := k01.after k15 (fun k _ e => Or.inl (Or.inr e))
      have hG' : ∀ k, GF gc gp gy A OA k → (F0 w gc gp gy A OA) k := fun k e => Or.inl e
      exact Or.inl ⟨gp, n, c, on, oc, pc, yc, A, OA, PA, YA, l, lo, wv, some q, _,
        ro_of cn1 (h.wt0.kp k01 (fun _ _ e => e) (fun _ _ e => e)) hG' h.ny k15 (fun k _ e => Or.inl (Or.inr e)) (fun k e hf => h.ny (by rw [← e]; exact hf)) (k45.blk kg4 (fun e => e)) (h.rp0.kp k05 (fun _ _ e => e) (fun _ _ e => e)) hG' (h.ry0.kp k05 (fun _ _ e => e) (fun _ _ e => e)) hG' (h.mq0.kp k05 (fun _ _ e => e) (fun _ _ e => e)) hG', hP, by omega, hn⟩
    · have hsm : reqSame q.op p.op q.bd p.bd q.qt p.qt q.fu p.fu q.oq p.oq q.fl p.fl q.ex p.ex q.cs p.cs q.dl p.dl q.ni p.ni q.lk p.lk q.lv p.lv = true := Classical.byContradiction fun h0 => hno (fun h1 => absurd h1 h0)
      have hw : wrongA st p.op nva af ac an ns SL = false := by
        cases hw : wrongA st p.op nva af ac an ns SL with
        | false => rfl
        | true => exact absurd (fun _ => hw) hno
      have epq : p = q := by
        have e := of_decide_eq_true hsm
        obtain ⟨e1, e2, e3, e4, e5, e6, e7, e8, e9, e10, e11, e12⟩ := e
        cases p; cases q
        simp only at e1 e2 e3 e4 e5 e6 e7 e8 e9 e10 e11 e12
        subst e1; subst e2; subst e3; subst e4; subst e5; subst e6; subst e7; subst e8; subst e9; subst e10; subst e11; subst e12
        rfl
      subst epq
      clear hsm hno
      obtain ⟨R, hR, hRl⟩ := ofR_ok hq hw raW.1.len hsl
      have hl2 := wrong_lens hw
      have hkl := hq.lk
      have hkn := rk.len
      cases acl with
      | false =>
        refine (canswer_ok B gc gp n c on oc A OA l lo wv p W cnW K nk ck V nv cv rk rv st VA nva cva lva af ac an SA ns sc SL raW.1 rSW.1 hsl haf hac han (by omega) hq.oq (by omega) (by omega) hw R hR (by omega)).mono ?_
        rintro e W1 ⟨OA', oc', rfl, cn1, hk1, hO'⟩
        have k01 : Kp w W1 (F0 w gc gp gy A OA) := (Kp.of_below bW (F0 w gc gp gy A OA)).after hk1 (fun k _ e => Or.inl (Or.inl e))
        refine ⟨0, rfl, hk1.weak (fun k e => Or.inl e), hk1.blk (h.mb.step bW) h.ny, fun rk1 rv1 W2 b2 => ?_⟩
        have k02 := k01.after (Kp.of_below b2 (F0 w gc gp gy A OA)) (fun _ _ e => e)
        have kP2 : Kp W W2 (fun k => ¬ P k) := (hk1.weak (fun k e => hP k (Or.inl e))).after (Kp.of_below b2 (fun k => ¬ P k)) (fun _ _ e => e)
        have rS2 := rSW.kp kP2 (fun _ _ e => e) (fun _ _ e => e)
        have ra2 := raW.kp kP2 (fun _ _ e => e) (fun _ _ e => e)
        refine (manswer_ok PA n pc false YA on yc p K0 nk0 ck0 V0 nv0 cv0 K nk ck V nv cv st VA nva cva af ac an SA ns sc lva lo W2 (rK0.kp k02 (fun _ _ e => e) (fun _ _ e => e)).1 (rV0.kp k02 (fun _ _ e => e) (fun _ _ e => e)).1 (rk1.step b2) (rv1.step b2) SL rS2.1 hsl hns ra2.1 (h.ry0.kp k02 (fun _ _ e => e) (fun _ _ e => e)).1 haf hac han hq.oq (by omega) (by omega) hw R hR (by omega)).mono ?_
        rintro e W3 ⟨A2, c2, rfl, o3, b3⟩
        refine ⟨_, rfl, isM_mcs zrq12, b3, fun W4 W5 kg4 k34 k45 => ?_⟩
        have hs1 := hk1.size
        have hs2 := b2.size
        have k35 : Kp W3 W5 (fun k => k = gy) := k34.after k45 (fun k _ e => e.elim)
        have k15 := ((Kp.of_below b2 (fun k => k = gy)).after (Kp.of_below b3 (fun k => k = gy)) (fun _ _ e => e)).after k35 (fun _ _ e => e)
        have hO2 : ∀ k, obk OA' = some k → obk OA = some k ∨ W.heap.size ≤ k := fun k e => by
          rcases hO' with e2 | ⟨k2, e2, e3⟩
          · rw [e2] at e; exact Or.inl e
          · rw [e2] at e; injection e with e; exact Or.inr (by omega)
        have rp5 := (o3.rdF (F := fun k => k < W2.heap.size) (fun _ e => e)).kp (F' := fun k => k < W2.heap.size) k35 (fun k _ e => by omega) (fun _ _ e => e)
        have k05 := k01.after k15 (fun k _ e => Or.inl (Or.inr e))
        have hG' : ∀ k, GF gc gp gy A OA' k → (F0 w gc gp gy A OA) k := by
          intro k hk
          rcases hk with (e | e | e | e) | e
          · exact Or.inl (Or.inl (Or.inl e))
          · exact Or.inl (Or.inl (Or.inr (Or.inl e)))
          · exact Or.inl (Or.inl (Or.inr (Or.inr (Or.inl e))))
          · rcases hO2 k e with e | e
            · exact Or.inl (Or.inl (Or.inr (Or.inr (Or.inr e))))
            · exact Or.inr (by omega)
          · exact Or.inl (Or.inr e)
        have hny : ¬ FP gc gp A OA' gy := by
          intro e
          rcases e with e | e | e | e
          · exact h.ny (Or.inl e)
          · exact h.ny (Or.inr (Or.inl e))
          · exact h.ny (Or.inr (Or.inr (Or.inl e)))
          · rcases hO2 gy e with e | e
            · exact h.ny (Or.inr (Or.inr (Or.inr e)))
            · omega
        have hG3 : ∀ k, GF gc gp gy A OA' k → k < W2.heap.size := fun k e => e.elim (fun e => by have := (cn1.fp k e).2; omega) (fun e => by omega)
        exact Or.inl ⟨gp, n, c, on + R.length, oc', pc, c2, A, OA', PA, A2, l, lo ++ R, .pointer none, none, zrq,
          ro_of (F := (F0 w gc gp gy A OA)) cn1 rfl hG' hny k15 (fun k _ e => Or.inl (Or.inr e)) (fun k e hf => hny (by rw [← e]; exact hf)) (k45.blk kg4 (fun e => e)) (h.rp0.kp k05 (fun _ _ e => e) (fun _ _ e => e)) hG' rp5 hG3 (MQ.no W5 (fun _ => True)) (fun _ _ => trivial), (fun k e hp => by
            have hkw := hPw k hp
            rcases hG' k e with e | e
            · exact hP k e hp
            · omega), by omega, hn⟩
      | true =>
        refine (canswer_close B gc gp n c on oc A OA l lo wv p W cnW K nk ck V nv cv rk rv st VA nva cva lva af ac an SA ns sc SL raW.1 rSW.1 hsl haf hac han (by omega) hq.oq (by omega) (by omega) hw R hR (by omega)).mono ?_
        rintro e W1 ⟨OA', oc', rfl, cn1, hk1, hO'⟩
        have k01 : Kp w W1 (F0 w gc gp gy A OA) := (Kp.of_below bW (F0 w gc gp gy A OA)).after hk1 (fun k _ e => Or.inl (Or.inl e))
        refine ⟨0, rfl, hk1.weak (fun k e => Or.inl e), hk1.blk (h.mb.step bW) h.ny, fun rk1 rv1 W2 b2 => ?_⟩
        have k02 := k01.after (Kp.of_below b2 (F0 w gc gp gy A OA)) (fun _ _ e => e)
        have kP2 : Kp W W2 (fun k => ¬ P k) := (hk1.weak (fun k e => hP k (Or.inl e))).after (Kp.of_below b2 (fun k => ¬ P k)) (fun _ _ e => e)
        have rS2 := rSW.kp kP2 (fun _ _ e => e) (fun _ _ e => e)
        have ra2 := raW.kp kP2 (fun _ _ e => e) (fun _ _ e => e)
        refine (manswer_close PA n pc false YA on yc p K0 nk0 ck0 V0 nv0 cv0 K nk ck V nv cv st VA nva cva af ac an SA ns sc lva lo W2 (rK0.kp k02 (fun _ _ e => e) (fun _ _ e => e)).1 (rV0.kp k02 (fun _ _ e => e) (fun _ _ e => e)).1 (rk1.step b2) (rv1.step b2) SL rS2.1 hsl hns ra2.1 (h.ry0.kp k02 (fun _ _ e => e) (fun _ _ e => e)).1 haf hac han hq.oq (by omega) (by omega) hw R hR (by omega)).mono ?_
        rintro e W3 ⟨A2, c2, rfl, o3, b3⟩
        refine ⟨_, rfl, isM_mcs zrq12, b3, fun W4 W5 kg4 k34 k45 => ?_⟩
        have hs1 := hk1.size
        have hs2 := b2.size
        have k35 : Kp W3 W5 (fun k => k = gy) := k34.after k45 (fun k _ e => e.elim)
        have k15 := ((Kp.of_below b2 (fun k => k = gy)).after (Kp.of_below b3 (fun k => k = gy)) (fun _ _ e => e)).after k35 (fun _ _ e => e)
        have hO2 : ∀ k, obk OA' = some k → obk OA = some k ∨ W.heap.size ≤ k := fun k e => by
          rcases hO' with e2 | ⟨k2, e2, e3⟩
          · rw [e2] at e; exact Or.inl e
          · rw [e2] at e; injection e with e; exact Or.inr (by omega)
        have rp5 := (o3.rdF (F := fun k => k < W2.heap.size) (fun _ e => e)).kp (F' := fun k => k < W2.heap.size) k35 (fun k _ e => by omega) (fun _ _ e => e)
        have hO3 : ∀ k, obk OA' = some k → k < W1.heap.size := fun k e => (World.ownsRow.lt cn1.out k (by rw [obk_eq]; exact e)).2
        have hgc := cn1.box.lt
        have hny : gy ≠ gc ∧ obk OA' ≠ some gy := ⟨fun e => h.ny (Or.inl e), fun e => by rcases hO2 gy e with e | e; exact h.ny (Or.inr (Or.inr (Or.inr e))); omega⟩
        exact Or.inr ⟨on + R.length, oc', c2, OA', A2, lo ++ R, rc_of cn1 hny k15 (fun k e => by subst e; exact hny) (k45.blk kg4 (fun e => e)) rp5 (fun k e => by
          show k < W2.heap.size
          rcases e with e | e | e
          · omega
          · have := hO3 k e; omega
          · omega), (fun k e hp => by
          have hkw := hPw k hp
          rcases e with e | e | e
          · exact hP k (Or.inl (Or.inl e)) hp
          · rcases hO2 k e with e | e
            · exact hP k (Or.inl (Or.inr (Or.inr (Or.inr e)))) hp
            · omega
          · exact hP k (Or.inr e) hp), by omega⟩
theorem hca_shut {w : World} {B gc gy on oc yc M : Nat} {P : Nat → Prop} {OA YA : Option Addr} {lo : List UInt8} (h : RC w B gc gy on oc yc OA YA lo) (hP : ∀ k, (k = gc ∨ obk OA = some k ∨ k = gy) → ¬ P k) (hPw : ∀ k, P k → k < w.heap.size) (hon : on ≤ M) (p : RQ) (st : Int) (VA : Option Addr) (nva cva : Nat) (af ac an : Nat) (SA : Option Addr) (ns sc : Nat) (acl : Bool) : ∀ (W : World) (K : Option Addr) (nk ck : Nat) (V : Option Addr) (nv cv : Nat), Below w.heap.size w W → Rd W W.heap.size K nk ck p.lk → Rd W W.heap.size V nv cv p.lv → Calls Try.prog 66 #[.pointer (some ⟨gc, 0, none⟩), .agg (reqL p K nk ck V nv cv).toArray, .agg (ansL st VA nva cva af ac an SA ns sc acl).toArray] W (fun e W1 => ∃ er, e = .returned (.int .i64 er) ∧ Kp W W1 (fun k => k = gc ∨ obk OA = some k ∨ k = gy) ∧ Blk W1 gy (mcs none 0 0 false false zrq YA on yc true) 106 ∧ (Rd W1 W1.heap.size K nk ck p.lk → Rd W1 W1.heap.size V nv cv p.lv → ∀ W2, Below W1.heap.size W1 W2 → Calls Try.prog 114 #[.agg (mcs none 0 0 false false zrq YA on yc true), .agg (reqL p K nk ck V nv cv).toArray, .agg (ansL st VA nva cva af ac an SA ns sc acl).toArray] W2 (fun e W3 => ∃ m1, e = .returned (.tuple #[.agg m1, .int .i64 er]) ∧ IsM m1 ∧ Below W2.heap.size W2 W3 ∧ ∀ W4 W5, Blk W4 gy m1 106 → Kp W3 W4 (fun k => k = gy) → Kp W4 W5 (fun _ => False) → (Rel B gc gy P (M + 20000)) W5))) := by
  intro W K nk ck V nv cv bW rk rv
  refine (canswer_closed gc _ _ _ p.op p.qt p.fu p.bd p.oq p.fl p.ex p.cs p.dl p.ni (.slice K nk ck) (.slice V nv cv) st (.slice VA nva cva) (.slice SA ns sc) af ac an acl W (h.cn.step bW).box).mono ?_
  rintro e W1 ⟨rfl, b1⟩
  refine ⟨320, rfl, Kp.of_below b1 _, (h.mb.step bW).step b1, fun _ _ W2 b2 => ?_⟩
  refine (manswer_closed none 0 0 false false zrq YA on yc zrq12 _ _ W2).mono ?_
  rintro e W3 ⟨rfl, b3⟩
  exact ⟨_, rfl, isM_mcs zrq12, b3, fun W4 W5 kg4 k34 k45 => (rel_closed h hP hPw hon bW (b1.trans (b2.mono b1.size)) b3 k34 k45 (fun k e => e.elim) kg4 (fun e => e)).more (by omega)⟩
end
section
open Go.RowKit
theorem kdI_cases (k : Int) : kdI k = 0 ∨ kdI k = 1 ∨ kdI k = 2 ∨ kdI k = 3 ∨ kdI k = 4 := by
  unfold kdI kdN
  split
  · exact Or.inl rfl
  · exact Or.inl rfl
  · exact Or.inr (Or.inl rfl)
  · exact Or.inr (Or.inr (Or.inl rfl))
  · exact Or.inr (Or.inr (Or.inl rfl))
  · exact Or.inr (Or.inr (Or.inl rfl))
  · exact Or.inr (Or.inr (Or.inr (Or.inl rfl)))
  · exact Or.inr (Or.inr (Or.inr (Or.inr rfl)))
theorem getD_len (wq : Option RQ) (h : ∀ p, wq = some p → PrQ p) : (wq.getD zQ).lk.length ≤ 250 ∧ (wq.getD zQ).lv.length ≤ 512 := by
  cases wq with
  | none => exact ⟨Nat.zero_le _, Nat.zero_le _⟩
  | some q => exact ⟨(h q rfl).lk, (h q rfl).lv⟩
structure OpIn (w : World) (P : Nat → Prop) (BA : Option Addr) (bn bc : Nat) (lb : List UInt8) (p : RQ) (K : Option Addr) (nk ck : Nat) (V : Option Addr) (nv cv : Nat) (VA : Option Addr) (nva cva : Nat) (lva : List UInt8) (af ac an : Nat) (SA : Option Addr) (ns sc : Nat) (SL : List (ByteArray × ByteArray)) : Prop where
  rb : RdN w (fun k => ¬ P k) BA bn bc lb
  rk : RdN w (fun k => ¬ P k) K nk ck p.lk
  rv : RdN w (fun k => ¬ P k) V nv cv p.lv
  ra : RdN w (fun k => ¬ P k) VA nva cva lva
  rS : RzN w (fun k => ¬ P k) 2 SA ns sc (SL.map stCells).flatten
  bn_ : bn ≤ 100000
  sl : SL.length = ns
  ns_ : ns ≤ 9223372036854775800
  af_ : af < 4294967296
  ac_ : ac < 18446744073709551616
  an_ : an < 18446744073709551616
def DoesQ (B gc gy : Nat) (P : Nat → Prop) (M : Nat) (k : Int) (w : World) (e : Ending) (w' : World) : Prop := e = .returned (.bool true) ∧ Rel B gc gy P (M + 20000) w' ∧ Kp w w' (fun k => ¬ P k) ∧ (kdI k = 4 → Rel B gc gy P 0 w')
theorem does_any {w : World} {B gc gy M : Nat} {P : Nat → Prop} (h : Rel B gc gy P M w) (hPw : ∀ k, P k → k < w.heap.size) (hM : M ≤ 90000000000) (k : Int) {BA : Option Addr} {bn bc : Nat} {lb : List UInt8} {p : RQ} {K : Option Addr} {nk ck : Nat} {V : Option Addr} {nv cv : Nat} (st : Int) {VA : Option Addr} {nva cva : Nat} {lva : List UInt8} {af ac an : Nat} {SA : Option Addr} {ns sc : Nat} {SL : List (ByteArray × ByteArray)} (acl : Bool) (o : OpIn w P BA bn bc lb p K nk ck V nv cv VA nva cva lva af ac an SA ns sc SL) :
    Calls Try.prog 72 #[.pointer (some ⟨gc, 0, none⟩), .pointer (some ⟨gy, 0, none⟩), .agg (opL k BA bn bc (reqL p K nk ck V nv cv) (ansL st VA nva cva af ac an SA ns sc acl)).toArray] w (DoesQ B gc gy P M k w) := by
  have p12 := reqL12 p K nk ck V nv cv
  have h7 : (ansL st VA nva cva af ac an SA ns sc acl).length = 7 := rfl
  rcases h with ⟨gp, n, c, on, oc, pc, yc, A, OA, PA, YA, l, lo, wv, wq, rq, h, hP, hon, hn⟩ | ⟨on, oc, yc, OA, YA, lo, h, hP, hon⟩
  · have q12 := h.mq.q12
    have rb := o.rb.kp (F' := GF gc gp gy A OA) (Kp.refl w (fun _ => False)) (fun _ _ e => e.elim) (fun k _ e => hP k e)
    rcases kdI_cases k with hk | hk | hk | hk | hk
    · refine (wdoes0 w gc gy k BA bn bc _ _ p12 h7 _ h.lt (Or.inr rfl) _ (isM_mcs q12) h.mb (Rel B gc gy P M) Rel.shut hk lb rb (by have := o.bn_; omega) (hc0_open h hP hPw hon hn BA bn bc lb rb o.bn_)).mono ?_
      rintro e w' ⟨he, hr, hkp⟩
      exact ⟨he, hr.more (by omega), hkp.weak (fun k e => hP k e), fun e => by rw [hk] at e; cases e⟩
    · refine (wdoes1 w gc gy k BA bn bc _ _ p12 h7 _ h.lt (Or.inr rfl) _ (isM_mcs q12) h.mb (Rel B gc gy P (M + 1000)) Rel.shut hk (hc1_open h hP hPw hon hn (by omega))).mono ?_
      rintro e w' ⟨he, hr, hkp⟩
      exact ⟨he, hr.more (by omega), hkp.weak (fun k e => hP k e), fun e => by rw [hk] at e; cases e⟩
    · obtain ⟨K0, nk0, ck0, V0, nv0, cv0, hrq, rK0, rV0, -, hpr⟩ := h.mq
      have hl := getD_len wq hpr
      have e1 := rK0.1.len
      have e2 := rV0.1.len
      refine (wdoes2 w gc gy k BA bn bc _ _ p12 h7 _ h.lt (Or.inr rfl) _ (isM_mcs q12) h.mb (Rel B gc gy P (M + 20000)) Rel.shut hk (wq.getD zQ) K0 nk0 ck0 V0 nv0 cv0 rK0.1 rV0.1 (by omega) (by omega) (fun W hW => by rw [← hrq]; exact mcs_rq hW q12) (fun W A1 c1 A2 c2 bW r1 r2 => hca_open h hP hPw hon hn hM (wq.getD zQ) st VA nva cva lva af ac an SA ns sc SL acl o.ra o.rS o.sl o.ns_ o.af_ o.ac_ o.an_ W A1 nk0 c1 A2 nv0 c2 bW r1 r2)).mono ?_
      rintro e w' ⟨he, hr, hkp⟩
      exact ⟨he, hr, hkp.weak (fun k e => hP k e), fun e => by rw [hk] at e; cases e⟩
    · refine (wdoes3 w gc gy k BA bn bc _ _ p12 h7 _ h.lt (Or.inr rfl) _ (isM_mcs q12) h.mb (Rel B gc gy P (M + 20000)) Rel.shut hk (fun W bW => ?_)).mono ?_
      · have kW : Kp w W (fun k => ¬ P k) := Kp.of_below bW _
        have rkW := o.rk.kp kW (fun _ _ e => e) (fun _ _ e => e)
        have rvW := o.rv.kp kW (fun _ _ e => e) (fun _ _ e => e)
        refine (hca_open h hP hPw hon hn hM p st VA nva cva lva af ac an SA ns sc SL acl o.ra o.rS o.sl o.ns_ o.af_ o.ac_ o.an_ W K nk ck V nv cv bW rkW.1 rvW.1).mono ?_
        rintro e W1 ⟨er, he, hk1, kg1, h3⟩
        have k1 := hk1.weak (fun k e => hP k e)
        exact ⟨er, he, hk1, kg1, h3 (rkW.kp k1 (fun _ _ e => e) (fun _ _ e => e)).1 (rvW.kp k1 (fun _ _ e => e) (fun _ _ e => e)).1⟩
      · rintro e w' ⟨he, hr, hkp⟩
        exact ⟨he, hr, hkp.weak (fun k e => hP k e), fun e => by rw [hk] at e; cases e⟩
    · refine (wdoes4 w gc gy k BA bn bc _ _ p12 h7 _ h.lt (Or.inr rfl) _ (isM_mcs q12) h.mb (Rel B gc gy P 0) Rel.shut hk (hc4_open h hP hPw hon hn)).mono ?_
      rintro e w' ⟨he, hr, hkp⟩
      exact ⟨he, hr.more (by omega), hkp.weak (fun k e => hP k e), fun _ => hr⟩
  · have hlt : ∀ k, (k = gc ∨ obk OA = some k ∨ k = gy) → k < w.heap.size := fun k e => by
      rcases e with e | e | e
      · rw [e]; exact h.cn.box.lt
      · exact (World.ownsRow.lt h.cn.out k (by rw [obk_eq]; exact e)).2
      · rw [e]; exact h.mb.lt
    have rb := o.rb.kp (F' := fun k => k = gc ∨ obk OA = some k ∨ k = gy) (Kp.refl w (fun _ => False)) (fun _ _ e => e.elim) (fun k _ e => hP k e)
    rcases kdI_cases k with hk | hk | hk | hk | hk
    · refine (wdoes0 w gc gy k BA bn bc _ _ p12 h7 _ hlt (Or.inr (Or.inr rfl)) _ (isM_mcs zrq12) h.mb (Rel B gc gy P M) Rel.shut hk lb rb (by have := o.bn_; omega) (hc0_shut h hP hPw hon BA bn bc lb)).mono ?_
      rintro e w' ⟨he, hr, hkp⟩
      exact ⟨he, hr.more (by omega), hkp.weak (fun k e => hP k e), fun e => by rw [hk] at e; cases e⟩
    · refine (wdoes1 w gc gy k BA bn bc _ _ p12 h7 _ hlt (Or.inr (Or.inr rfl)) _ (isM_mcs zrq12) h.mb (Rel B gc gy P (M + 1000)) Rel.shut hk (hc1_shut h hP hPw hon)).mono ?_
      rintro e w' ⟨he, hr, hkp⟩
      exact ⟨he, hr.more (by omega), hkp.weak (fun k e => hP k e), fun e => by rw [hk] at e; cases e⟩
    · refine (wdoes2 w gc gy k BA bn bc _ _ p12 h7 _ hlt (Or.inr (Or.inr rfl)) _ (isM_mcs zrq12) h.mb (Rel B gc gy P (M + 20000)) Rel.shut hk zQ none 0 0 none 0 0 (Rd.nil w _) (Rd.nil w _) (by omega) (by omega) (fun W hW => mcs_rq hW zrq12) (fun W A1 c1 A2 c2 bW r1 r2 => hca_shut h hP hPw hon zQ st VA nva cva af ac an SA ns sc acl W A1 0 c1 A2 0 c2 bW r1 r2)).mono ?_
      rintro e w' ⟨he, hr, hkp⟩
      exact ⟨he, hr, hkp.weak (fun k e => hP k e), fun e => by rw [hk] at e; cases e⟩
    · refine (wdoes3 w gc gy k BA bn bc _ _ p12 h7 _ hlt (Or.inr (Or.inr rfl)) _ (isM_mcs zrq12) h.mb (Rel B gc gy P (M + 20000)) Rel.shut hk (fun W bW => ?_)).mono ?_
      · have kW : Kp w W (fun k => ¬ P k) := Kp.of_below bW _
        have rkW := o.rk.kp kW (fun _ _ e => e) (fun _ _ e => e)
        have rvW := o.rv.kp kW (fun _ _ e => e) (fun _ _ e => e)
        refine (hca_shut h hP hPw hon p st VA nva cva af ac an SA ns sc acl W K nk ck V nv cv bW rkW.1 rvW.1).mono ?_
        rintro e W1 ⟨er, he, hk1, kg1, h3⟩
        have k1 := hk1.weak (fun k e => hP k e)
        exact ⟨er, he, hk1, kg1, h3 (rkW.kp k1 (fun _ _ e => e) (fun _ _ e => e)).1 (rvW.kp k1 (fun _ _ e => e) (fun _ _ e => e)).1⟩
      · rintro e w' ⟨he, hr, hkp⟩
        exact ⟨he, hr, hkp.weak (fun k e => hP k e), fun e => by rw [hk] at e; cases e⟩
    · refine (wdoes4 w gc gy k BA bn bc _ _ p12 h7 _ hlt (Or.inr (Or.inr rfl)) _ (isM_mcs zrq12) h.mb (Rel B gc gy P 0) Rel.shut hk (hc4_shut h hP hPw hon)).mono ?_
      rintro e w' ⟨he, hr, hkp⟩
      exact ⟨he, hr.more (by omega), hkp.weak (fun k e => hP k e), fun _ => hr⟩
end
section
set_option linter.unusedSimpArgs false
open Go.RowKit
open Go
structure OpD where
  k : Int
  BA : Option Addr
  bn : Nat
  bc : Nat
  lb : List UInt8
  p : RQ
  K : Option Addr
  nk : Nat
  ck : Nat
  V : Option Addr
  nv : Nat
  cv : Nat
  st : Int
  VA : Option Addr
  nva : Nat
  cva : Nat
  lva : List UInt8
  af : Nat
  ac : Nat
  an : Nat
  SA : Option Addr
  ns : Nat
  sc : Nat
  SL : List (ByteArray × ByteArray)
  acl : Bool
def OpD.cells (o : OpD) : List Value := opL o.k o.BA o.bn o.bc (reqL o.p o.K o.nk o.ck o.V o.nv o.cv) (ansL o.st o.VA o.nva o.cva o.af o.ac o.an o.SA o.ns o.sc o.acl)
structure OpD.Ok (W : World) (B : Nat) (o : OpD) : Prop where
  rb : Rd W B o.BA o.bn o.bc o.lb
  rk : Rd W B o.K o.nk o.ck o.p.lk
  rv : Rd W B o.V o.nv o.cv o.p.lv
  ra : Rd W B o.VA o.nva o.cva o.lva
  rS : Rz W B 2 o.SA o.ns o.sc (o.SL.map stCells).flatten
  sl : o.SL.length = o.ns
  af_ : o.af < 4294967296
  ac_ : o.ac < 18446744073709551616
  an_ : o.an < 18446744073709551616
  ns_ : o.ns ≤ 9223372036854775800
theorem OpD.Ok.below {W W' : World} {B : Nat} {o : OpD} (h : o.Ok W B) (b : Below B W W') : o.Ok W' B := ⟨h.rb.below b, h.rk.below b, h.rv.below b, h.ra.below b, h.rS.below b, h.sl, h.af_, h.ac_, h.an_, h.ns_⟩
theorem OpD.len (o : OpD) : o.cells.length = 21 := rfl
theorem OpD.one (o : OpD) : ∀ v ∈ o.cells, v.oneCell' = true := by
  intro v hv
  unfold OpD.cells opL reqL ansL at hv
  simp only [List.cons_append, List.nil_append, List.mem_cons, List.not_mem_nil, or_false] at hv
  rcases hv with rfl | rfl | rfl | rfl | rfl | rfl | rfl | rfl | rfl | rfl | rfl | rfl | rfl | rfl | rfl | rfl | rfl | rfl | rfl | rfl | rfl <;> rfl
def RowO (W : World) (B : Nat) (A : Option Addr) (n c : Nat) (os : List OpD) : Prop := Rz W B 21 A n c (os.map OpD.cells).flatten ∧ (∀ o ∈ os, o.Ok W B) ∧ n = os.length
theorem RowO.below {W W' : World} {B : Nat} {A : Option Addr} {n c : Nat} {os : List OpD} (h : RowO W B A n c os) (b : Below B W W') : RowO W' B A n c os := ⟨h.1.below b, fun o ho => (h.2.1 o ho).below b, h.2.2⟩
theorem rowO_at {W : World} {B : Nat} {A : Option Addr} {n c : Nat} {os : List OpD} (h : Rz W B 21 A n c (os.map OpD.cells).flatten) (hn : n = os.length) {j : Nat} (hj : j < n) : ∃ ad o, A = some ad ∧ os[j]? = some o ∧ o ∈ os ∧ ad.block < B ∧ ∀ (i : Nat) (v : Value), o.cells[i]? = some v → W.cell? ((ad.add (j * 21)).add i) = some v := by
  obtain ⟨ad, hA, hb, hl, hc⟩ := Rz.elem h (i := j) hj
  have hjl : j < os.length := by omega
  have hL : (os.map OpD.cells)[j]? = some (os[j]).cells := by rw [List.getElem?_map, List.getElem?_eq_getElem hjl]; rfl
  refine ⟨ad, os[j], hA, List.getElem?_eq_getElem hjl, List.getElem_mem hjl, hb, fun i v hv => hc i v ?_⟩
  rw [flat_elem 21 (os.map OpD.cells) (fun x hx => by obtain ⟨y, -, rfl⟩ := List.mem_map.1 hx; rfl) hL]
  exact hv
theorem opfull : (Try.prog.info? 109).map (fun i => (i.size, i.bytes, i.zero.map (fun z => z.cells.size))) = some (21, 232, some 21) := by kernel_rfl
theorem opparts : ∃ i z, Try.prog.info? 109 = some i ∧ i.zero = some z ∧ i.size = 21 ∧ i.bytes = 232 ∧ z.cells.size = 21 := by
  have h := opfull
  cases hi : Try.prog.info? 109 with
  | none => rw [hi] at h; cases h
  | some i =>
    rw [hi] at h
    simp only [Option.map_some, Option.some.injEq, Prod.mk.injEq] at h
    obtain ⟨h1, h2, h3⟩ := h
    cases hz : i.zero with
    | none => rw [hz] at h3; cases h3
    | some z => rw [hz] at h3; exact ⟨i, z, rfl, hz, h1, h2, by simpa using h3⟩
section
variable {ops : Array Oper} {rest : List Oper} {o : Oper} {a : Act} {w : World} {K : Act → World → Prop} {Q : Exit → Act → World → Prop}
theorem wpl_loadO (hgd : o.guard = none) (x : Operand) (ho : o.op = .load 109 x) (p : Addr) (hx : a.eval x = .pointer (some p)) (cs : List Value) (hl : cs.length = 21) (hc : ∀ j v, cs[j]? = some v → w.cell? (p.add j) = some v)
    (h : wpList Try.prog ops Q rest (a.put o.dst (.agg cs.toArray)) w) : wpList Try.prog ops Q (o :: rest) a w := by
  obtain ⟨fs, hu⟩ := undOp
  exact wpList_loadz hgd _ x ho p hx cs _ hc hu rfl (by rw [hl]; exact szOp) h
theorem wpl_stO (hgd : o.guard = none) (x y : Operand) (ho : o.op = .store 109 x y) (g : Nat) (hx : a.eval x = .pointer (some ⟨g, 0, none⟩)) (cs : List Value) (hy : a.eval y = .agg cs.toArray) (hl : cs.length = 21) (h1 : ∀ v ∈ cs, v.oneCell' = true) {old : List Value} (k : Blk w g old.toArray 109) (ho2 : old.length = 21)
    (h : ∀ w', Blk w' g cs.toArray 109 → w.grownBy w' (some g) → wpList Try.prog ops Q rest (a.put o.dst undef) w') : wpList Try.prog ops Q (o :: rest) a w :=
  wpList_plain hgd fun _ hK => wp_stB _ x y ho g 0 hx cs hy k (by omega) (by rw [hl]; exact szOp) h1 (fun w' hk hg => hK _ _ (h w' (by
    rw [List.take_zero, List.nil_append, hl, List.drop_eq_nil_of_le (by omega), List.append_nil] at hk
    exact hk) hg))
end
section
variable {ops : Array Oper} {rest : List Oper} {o : Oper} {a : Act} {w : World} {Q : Exit → Act → World → Prop}
theorem wpl_bsO (hgd : o.guard = none) (x : Operand) (ho : o.op = .buildSlice 104 1 #[(0, x)]) (cs : List Value) (hx : a.eval x = .agg cs.toArray) (hl : cs.length = 21)
    (h : wpList Try.prog ops Q rest (a.put o.dst (.slice (some ⟨w.heap.size, 0, none⟩) 1 1)) (w.alloc (.cells cs.toArray 109))) : wpList Try.prog ops Q (o :: rest) a w := by
  obtain ⟨i, z, hi, hz, hsz, hby, hzs⟩ := opparts
  exact wpList_bs1 hgd _ x ho 109 i z _ 21 hx Try.underlying104 hi hz hsz (by show cs.toArray.size = 21; rw [List.size_toArray]; exact hl) (by omega) (by omega) h
theorem wpl_apO (hg : Region.wanted o (yielded ops a.tmps) = true) (s x : Operand) (hop : o.op = Op.call { callee := Callee.builtin Builtin.append, args := #[s, x], argTypes := #[104, 104] })
    (B : Nat) (A : Option Addr) (n c : Nat) (xs : List Value) (hs : a.eval s = .slice A n c) (hown : Oz w B 109 21 A n c xs)
    (B2 : Nat) (A2 : Option Addr) (c2 : Nat) (cs : List Value) (hx : a.eval x = .slice A2 1 c2) (hr : Rz w B2 21 A2 1 c2 cs) (h1 : ∀ u ∈ cs, u.oneCell' = true) (hn : n ≤ 1000) (hbase : B ≤ w.heap.size)
    (hK : ∀ A' c' w', Oz w' B 109 21 A' (n + 1) c' (xs ++ cs) → Below B w w' → wpList Try.prog ops Q rest (a.put o.dst (.slice A' (n + 1) c')) w') : wpList Try.prog ops Q (o :: rest) a w := by
  obtain ⟨i, z, hi, hz, hsz, hby, hzs⟩ := opparts
  exact wpList_appz w hg s x _ hop B 109 i z 21 232 Try.underlying104 hi hz hsz hby hzs (by omega) A n c xs hs hown B2 A2 1 c2 cs hx hr h1 (by unfold maxLen; omega) (by omega) hbase hK
end
theorem OpD.c4 {w : World} {g : Nat} {T : TypeId} {o : OpD} (k : Blk w g o.cells.toArray T) : w.cell? ⟨g, 1, none⟩ = some (.slice o.BA o.bn o.bc) ∧ w.cell? ⟨g, 7, none⟩ = some (.slice o.K o.nk o.ck) ∧ w.cell? ⟨g, 8, none⟩ = some (.slice o.V o.nv o.cv) ∧ w.cell? ⟨g, 15, none⟩ = some (.slice o.VA o.nva o.cva) :=
  ⟨cell_of_row w g 1 _ _ (0, 0) k, cell_of_row w g 7 _ _ (0, 0) k, cell_of_row w g 8 _ _ (0, 0) k, cell_of_row w g 15 _ _ (0, 0) k⟩
def OpD.cutTo (o : OpD) (BA : Option Addr) (bn bc : Nat) (K : Option Addr) (nk ck : Nat) (V : Option Addr) (nv cv : Nat) (VA : Option Addr) (nva cva : Nat) : OpD :=
  { o with BA := BA, bn := bn, bc := bc, lb := o.lb.take bn, K := K, nk := nk, ck := ck, V := V, nv := nv, cv := cv, VA := VA, nva := nva, cva := cva, lva := o.lva.take nva, p := { o.p with lk := o.p.lk.take nk, lv := o.p.lv.take nv } }
end
section
set_option linter.unusedSimpArgs false
open Go.RowKit
def OfwQ (B : Nat) (w : World) (e : Ending) (w' : World) : Prop := ∃ (OA : Option Addr) (j oc : Nat) (ls : List OpD), e = .returned (.slice OA j oc) ∧ ls.length = j ∧ j ≤ 80 ∧ Oz w' w.heap.size 109 21 OA j oc (ls.map OpD.cells).flatten ∧ (∀ o ∈ ls, o.Ok w' B ∧ o.bn ≤ 40000) ∧ Below w.heap.size w w'
set_option maxRecDepth 100000 in
set_option maxHeartbeats 8000000 in
theorem ofw_any (B : Nat) (A : Option Addr) (n c : Nat) (os : List OpD) (w : World) (hB : B ≤ w.heap.size) (h : RowO w B A n c os) : Calls Try.prog 71 #[.slice A n c] w (OfwQ B w) := by
  have HRO := Lib.hid h
  have HB := Lib.hid hB
  have hcm := h.1.cap
  have hmx := h.1.max
  unfold maxLen at hmx
  have HN : Hid (n ≤ 9223372036854775807) := Lib.hid (by omega)
  clear h hB hcm hmx
  go_enter Try.func71, Try.ntmps71
  go_wp2_with fail
  go_loopw [3, 4, 5, 8] (fun y _ _ i wr => ∃ (j : Nat) (ls : List OpD) (OA : Option Addr) (oc : Nat), j ≤ n ∧ i = .int .i64 (j : Nat) ∧ y = .slice OA j oc ∧ ls.length = j ∧ Oz wr w.heap.size 109 21 OA j oc (ls.map OpD.cells).flatten ∧ (∀ o ∈ ls, o.Ok wr B ∧ o.bn ≤ 40000) ∧ Below w.heap.size w wr ∧ j ≤ 80) (fun _ _ _ i _ => n - (intOf i).toNat)
  case atStart => exact ⟨0, [], none, 0, Nat.zero_le _, rfl, rfl, rfl, Oz.nil _ _ _ _, fun o ho => (by cases ho), Below.refl _ _, by decide⟩
  case round =>
    obtain ⟨j, ls, OA, oc, hj, rfl, rfl, hls, hO, hall, b, h80⟩ := hrel
    by_cases hlt : j < n
    · obtain ⟨hrz, hok, hno⟩ := HRO.out.below (b.mono HB.out)
      obtain ⟨ad, o, hA, -, hmem, hab, hc⟩ := rowO_at hrz hno hlt
      subst hA
      have ok := hok o hmem
      have hlt' : ((j : Int) < (n : Int)) = True := eq_true (by omega)
      have HLT : Hid (j + 1 ≤ n) := Lib.hid (by omega)
      have HJP : IntKind.i64.wrap ((j : Int) + 1) = (j : Int) + 1 := IntWalk.i64_in _ (by have := HN.out; omega)
      have H80 := Lib.hid h80
      clear hlt hrz hok hno hmem hab h80 hj
      have k5 := Blk.new wr #[.int .i64 0, .slice none 0 0, .int .i64 0, .bool false, .bool false, .int .i64 0, .int .u32 0, .slice none 0 0, .slice none 0 0, .int .u32 0, .int .u32 0, .int .u64 0, .int .u64 0, .int .u64 0, .int .i64 0, .slice none 0 0, .int .u32 0, .int .u64 0, .int .u64 0, .slice none 0 0, .bool false] 109
      have ba := below_a1' (Below.refl wr.heap.size wr) (.cells #[.int .i64 0, .slice none 0 0, .int .i64 0, .bool false, .bool false, .int .i64 0, .int .u32 0, .slice none 0 0, .slice none 0 0, .int .u32 0, .int .u32 0, .int .u64 0, .int .u64 0, .int .u64 0, .int .i64 0, .slice none 0 0, .int .u32 0, .int .u64 0, .int .u64 0, .slice none 0 0, .bool false] 109)
      go_upto_region 5 with (first | refine wpl_loadO rfl _ rfl (ad.add (j * 21)) (by rfl) o.cells rfl hc ?_ | refine wpl_stO rfl _ _ rfl wr.heap.size rfl o.cells rfl rfl o.one (old := [.int .i64 0, .slice none 0 0, .int .i64 0, .bool false, .bool false, .int .i64 0, .int .u32 0, .slice none 0 0, .slice none 0 0, .int .u32 0, .int .u32 0, .int .u64 0, .int .u64 0, .int .u64 0, .int .i64 0, .slice none 0 0, .int .u32 0, .int .u64 0, .int .u64 0, .slice none 0 0, .bool false]) k5 rfl ?_)
      intro W2 k6 g5
      have bz := ba.trans (below_grown g5 (Nat.le_refl _) k5.lt)
      have hBw := Nat.le_trans HB.out b.size
      have HBW := Lib.hid hBw
      clear ba g5 k5 hc hBw
      by_cases hj8 : j = 80
      · have e8 : ((j : Int) == 80) = true := by rw [hj8]; rfl
        have HQ := Lib.hid (show OfwQ B w (.returned (.slice OA j oc)) W2 from ⟨OA, j, oc, ls, rfl, hls, H80.out, hO.step bz, fun o ho => ⟨(hall o ho).1.below (bz.mono HBW.out), (hall o ho).2⟩, below_step b bz⟩)
        clear hj8 hls hO hall b k6 bz ok
        go_wp2_with fail
        go_ret
        exact HQ.out
      · have e8 : ((j : Int) == 80) = false := by rw [beq_eq_false_iff_ne]; omega
        have HL8 : Hid (j + 1 ≤ 80) := Lib.hid (by have := H80.out; omega)
        clear hj8
        go_upto_region 6 with fail
        obtain ⟨mB, hmB⟩ : ∃ m : Nat, m = min o.bn 40000 := ⟨_, rfl⟩
        have eB : (if (40000 : Int) < (o.bn : Int) then (40000 : Int) else (o.bn : Int)) = ((mB : Nat) : Int) := by split <;> omega
        obtain ⟨XB, xB, hsB, hrB⟩ := slc_h ok.rb mB ((mB : Nat) : Int) rfl (by omega)
        have HMB := Lib.hid hmB
        clear hmB
        obtain ⟨mK, hmK⟩ : ∃ m : Nat, m = min o.nk 300 := ⟨_, rfl⟩
        have eK : (if (300 : Int) < (o.nk : Int) then (300 : Int) else (o.nk : Int)) = ((mK : Nat) : Int) := by split <;> omega
        obtain ⟨XK, xK, hsK, hrK⟩ := slc_h ok.rk mK ((mK : Nat) : Int) rfl (by omega)
        have HMK := Lib.hid hmK
        clear hmK
        obtain ⟨mV, hmV⟩ : ∃ m : Nat, m = min o.nv 600 := ⟨_, rfl⟩
        have eV : (if (600 : Int) < (o.nv : Int) then (600 : Int) else (o.nv : Int)) = ((mV : Nat) : Int) := by split <;> omega
        obtain ⟨XV, xV, hsV, hrV⟩ := slc_h ok.rv mV ((mV : Nat) : Int) rfl (by omega)
        have HMV := Lib.hid hmV
        clear hmV
        obtain ⟨mA, hmA⟩ : ∃ m : Nat, m = min o.nva 600 := ⟨_, rfl⟩
        have eA : (if (600 : Int) < (o.nva : Int) then (600 : Int) else (o.nva : Int)) = ((mA : Nat) : Int) := by split <;> omega
        obtain ⟨XA, xA, hsA, hrA⟩ := slc_h ok.ra mA ((mA : Nat) : Int) rfl (by omega)
        have HMA := Lib.hid hmA
        clear hmA
        have HRD := Lib.hid (And.intro hrB (And.intro hrK (And.intro hrV hrA)))
        have HOK := Lib.hid ok
        have HALL := Lib.hid (And.intro hls (And.intro hO (And.intro hall b)))
        clear hrB hrK hrV hrA ok hls hO hall b
        go_cut [] (fun wx => Blk wx wr.heap.size (o.cutTo XB mB xB XK mK xK XV mV xV XA mA xA).cells.toArray 109 ∧ Below wr.heap.size wr wx)
        case first =>
          clear HRD HOK HALL HMB HMK HMV HMA HRO HB HN H80 HL8 HLT HJP hlt' e8
          refine wp_region_noPanic ?_
          refine region_K (fun wx => Blk wx wr.heap.size o.cells.toArray 109) 35 (by kernel_rfl) ?_
          have bD : Below W2.heap.size W2 W2.drew := (Below.refl _ _).drew
          have hHeld := k6.step bD
          replace bz := bz.trans (bD.mono bz.size)
          clear k6 bD
          generalize W2.drew = W3 at hHeld bz ⊢
          refine takeKr (i := 0) (v := ?_) rfl (by kernel_rfl) (by kernel_rfl) (by decide) (by kernel_rfl) (by kernel_rfl) (fun _ _ _ h => h) (Or.inl ⟨by rfl, ?_⟩) hHeld ?_
          rotate_left
          · (intro wx hSw; obtain ⟨q1, q7, q8, q15⟩ := OpD.c4 hSw; go_simp; try (with_reducible rfl))
          try simp only [Act.put, List.setIfInBounds_toArray, List.set_cons_zero, List.set_cons_succ]
          refine takeKr (i := 1) (v := ?_) rfl (by kernel_rfl) (by kernel_rfl) (by decide) (by kernel_rfl) (by kernel_rfl) (fun _ _ _ h => h) (Or.inl ⟨by rfl, ?_⟩) hHeld ?_
          rotate_left
          · (intro wx hSw; obtain ⟨q1, q7, q8, q15⟩ := OpD.c4 hSw; go_simp; try (with_reducible rfl))
          try simp only [Act.put, List.setIfInBounds_toArray, List.set_cons_zero, List.set_cons_succ]
          refine takeKr (i := 2) (v := ?_) rfl (by kernel_rfl) (by kernel_rfl) (by decide) (by kernel_rfl) (by kernel_rfl) (fun _ _ _ h => h) (Or.inl ⟨by rfl, ?_⟩) hHeld ?_
          rotate_left
          · (intro wx hSw; obtain ⟨q1, q7, q8, q15⟩ := OpD.c4 hSw; go_simp; try (with_reducible rfl))
          try simp only [Act.put, List.setIfInBounds_toArray, List.set_cons_zero, List.set_cons_succ]
          refine takeKr (i := 3) (v := ?_) rfl (by kernel_rfl) (by kernel_rfl) (by decide) (by kernel_rfl) (by kernel_rfl) (fun _ _ _ h => h) (Or.inl ⟨by rfl, ?_⟩) hHeld ?_
          rotate_left
          · (intro wx hSw; obtain ⟨q1, q7, q8, q15⟩ := OpD.c4 hSw; go_simp; try (with_reducible rfl))
          try simp only [Act.put, List.setIfInBounds_toArray, List.set_cons_zero, List.set_cons_succ]
          refine takeKw (i := 4) (v := ?_) rfl (by kernel_rfl) (by kernel_rfl) (by kernel_rfl) (fun _ _ _ h => h) (Or.inl ⟨by rfl, ?_⟩) ?_
          rotate_left
          · (intro wx _; go_simp; try (with_reducible rfl))
          try simp only [Act.put, List.setIfInBounds_toArray, List.set_cons_zero, List.set_cons_succ]
          refine takeKw (i := 5) (v := ?_) rfl (by kernel_rfl) (by kernel_rfl) (by kernel_rfl) (fun _ _ _ h => h) (Or.inl ⟨by rfl, ?_⟩) ?_
          rotate_left
          · (intro wx _; go_simp; try (with_reducible rfl))
          try simp only [Act.put, List.setIfInBounds_toArray, List.set_cons_zero, List.set_cons_succ]
          refine takeKw (i := 6) (v := ?_) rfl (by kernel_rfl) (by kernel_rfl) (by kernel_rfl) (fun _ _ _ h => h) (Or.inl ⟨by rfl, ?_⟩) ?_
          rotate_left
          · (intro wx _; go_simp; try (with_reducible rfl))
          try simp only [Act.put, List.setIfInBounds_toArray, List.set_cons_zero, List.set_cons_succ]
          refine takeKr (i := 7) (v := ?_) rfl (by kernel_rfl) (by kernel_rfl) (by decide) (by kernel_rfl) (by kernel_rfl) (fun _ _ _ h => h) (Or.inl ⟨by rfl, ?_⟩) hHeld ?_
          rotate_left
          · (intro wx hSw; obtain ⟨q1, q7, q8, q15⟩ := OpD.c4 hSw; go_simp; try (with_reducible rfl))
          try simp only [Act.put, List.setIfInBounds_toArray, List.set_cons_zero, List.set_cons_succ]
          refine takeKr (i := 8) (v := ?_) rfl (by kernel_rfl) (by kernel_rfl) (by decide) (by kernel_rfl) (by kernel_rfl) (fun _ _ _ h => h) (Or.inl ⟨by rfl, ?_⟩) hHeld ?_
          rotate_left
          · (intro wx hSw; obtain ⟨q1, q7, q8, q15⟩ := OpD.c4 hSw; go_simp; try (with_reducible rfl))
          try simp only [Act.put, List.setIfInBounds_toArray, List.set_cons_zero, List.set_cons_succ]
          refine takeKr (i := 9) (v := ?_) rfl (by kernel_rfl) (by kernel_rfl) (by decide) (by kernel_rfl) (by kernel_rfl) (fun _ _ _ h => h) (Or.inl ⟨by rfl, ?_⟩) hHeld ?_
          rotate_left
          · (intro wx hSw; obtain ⟨q1, q7, q8, q15⟩ := OpD.c4 hSw; go_simp; try (with_reducible rfl))
          try simp only [Act.put, List.setIfInBounds_toArray, List.set_cons_zero, List.set_cons_succ]
          refine takeKr (i := 10) (v := ?_) rfl (by kernel_rfl) (by kernel_rfl) (by decide) (by kernel_rfl) (by kernel_rfl) (fun _ _ _ h => h) (Or.inl ⟨by rfl, ?_⟩) hHeld ?_
          rotate_left
          · (intro wx hSw; obtain ⟨q1, q7, q8, q15⟩ := OpD.c4 hSw; go_simp; try (with_reducible rfl))
          try simp only [Act.put, List.setIfInBounds_toArray, List.set_cons_zero, List.set_cons_succ]
          refine takeKr (i := 11) (v := ?_) rfl (by kernel_rfl) (by kernel_rfl) (by decide) (by kernel_rfl) (by kernel_rfl) (fun _ _ _ h => h) (Or.inl ⟨by rfl, ?_⟩) hHeld ?_
          rotate_left
          · (intro wx hSw; obtain ⟨q1, q7, q8, q15⟩ := OpD.c4 hSw; go_simp; try (with_reducible rfl))
          try simp only [Act.put, List.setIfInBounds_toArray, List.set_cons_zero, List.set_cons_succ]
          refine takeKr (i := 12) (v := ?_) rfl (by kernel_rfl) (by kernel_rfl) (by decide) (by kernel_rfl) (by kernel_rfl) (fun _ _ _ h => h) (Or.inl ⟨by rfl, ?_⟩) hHeld ?_
          rotate_left
          · (intro wx hSw; obtain ⟨q1, q7, q8, q15⟩ := OpD.c4 hSw; go_simp; try (with_reducible rfl))
          try simp only [Act.put, List.setIfInBounds_toArray, List.set_cons_zero, List.set_cons_succ]
          refine takeKw (i := 13) (v := ?_) rfl (by kernel_rfl) (by kernel_rfl) (by kernel_rfl) (fun _ _ _ h => h) (Or.inl ⟨by rfl, ?_⟩) ?_
          rotate_left
          · (intro wx _; go_simp; try (with_reducible rfl))
          try simp only [Act.put, List.setIfInBounds_toArray, List.set_cons_zero, List.set_cons_succ]
          refine takeKw (i := 14) (v := ?_) rfl (by kernel_rfl) (by kernel_rfl) (by kernel_rfl) (fun _ _ _ h => h) (Or.inl ⟨by rfl, ?_⟩) ?_
          rotate_left
          · (intro wx _; go_simp; try (with_reducible rfl))
          try simp only [Act.put, List.setIfInBounds_toArray, List.set_cons_zero, List.set_cons_succ]
          refine takeKw (i := 15) (v := ?_) rfl (by kernel_rfl) (by kernel_rfl) (by kernel_rfl) (fun _ _ _ h => h) (Or.inl ⟨by rfl, ?_⟩) ?_
          rotate_left
          · (intro wx _; go_simp; try (with_reducible rfl))
          try simp only [Act.put, List.setIfInBounds_toArray, List.set_cons_zero, List.set_cons_succ]
          refine takeKr (i := 16) (v := ?_) rfl (by kernel_rfl) (by kernel_rfl) (by decide) (by kernel_rfl) (by kernel_rfl) (fun _ _ _ h => h) (Or.inl ⟨by rfl, ?_⟩) hHeld ?_
          rotate_left
          · (intro wx hSw; obtain ⟨q1, q7, q8, q15⟩ := OpD.c4 hSw; go_simp; try (with_reducible rfl))
          try simp only [Act.put, List.setIfInBounds_toArray, List.set_cons_zero, List.set_cons_succ]
          refine takeKr (i := 17) (v := ?_) rfl (by kernel_rfl) (by kernel_rfl) (by decide) (by kernel_rfl) (by kernel_rfl) (fun _ _ _ h => h) (Or.inl ⟨by rfl, ?_⟩) hHeld ?_
          rotate_left
          · (intro wx hSw; obtain ⟨q1, q7, q8, q15⟩ := OpD.c4 hSw; go_simp; try (with_reducible rfl))
          try simp only [Act.put, List.setIfInBounds_toArray, List.set_cons_zero, List.set_cons_succ]
          refine takeKr (i := 18) (v := ?_) rfl (by kernel_rfl) (by kernel_rfl) (by decide) (by kernel_rfl) (by kernel_rfl) (fun _ _ _ h => h) (Or.inl ⟨by rfl, ?_⟩) hHeld ?_
          rotate_left
          · (intro wx hSw; obtain ⟨q1, q7, q8, q15⟩ := OpD.c4 hSw; go_simp; try (with_reducible rfl))
          try simp only [Act.put, List.setIfInBounds_toArray, List.set_cons_zero, List.set_cons_succ]
          refine takeKr (i := 19) (v := ?_) rfl (by kernel_rfl) (by kernel_rfl) (by decide) (by kernel_rfl) (by kernel_rfl) (fun _ _ _ h => h) (Or.inl ⟨by rfl, ?_⟩) hHeld ?_
          rotate_left
          · (intro wx hSw; obtain ⟨q1, q7, q8, q15⟩ := OpD.c4 hSw; go_simp; try (with_reducible rfl))
          try simp only [Act.put, List.setIfInBounds_toArray, List.set_cons_zero, List.set_cons_succ]
          refine takeKr (i := 20) (v := ?_) rfl (by kernel_rfl) (by kernel_rfl) (by decide) (by kernel_rfl) (by kernel_rfl) (fun _ _ _ h => h) (Or.inl ⟨by rfl, ?_⟩) hHeld ?_
          rotate_left
          · (intro wx hSw; obtain ⟨q1, q7, q8, q15⟩ := OpD.c4 hSw; go_simp; try (with_reducible rfl))
          try simp only [Act.put, List.setIfInBounds_toArray, List.set_cons_zero, List.set_cons_succ]
          refine takeKr (i := 21) (v := ?_) rfl (by kernel_rfl) (by kernel_rfl) (by decide) (by kernel_rfl) (by kernel_rfl) (fun _ _ _ h => h) (Or.inl ⟨by rfl, ?_⟩) hHeld ?_
          rotate_left
          · (intro wx hSw; obtain ⟨q1, q7, q8, q15⟩ := OpD.c4 hSw; go_simp; try (with_reducible rfl))
          try simp only [Act.put, List.setIfInBounds_toArray, List.set_cons_zero, List.set_cons_succ]
          refine takeKw (i := 22) (v := ?_) rfl (by kernel_rfl) (by kernel_rfl) (by kernel_rfl) (fun _ _ _ h => h) (Or.inl ⟨by rfl, ?_⟩) ?_
          rotate_left
          · (intro wx _; go_simp; try (with_reducible rfl))
          try simp only [Act.put, List.setIfInBounds_toArray, List.set_cons_zero, List.set_cons_succ]
          refine takeKw (i := 23) (v := ?_) rfl (by kernel_rfl) (by kernel_rfl) (by kernel_rfl) (fun _ _ _ h => h) (Or.inl ⟨by rfl, ?_⟩) ?_
          rotate_left
          · (intro wx _; go_simp; try (with_reducible rfl))
          try simp only [Act.put, List.setIfInBounds_toArray, List.set_cons_zero, List.set_cons_succ]
          refine takeKw (i := 24) (v := ?_) rfl (by kernel_rfl) (by kernel_rfl) (by kernel_rfl) (fun _ _ _ h => h) (Or.inl ⟨by rfl, ?_⟩) ?_
          rotate_left
          · (intro wx _; go_simp; try (with_reducible rfl))
          try simp only [Act.put, List.setIfInBounds_toArray, List.set_cons_zero, List.set_cons_succ]
          refine takeKr (i := 25) (v := ?_) rfl (by kernel_rfl) (by kernel_rfl) (by decide) (by kernel_rfl) (by kernel_rfl) (fun _ _ _ h => h) (Or.inl ⟨by rfl, ?_⟩) hHeld ?_
          rotate_left
          · (intro wx hSw; obtain ⟨q1, q7, q8, q15⟩ := OpD.c4 hSw; go_simp; try (with_reducible rfl))
          try simp only [Act.put, List.setIfInBounds_toArray, List.set_cons_zero, List.set_cons_succ]
          refine takeKr (i := 26) (v := ?_) rfl (by kernel_rfl) (by kernel_rfl) (by decide) (by kernel_rfl) (by kernel_rfl) (fun _ _ _ h => h) (Or.inl ⟨by rfl, ?_⟩) hHeld ?_
          rotate_left
          · (intro wx hSw; obtain ⟨q1, q7, q8, q15⟩ := OpD.c4 hSw; go_simp; try (with_reducible rfl))
          try simp only [Act.put, List.setIfInBounds_toArray, List.set_cons_zero, List.set_cons_succ]
          refine takeKr (i := 27) (v := ?_) rfl (by kernel_rfl) (by kernel_rfl) (by decide) (by kernel_rfl) (by kernel_rfl) (fun _ _ _ h => h) (Or.inl ⟨by rfl, ?_⟩) hHeld ?_
          rotate_left
          · (intro wx hSw; obtain ⟨q1, q7, q8, q15⟩ := OpD.c4 hSw; go_simp; try (with_reducible rfl))
          try simp only [Act.put, List.setIfInBounds_toArray, List.set_cons_zero, List.set_cons_succ]
          refine takeKr (i := 28) (v := ?_) rfl (by kernel_rfl) (by kernel_rfl) (by decide) (by kernel_rfl) (by kernel_rfl) (fun _ _ _ h => h) (Or.inl ⟨by rfl, ?_⟩) hHeld ?_
          rotate_left
          · (intro wx hSw; obtain ⟨q1, q7, q8, q15⟩ := OpD.c4 hSw; go_simp; try (with_reducible rfl))
          try simp only [Act.put, List.setIfInBounds_toArray, List.set_cons_zero, List.set_cons_succ]
          refine takeKr (i := 29) (v := ?_) rfl (by kernel_rfl) (by kernel_rfl) (by decide) (by kernel_rfl) (by kernel_rfl) (fun _ _ _ h => h) (Or.inl ⟨by rfl, ?_⟩) hHeld ?_
          rotate_left
          · (intro wx hSw; obtain ⟨q1, q7, q8, q15⟩ := OpD.c4 hSw; go_simp; try (with_reducible rfl))
          try simp only [Act.put, List.setIfInBounds_toArray, List.set_cons_zero, List.set_cons_succ]
          refine takeKr (i := 30) (v := ?_) rfl (by kernel_rfl) (by kernel_rfl) (by decide) (by kernel_rfl) (by kernel_rfl) (fun _ _ _ h => h) (Or.inl ⟨by rfl, ?_⟩) hHeld ?_
          rotate_left
          · (intro wx hSw; obtain ⟨q1, q7, q8, q15⟩ := OpD.c4 hSw; go_simp; try (with_reducible rfl))
          try simp only [Act.put, List.setIfInBounds_toArray, List.set_cons_zero, List.set_cons_succ]
          refine takeKw (i := 31) (v := ?_) rfl (by kernel_rfl) (by kernel_rfl) (by kernel_rfl) (fun _ _ _ h => h) (Or.inl ⟨by rfl, ?_⟩) ?_
          rotate_left
          · (intro wx _; go_simp; try (with_reducible rfl))
          try simp only [Act.put, List.setIfInBounds_toArray, List.set_cons_zero, List.set_cons_succ]
          refine takeKw (i := 32) (v := ?_) rfl (by kernel_rfl) (by kernel_rfl) (by kernel_rfl) (fun _ _ _ h => h) (Or.inl ⟨by rfl, ?_⟩) ?_
          rotate_left
          · (intro wx _; go_simp; try (with_reducible rfl))
          try simp only [Act.put, List.setIfInBounds_toArray, List.set_cons_zero, List.set_cons_succ]
          refine takeKw (i := 33) (v := ?_) rfl (by kernel_rfl) (by kernel_rfl) (by kernel_rfl) (fun _ _ _ h => h) (Or.inl ⟨by rfl, ?_⟩) ?_
          rotate_left
          · (intro wx _; go_simp; try (with_reducible rfl))
          try simp only [Act.put, List.setIfInBounds_toArray, List.set_cons_zero, List.set_cons_succ]
          refine takeKw (i := 34) (v := ?_) rfl (by kernel_rfl) (by kernel_rfl) (by kernel_rfl) (fun _ _ _ h => h) (Or.inl ⟨by rfl, ?_⟩) ?_
          rotate_left
          · (intro wx _; go_simp; try (with_reducible rfl))
          try simp only [Act.put, List.setIfInBounds_toArray, List.set_cons_zero, List.set_cons_succ]
          refine oneK (i := 35) rfl (by kernel_rfl) (fun KK hK => ?_)
          have k7 := hHeld
          clear hHeld
          have y := k7.frozen 1
          have yc : W3.cell? ⟨wr.heap.size, 1, none⟩ = some (.slice o.BA o.bn o.bc) := cell_of_row W3 wr.heap.size 1 _ _ (0, 0) k7
          go_simp
          have gs := rdr_grown_set W3 wr.heap.size 1 (.slice XB mB xB)
          replace bz := bz.trans (below_grown gs (Nat.le_refl _) k7.lt)
          replace k7 := k7.set_ 1 (.slice XB mB xB)
          refine hK.out _ _ (fun h _ => absurd h (by decide)) ?_
          clear hK KK gs y yc
          try simp only [Act.put, List.setIfInBounds_toArray, List.set_cons_zero, List.set_cons_succ]
          generalize hW : World.setCell _ _ _ = W4 at k7 bz ⊢
          clear hW
          refine takeKw (i := 36) (v := ?_) rfl (by kernel_rfl) (by kernel_rfl) (by kernel_rfl) (fun _ _ _ h => h) (Or.inl ⟨by rfl, ?_⟩) ?_
          rotate_left
          · (intro wx _; go_simp; try (with_reducible rfl))
          try simp only [Act.put, List.setIfInBounds_toArray, List.set_cons_zero, List.set_cons_succ]
          refine takeKw (i := 37) (v := ?_) rfl (by kernel_rfl) (by kernel_rfl) (by kernel_rfl) (fun _ _ _ h => h) (Or.inl ⟨by rfl, ?_⟩) ?_
          rotate_left
          · (intro wx _; go_simp; try (with_reducible rfl))
          try simp only [Act.put, List.setIfInBounds_toArray, List.set_cons_zero, List.set_cons_succ]
          refine oneK (i := 38) rfl (by kernel_rfl) (fun KK hK => ?_)
          have y := k7.frozen 7
          have yc : W4.cell? ⟨wr.heap.size, 7, none⟩ = some (.slice o.K o.nk o.ck) := cell_of_row W4 wr.heap.size 7 _ _ (0, 0) k7
          go_simp
          have gs := rdr_grown_set W4 wr.heap.size 7 (.slice XK mK xK)
          replace bz := bz.trans (below_grown gs (Nat.le_refl _) k7.lt)
          replace k7 := k7.set_ 7 (.slice XK mK xK)
          refine hK.out _ _ (fun h _ => absurd h (by decide)) ?_
          clear hK KK gs y yc
          try simp only [Act.put, List.setIfInBounds_toArray, List.set_cons_zero, List.set_cons_succ]
          generalize hW : World.setCell _ _ _ = W5 at k7 bz ⊢
          clear hW
          refine takeKw (i := 39) (v := ?_) rfl (by kernel_rfl) (by kernel_rfl) (by kernel_rfl) (fun _ _ _ h => h) (Or.inl ⟨by rfl, ?_⟩) ?_
          rotate_left
          · (intro wx _; go_simp; try (with_reducible rfl))
          try simp only [Act.put, List.setIfInBounds_toArray, List.set_cons_zero, List.set_cons_succ]
          refine takeKw (i := 40) (v := ?_) rfl (by kernel_rfl) (by kernel_rfl) (by kernel_rfl) (fun _ _ _ h => h) (Or.inl ⟨by rfl, ?_⟩) ?_
          rotate_left
          · (intro wx _; go_simp; try (with_reducible rfl))
          try simp only [Act.put, List.setIfInBounds_toArray, List.set_cons_zero, List.set_cons_succ]
          refine oneK (i := 41) rfl (by kernel_rfl) (fun KK hK => ?_)
          have y := k7.frozen 8
          have yc : W5.cell? ⟨wr.heap.size, 8, none⟩ = some (.slice o.V o.nv o.cv) := cell_of_row W5 wr.heap.size 8 _ _ (0, 0) k7
          go_simp
          have gs := rdr_grown_set W5 wr.heap.size 8 (.slice XV mV xV)
          replace bz := bz.trans (below_grown gs (Nat.le_refl _) k7.lt)
          replace k7 := k7.set_ 8 (.slice XV mV xV)
          refine hK.out _ _ (fun h _ => absurd h (by decide)) ?_
          clear hK KK gs y yc
          try simp only [Act.put, List.setIfInBounds_toArray, List.set_cons_zero, List.set_cons_succ]
          generalize hW : World.setCell _ _ _ = W6 at k7 bz ⊢
          clear hW
          refine takeKw (i := 42) (v := ?_) rfl (by kernel_rfl) (by kernel_rfl) (by kernel_rfl) (fun _ _ _ h => h) (Or.inl ⟨by rfl, ?_⟩) ?_
          rotate_left
          · (intro wx _; go_simp; try (with_reducible rfl))
          try simp only [Act.put, List.setIfInBounds_toArray, List.set_cons_zero, List.set_cons_succ]
          refine takeKw (i := 43) (v := ?_) rfl (by kernel_rfl) (by kernel_rfl) (by kernel_rfl) (fun _ _ _ h => h) (Or.inl ⟨by rfl, ?_⟩) ?_
          rotate_left
          · (intro wx _; go_simp; try (with_reducible rfl))
          try simp only [Act.put, List.setIfInBounds_toArray, List.set_cons_zero, List.set_cons_succ]
          refine oneK (i := 44) rfl (by kernel_rfl) (fun KK hK => ?_)
          have y := k7.frozen 15
          have yc : W6.cell? ⟨wr.heap.size, 15, none⟩ = some (.slice o.VA o.nva o.cva) := cell_of_row W6 wr.heap.size 15 _ _ (0, 0) k7
          go_simp
          have gs := rdr_grown_set W6 wr.heap.size 15 (.slice XA mA xA)
          replace bz := bz.trans (below_grown gs (Nat.le_refl _) k7.lt)
          replace k7 := k7.set_ 15 (.slice XA mA xA)
          refine hK.out _ _ (fun h _ => absurd h (by decide)) ?_
          clear hK KK gs y yc
          try simp only [Act.put, List.setIfInBounds_toArray, List.set_cons_zero, List.set_cons_succ]
          generalize hW : World.setCell _ _ _ = W7 at k7 bz ⊢
          clear hW
          refine doneK (by kernel_rfl) ?_ _
          refine NoPanic.normal ?_
          have HQ9 := Lib.hid (And.intro k7 bz)
          clear k7 bz
          go_wp2_with fail
          go_meet
          exact HQ9.out
        case rest =>
          obtain ⟨k6, bz⟩ := hcut
          obtain ⟨hls, hO, hall, b⟩ := HALL.out
          have hO4 := hO.step bz
          have b4 := below_step b bz
          have ba := below_a1' b4 (.cells (o.cutTo XB mB xB XK mK xK XV mV xV XA mA xA).cells.toArray 109)
          have hO5 := hO4.alloc (.cells (o.cutTo XB mB xB XK mK xK XV mV xV XA mA xA).cells.toArray 109)
          have hn1 := Rz.new1 wc (o.cutTo XB mB xB XK mK xK XV mV xV XA mA xA).cells.toArray 109 21 rfl
          clear hO hO4 b4
          go_wp2_with (first | refine wpl_ldO rfl _ rfl wr.heap.size rfl k6 (OpD.len _) ?_ | refine wpl_bsO rfl _ rfl (o.cutTo XB mB xB XK mK xK XV mV xV XA mA xA).cells rfl (OpD.len _) ?_ | (at_builtin; refine wpl_apO rfl _ _ rfl w.heap.size OA j oc _ rfl hO5 _ _ _ _ rfl hn1 (OpD.one (o.cutTo XB mB xB XK mK xK XV mV xV XA mA xA)) (by have := H80.out; omega) ba.size ?_))
          intro A9 c9 W9 hO9 b9
          have bfin : Below w.heap.size w W9 := ba.trans b9
          have bB : Below B wr W9 := (bz.mono HBW.out).trans (((Below.refl wc.heap.size wc).mono (Nat.le_trans HBW.out bz.size)).alloc (Nat.le_trans HBW.out bz.size) (.cells (o.cutTo XB mB xB XK mK xK XV mV xV XA mA xA).cells.toArray 109) |>.trans (b9.mono HB.out))
          have ok9 := HOK.out.below bB
          have HQ : Hid (∃ ls' : List OpD, ls'.length = j + 1 ∧ Oz W9 w.heap.size 109 21 A9 (j + 1) c9 (ls'.map OpD.cells).flatten ∧ (∀ o ∈ ls', o.Ok W9 B ∧ o.bn ≤ 40000) ∧ Below w.heap.size w W9) := Lib.hid ⟨ls ++ [(o.cutTo XB mB xB XK mK xK XV mV xV XA mA xA)], by rw [List.length_append, hls]; rfl, by rw [List.map_append, List.flatten_append]; simpa using hO9, fun x hx => by
          rcases List.mem_append.1 hx with hx | hx
          · exact ⟨(hall x hx).1.below bB, (hall x hx).2⟩
          · rw [List.mem_singleton] at hx
            subst hx
            exact ⟨⟨HRD.out.1 _ _ ok9.rb, HRD.out.2.1 _ _ ok9.rk, HRD.out.2.2.1 _ _ ok9.rv, HRD.out.2.2.2 _ _ ok9.ra, ok9.rS, ok9.sl, ok9.af_, ok9.ac_, ok9.an_, ok9.ns_⟩, by have := HMB.out; show mB ≤ 40000; omega⟩, bfin⟩
          clear hls hall b ba hO5 hn1 hO9 b9 bfin bB ok9 k6 bz e8
          go_wp2_with fail
          go_roundw
          case rel =>
            obtain ⟨ls', h1, h2, h3, h4⟩ := HQ.out
            exact ⟨j + 1, ls', A9, c9, HLT.out, by first | rfl | go_num, rfl, h1, h2, h3, h4, HL8.out⟩
          case measure => have := HLT.out; simp [intOf]; omega
    · have hlt' : ((j : Int) < (n : Int)) = False := eq_false (by omega)
      have HQ := Lib.hid (show OfwQ B w (.returned (.slice OA j oc)) wr from ⟨OA, j, oc, ls, rfl, hls, h80, hO, hall, b⟩)
      clear hlt hls hO hall b h80
      go_wp2_with fail
      go_ret
      exact HQ.out
end
end Go.Proofs.Ytnghmgbmflcngaa

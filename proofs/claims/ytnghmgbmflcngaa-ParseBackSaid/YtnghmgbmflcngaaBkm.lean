/- Merged texts: Frv, Opel, Bkp, Oqs, Bks. Conditions: typed in each theorem. -/
import Derived.Test.YtnghmgbmflcngaaFru
import Derived.Test.YtnghmgbmflcngaaOpen
import Derived.Deep.Slices
import Derived.Test.YtnghmgbmflcngaaPabw
import Derived.Test.YtnghmgbmflcngaaAlm
import Derived.Test.YtnghmgbmflcngaaOpq
import Derived.Test.YtnghmgbmflcngaaQfeb
namespace Go.Proofs.Ytnghmgbmflcngaa
set_option linter.unusedVariables false
section
open Go.RowKit

theorem fld_skip (x j : Nat) (r : List UInt8) (o k : Nat) : fld (highB x j ++ r) (j + o) k = fld r o k := by
  unfold fld
  rw [List.drop_append, length_highB, List.drop_of_length_le (by rw [length_highB]; omega), List.nil_append, Nat.add_sub_cancel_left]
theorem fld_here (x k : Nat) (r : List UInt8) : fld (highB x k ++ r) 0 k = x % 256 ^ k := by
  unfold fld
  rw [List.drop_zero, List.take_append, length_highB, Nat.sub_self, List.take_zero, List.append_nil, List.take_of_length_le (by rw [length_highB]; omega), numB_highB]
theorem hdB_h (mg op kl el ty st bl oq cas : Nat) : hdB mg op kl el ty st bl oq cas = highB mg 1 ++ highB op 1 ++ highB kl 2 ++ highB el 1 ++ highB ty 1 ++ highB st 2 ++ highB bl 4 ++ highB oq 4 ++ highB cas 8 := by
  have o : ∀ x, highB x 1 = [UInt8.ofNat x] := fun _ => rfl
  unfold hdB
  simp only [o, List.append_assoc, List.cons_append, List.nil_append]
theorem f_mg (mg op kl el ty st bl oq cas : Nat) (hf : HdF mg op kl el ty st bl oq cas) (r : List UInt8) : fld (hdB mg op kl el ty st bl oq cas ++ r) 0 1 = mg := by
  obtain ⟨f0, f1, f2, f3, f4, f5, f6, f7, f8⟩ := hf
  have h : fld (hdB mg op kl el ty st bl oq cas ++ r) 0 1 = mg % 256 ^ 1 := by
    rw [hdB_h]
    simp only [List.append_assoc]
    exact fld_here mg 1 _
  rw [h]
  exact Nat.mod_eq_of_lt (by simpa using f0)
theorem f_op (mg op kl el ty st bl oq cas : Nat) (hf : HdF mg op kl el ty st bl oq cas) (r : List UInt8) : fld (hdB mg op kl el ty st bl oq cas ++ r) 1 1 = op := by
  obtain ⟨f0, f1, f2, f3, f4, f5, f6, f7, f8⟩ := hf
  have h : fld (hdB mg op kl el ty st bl oq cas ++ r) 1 1 = op % 256 ^ 1 := by
    rw [hdB_h]
    simp only [List.append_assoc]
    exact (fld_skip mg 1 _ 0 1).trans (fld_here op 1 _)
  rw [h]
  exact Nat.mod_eq_of_lt (by simpa using f1)
theorem f_kl (mg op kl el ty st bl oq cas : Nat) (hf : HdF mg op kl el ty st bl oq cas) (r : List UInt8) : fld (hdB mg op kl el ty st bl oq cas ++ r) 2 2 = kl := by
  obtain ⟨f0, f1, f2, f3, f4, f5, f6, f7, f8⟩ := hf
  have h : fld (hdB mg op kl el ty st bl oq cas ++ r) 2 2 = kl % 256 ^ 2 := by
    rw [hdB_h]
    simp only [List.append_assoc]
    exact (fld_skip mg 1 _ 1 2).trans ((fld_skip op 1 _ 0 2).trans (fld_here kl 2 _))
  rw [h]
  exact Nat.mod_eq_of_lt (by simpa using f2)
theorem f_el (mg op kl el ty st bl oq cas : Nat) (hf : HdF mg op kl el ty st bl oq cas) (r : List UInt8) : fld (hdB mg op kl el ty st bl oq cas ++ r) 4 1 = el := by
  obtain ⟨f0, f1, f2, f3, f4, f5, f6, f7, f8⟩ := hf
  have h : fld (hdB mg op kl el ty st bl oq cas ++ r) 4 1 = el % 256 ^ 1 := by
    rw [hdB_h]
    simp only [List.append_assoc]
    exact (fld_skip mg 1 _ 3 1).trans ((fld_skip op 1 _ 2 1).trans ((fld_skip kl 2 _ 0 1).trans (fld_here el 1 _)))
  rw [h]
  exact Nat.mod_eq_of_lt (by simpa using f3)
theorem f_ty (mg op kl el ty st bl oq cas : Nat) (hf : HdF mg op kl el ty st bl oq cas) (r : List UInt8) : fld (hdB mg op kl el ty st bl oq cas ++ r) 5 1 = ty := by
  obtain ⟨f0, f1, f2, f3, f4, f5, f6, f7, f8⟩ := hf
  have h : fld (hdB mg op kl el ty st bl oq cas ++ r) 5 1 = ty % 256 ^ 1 := by
    rw [hdB_h]
    simp only [List.append_assoc]
    exact (fld_skip mg 1 _ 4 1).trans ((fld_skip op 1 _ 3 1).trans ((fld_skip kl 2 _ 1 1).trans ((fld_skip el 1 _ 0 1).trans (fld_here ty 1 _))))
  rw [h]
  exact Nat.mod_eq_of_lt (by simpa using f4)
theorem f_st (mg op kl el ty st bl oq cas : Nat) (hf : HdF mg op kl el ty st bl oq cas) (r : List UInt8) : fld (hdB mg op kl el ty st bl oq cas ++ r) 6 2 = st := by
  obtain ⟨f0, f1, f2, f3, f4, f5, f6, f7, f8⟩ := hf
  have h : fld (hdB mg op kl el ty st bl oq cas ++ r) 6 2 = st % 256 ^ 2 := by
    rw [hdB_h]
    simp only [List.append_assoc]
    exact (fld_skip mg 1 _ 5 2).trans ((fld_skip op 1 _ 4 2).trans ((fld_skip kl 2 _ 2 2).trans ((fld_skip el 1 _ 1 2).trans ((fld_skip ty 1 _ 0 2).trans (fld_here st 2 _)))))
  rw [h]
  exact Nat.mod_eq_of_lt (by simpa using f5)
theorem f_bl (mg op kl el ty st bl oq cas : Nat) (hf : HdF mg op kl el ty st bl oq cas) (r : List UInt8) : fld (hdB mg op kl el ty st bl oq cas ++ r) 8 4 = bl := by
  obtain ⟨f0, f1, f2, f3, f4, f5, f6, f7, f8⟩ := hf
  have h : fld (hdB mg op kl el ty st bl oq cas ++ r) 8 4 = bl % 256 ^ 4 := by
    rw [hdB_h]
    simp only [List.append_assoc]
    exact (fld_skip mg 1 _ 7 4).trans ((fld_skip op 1 _ 6 4).trans ((fld_skip kl 2 _ 4 4).trans ((fld_skip el 1 _ 3 4).trans ((fld_skip ty 1 _ 2 4).trans ((fld_skip st 2 _ 0 4).trans (fld_here bl 4 _))))))
  rw [h]
  exact Nat.mod_eq_of_lt (by simpa using f6)
theorem f_oq (mg op kl el ty st bl oq cas : Nat) (hf : HdF mg op kl el ty st bl oq cas) (r : List UInt8) : fld (hdB mg op kl el ty st bl oq cas ++ r) 12 4 = oq := by
  obtain ⟨f0, f1, f2, f3, f4, f5, f6, f7, f8⟩ := hf
  have h : fld (hdB mg op kl el ty st bl oq cas ++ r) 12 4 = oq % 256 ^ 4 := by
    rw [hdB_h]
    simp only [List.append_assoc]
    exact (fld_skip mg 1 _ 11 4).trans ((fld_skip op 1 _ 10 4).trans ((fld_skip kl 2 _ 8 4).trans ((fld_skip el 1 _ 7 4).trans ((fld_skip ty 1 _ 6 4).trans ((fld_skip st 2 _ 4 4).trans ((fld_skip bl 4 _ 0 4).trans (fld_here oq 4 _)))))))
  rw [h]
  exact Nat.mod_eq_of_lt (by simpa using f7)
theorem f_cas (mg op kl el ty st bl oq cas : Nat) (hf : HdF mg op kl el ty st bl oq cas) (r : List UInt8) : fld (hdB mg op kl el ty st bl oq cas ++ r) 16 8 = cas := by
  obtain ⟨f0, f1, f2, f3, f4, f5, f6, f7, f8⟩ := hf
  have h : fld (hdB mg op kl el ty st bl oq cas ++ r) 16 8 = cas % 256 ^ 8 := by
    rw [hdB_h]
    simp only [List.append_assoc]
    exact (fld_skip mg 1 _ 15 8).trans ((fld_skip op 1 _ 14 8).trans ((fld_skip kl 2 _ 12 8).trans ((fld_skip el 1 _ 11 8).trans ((fld_skip ty 1 _ 10 8).trans ((fld_skip st 2 _ 8 8).trans ((fld_skip bl 4 _ 4 8).trans ((fld_skip oq 4 _ 0 8).trans (fld_here cas 8 _))))))))
  rw [h]
  exact Nat.mod_eq_of_lt (by simpa using f8)

theorem drop_hd (mg op kl el ty st bl oq cas : Nat) (r : List UInt8) : (hdB mg op kl el ty st bl oq cas ++ r).drop 24 = r := by
  rw [List.drop_append, hdB_length, List.drop_of_length_le (by rw [hdB_length]; omega), Nat.sub_self, List.drop_zero, List.nil_append]
theorem fore {a b : List UInt8} {n : Nat} (h : a.length = n) : (a ++ b).take n = a := by
  rw [List.take_append, List.take_of_length_le (by omega), h, Nat.sub_self, List.take_zero, List.append_nil]
theorem past {a b : List UInt8} {n : Nat} (h : a.length = n) : (a ++ b).drop n = b := by
  rw [List.drop_append, List.drop_of_length_le (by omega), h, Nat.sub_self, List.drop_zero, List.nil_append]
def GetM (mg op kl el ty st bl oq cas nx nk nv : Nat) (lx lk lv : List UInt8) (N : Nat) (w : World) (e : Ending) (w' : World) : Prop := ∃ X cx K ck V cv, e = .returned (.tuple #[frV mg op kl el ty st bl oq cas (.slice X nx cx) (.slice K nk ck) (.slice V nv cv), .int .i64 (N : Int), .int .i64 0]) ∧
  Rd w' w'.heap.size X nx cx lx ∧ Rd w' w'.heap.size K nk ck lk ∧ Rd w' w'.heap.size V nv cv lv ∧ Below w.heap.size w w'
theorem needE_made (mg op kl el ty st bl oq cas : Nat) (hf : HdF mg op kl el ty st bl oq cas) (hm : mayB mg kl el bl = true) (hb : ¬ 2048 < bl) (r : List UInt8) : needE (hdB mg op kl el ty st bl oq cas ++ r) = 0 := by
  have hl : 24 ≤ (hdB mg op kl el ty st bl oq cas ++ r).length := by rw [List.length_append, hdB_length]; omega
  unfold needE
  rw [if_neg (by omega), f_mg _ _ _ _ _ _ _ _ _ hf, f_kl _ _ _ _ _ _ _ _ _ hf, f_el _ _ _ _ _ _ _ _ _ hf, f_bl _ _ _ _ _ _ _ _ _ hf, if_pos hm, if_neg hb]
theorem get_made (mg op kl el ty st bl oq cas : Nat) (hf : HdF mg op kl el ty st bl oq cas) (hm : mayB mg kl el bl = true) (hb : ¬ 2048 < bl) (lx lk lv lt : List UInt8) (nv N : Nat) (hx : lx.length = el) (hk : lk.length = kl) (hv : lv.length = nv) (hs : el + kl + nv = bl) (hN : N = 24 + bl)
    (A : Option Addr) (n c : Nat) (w : World) (r : Rd w w.heap.size A n c (hdB mg op kl el ty st bl oq cas ++ lx ++ lk ++ lv ++ lt)) :
    Calls Try.prog 51 #[.slice A n c] w (GetM mg op kl el ty st bl oq cas el kl nv lx lk lv N w) := by
  have ea : hdB mg op kl el ty st bl oq cas ++ lx ++ lk ++ lv ++ lt = hdB mg op kl el ty st bl oq cas ++ (lx ++ (lk ++ (lv ++ lt))) := by simp only [List.append_assoc]
  rw [ea] at r
  have hl := r.len
  rw [List.length_append, hdB_length, List.length_append, List.length_append, List.length_append] at hl
  have he := needE_made mg op kl el ty st bl oq cas hf hm hb (lx ++ (lk ++ (lv ++ lt)))
  have e2 : needN (hdB mg op kl el ty st bl oq cas ++ (lx ++ (lk ++ (lv ++ lt)))) = 24 + bl := by unfold needN; rw [if_pos he, f_bl _ _ _ _ _ _ _ _ _ hf]
  refine (get_ok A n c _ w r he (by rw [e2]; omega)).mono ?_
  intro e w' h
  unfold GetOk at h
  rw [f_mg _ _ _ _ _ _ _ _ _ hf, f_op _ _ _ _ _ _ _ _ _ hf, f_kl _ _ _ _ _ _ _ _ _ hf, f_el _ _ _ _ _ _ _ _ _ hf, f_ty _ _ _ _ _ _ _ _ _ hf, f_st _ _ _ _ _ _ _ _ _ hf, f_bl _ _ _ _ _ _ _ _ _ hf, f_oq _ _ _ _ _ _ _ _ _ hf, f_cas _ _ _ _ _ _ _ _ _ hf, drop_hd, fore hx, past hx, fore hk, show bl - (el + kl) = nv from by omega, ← hN] at h
  have eb : ((lx ++ (lk ++ (lv ++ lt))).take bl).drop (el + kl) = lv := by
    have e3 : lx ++ (lk ++ (lv ++ lt)) = (lx ++ lk ++ lv) ++ lt := by simp only [List.append_assoc]
    rw [e3, fore (by rw [List.length_append, List.length_append]; omega), past (by rw [List.length_append]; omega)]
  rw [eb] at h
  exact h
theorem get_cut (mg op kl el ty st bl oq cas : Nat) (hf : HdF mg op kl el ty st bl oq cas) (hm : mayB mg kl el bl = true) (hb : ¬ 2048 < bl) (lr : List UInt8) (N : Nat) (hr : lr.length = bl) (hN : N = 24 + bl)
    (A : Option Addr) (c : Nat) (w : World) (r : Rd w w.heap.size A (N - 1) c ((hdB mg op kl el ty st bl oq cas ++ lr).take (N - 1))) :
    Calls Try.prog 51 #[.slice A (N - 1) c] w (GetNo 9 w) := by
  have hl := r.len
  by_cases h0 : bl = 0
  · have e1 : needE ((hdB mg op kl el ty st bl oq cas ++ lr).take (N - 1)) = 9 := by unfold needE; rw [if_pos (by omega)]
    have := get_no A (N - 1) c _ w r (by rw [e1]; decide)
    rw [e1] at this
    exact this
  · have e1 : (hdB mg op kl el ty st bl oq cas ++ lr).take (N - 1) = hdB mg op kl el ty st bl oq cas ++ lr.take (N - 25) := by
      rw [List.take_append, hdB_length, List.take_of_length_le (by rw [hdB_length]; omega), show N - 1 - 24 = N - 25 from by omega]
    rw [e1] at r
    have he := needE_made mg op kl el ty st bl oq cas hf hm hb (lr.take (N - 25))
    exact get_short A (N - 1) c _ w r he (by unfold needN; rw [if_pos he, f_bl _ _ _ _ _ _ _ _ _ hf]; omega)
end
section
open Go.ChangeShapes Go.WideShapes Go.ChangeAt Go.RowKit
section
variable {H : Type} {enc : TypeId × Value → H} {W : World}

theorem weights_all {P : Program} {e : TypeId} : ∀ {ds : List (DataW H)} {d : DataW H}, d ∈ ds → ∀ m ∈ d.weights P e, m ∈ DataW.weightsAll P e ds
  | d0 :: ds, d, hd, m, hm => by
    simp only [DataW.weightsAll, List.mem_append]
    rcases List.mem_cons.1 hd with rfl | hd
    · exact Or.inl hm
    · exact Or.inr (weights_all hd m hm)

/-- A slice of elements of type E, k cells each. R: what is said of an element and its cells; S: of its size. -/
theorem trod_list {α : Type} {P : Program} {T E : TypeId} {k : Nat} (R : α → List Value → Prop) (S : α → Prop) {fuel : Nat} {cs : List Value} {x : DataW H × List MemPlace}
    (hT : P.underlying T = some (.slice E)) (hk : P.cellsOf E = k) (hk0 : 0 < k)
    (hR : ∀ (fuel : Nat) (cs : List Value) (x : DataW H × List MemPlace), DataW.trod enc P W 0 (fun _ => true) true fuel E cs = some x → ∃ a, R a cs ∧ ((∀ m ∈ x.1.weights P E, m ≤ reachBytes) → S a))
    (h : DataW.trod enc P W 0 (fun _ => true) true fuel T cs = some x) :
    ∃ (A : Option Addr) (n c : Nat) (l : List α), cs = [.slice A n c] ∧ l.length = n ∧ n ≤ c ∧ c ≤ maxLen ∧ (A = none → c = 0) ∧
      (∀ i a, l[i]? = some a → ∃ ad vs, A = some ad ∧ ad.block < W.heap.size ∧ R a vs ∧ vs.length = k ∧ ∀ j u, vs[j]? = some u → W.cell? (ad.add (i * k + j)) = some u) ∧
      ((∀ m ∈ x.1.weights P T, m ≤ reachBytes) → c * P.bytesOf E ≤ reachBytes ∧ ∀ a ∈ l, S a) := by
  rcases Go.Deep.open_slice hT h with ⟨rfl, rfl⟩ | ⟨a, len, cap, m, n, D, Pl, rfl, _, hl, hm, hmm, rfl, hi⟩
  · exact ⟨none, 0, 0, [], rfl, rfl, Nat.le_refl _, by simp [maxLen], fun _ => rfl, fun i a h => by simp at h, fun _ => ⟨by simp, fun a h => by simp at h⟩⟩
  · simp only [if_true] at hmm
    obtain rfl : m = cap := hmm
    have each : ∀ i, i < len → ∃ b, (∃ vs, R b vs ∧ vs.length = k ∧ ∀ j u, vs[j]? = some u → W.cell? (a.add (i * k + j)) = some u) ∧ ((∀ q ∈ (D i).weights P E, q ≤ reachBytes) → S b) := by
      intro i hi'
      obtain ⟨vs, hc, ht⟩ := hi i (by omega)
      obtain ⟨b, hb, hs⟩ := hR n vs _ ht
      obtain ⟨_, hvl, hat⟩ := World.cells?_some hc
      rw [hk] at hvl hat
      refine ⟨b, ⟨vs, hb, hvl, fun j u hu => ?_⟩, hs⟩
      have hj : j < k := by have := (List.getElem?_eq_some_iff.1 hu).1; omega
      have h1 := hat j hj
      rw [add_add] at h1
      rw [h1, hu]
    obtain ⟨l, hll, hl2⟩ : ∃ l : List α, l.length = len ∧ ∀ i b, l[i]? = some b → (∃ vs, R b vs ∧ vs.length = k ∧ ∀ j u, vs[j]? = some u → W.cell? (a.add (i * k + j)) = some u) ∧ ((∀ q ∈ (D i).weights P E, q ≤ reachBytes) → S b) := by
      clear hi hl h
      induction len with
      | zero => exact ⟨[], rfl, fun i b h => by simp at h⟩
      | succ len ih =>
        obtain ⟨l, h1, h2⟩ := ih (fun i hi' => each i (by omega))
        obtain ⟨b, hb⟩ := each len (by omega)
        refine ⟨l ++ [b], by simp [h1], fun i c hc => ?_⟩
        rcases Nat.lt_or_ge i l.length with hlt | hge
        · rw [List.getElem?_append_left hlt] at hc
          exact h2 i c hc
        · rw [List.getElem?_append_right hge] at hc
          have h0 : i - l.length = 0 := by
            have := (List.getElem?_eq_some_iff.1 hc).1
            simp at this; omega
          rw [h0] at hc
          simp at hc
          subst hc
          have : i = len := by omega
          subst this
          exact hb
    refine ⟨some a, len, m, l, rfl, hll, hl, hm, (fun h => by cases h), fun i b hb => ?_, fun hw => ?_⟩
    · obtain ⟨⟨vs, h1, h2, h3⟩, _⟩ := hl2 i b hb
      refine ⟨a, vs, rfl, ?_, h1, h2, h3⟩
      have h0 := h3 0 (vs[0]'(by omega)) (List.getElem?_eq_getElem (by omega))
      have := World.block_lt_of_cell? W _ h0
      rwa [block_add] at this
    · refine ⟨?_, fun b hb => ?_⟩
      · have := hw _ (by simp only [DataW.weights, hT]; exact List.mem_cons_self ..)
        simp only [List.length_map, List.length_range] at this
        rwa [show len + (m - len) = m from by omega] at this
      · obtain ⟨i, hi', hib⟩ := List.getElem_of_mem hb
        have h1 := (hl2 i b (by rw [List.getElem?_eq_getElem hi', hib])).2
        refine h1 fun q hq => hw q ?_
        simp only [DataW.weights, hT]
        refine List.mem_cons_of_mem _ (List.mem_append.2 (Or.inl (weights_all (d := D i) ?_ q hq)))
        exact List.mem_map.2 ⟨i, List.mem_range.2 (by omega), rfl⟩
end
end
section
open Go.RowKit

/-- A request's bytes. -/
def bytesOf (c : Nat) (q : RQ) : List UInt8 := hdB 128 c q.lk.length (frmX q).length 0 0 ((frmX q).length + q.lk.length + q.lv.length) q.oq q.cs ++ frmX q ++ q.lk ++ q.lv
theorem frmX_len (q : RQ) : (frmX q).length ≤ 20 := by
  unfold frmX
  rw [List.length_append]
  have := xaB_len (shapeOf q.op).1 q.fl q.dl q.ni
  have := xbB_len (putsEx q.op (shapeOf q.op).1 q.ex) q.ex
  omega
theorem bytesOf_len (c : Nat) (q : RQ) : (bytesOf c q).length = 24 + (frmX q).length + q.lk.length + q.lv.length := by
  unfold bytesOf
  rw [List.length_append, List.length_append, List.length_append, hdB_length]
theorem nxt_frame {q : RQ} {c : Nat} (hin : q.In) (hcs : q.cs < 18446744073709551616) (h : sayO q = some c) (r : List UInt8) : nxt (bytesOf c q ++ r) = some (some (q, (bytesOf c q).length)) := by
  obtain ⟨hf, hw, hk, hv, hr⟩ := say_frame hin hcs h
  obtain ⟨w1, -, -, -, w5⟩ := wrongE_0 hw
  have hx := frmX_len q
  have hl := bytesOf_len c q
  have e : bytesOf c q ++ r = hdB 128 c q.lk.length (frmX q).length 0 0 ((frmX q).length + q.lk.length + q.lv.length) q.oq q.cs ++ (frmX q ++ (q.lk ++ (q.lv ++ r))) := by
    unfold bytesOf; simp only [List.append_assoc]
  generalize hX : frmX q = x at *
  obtain ⟨X, hXd⟩ : ∃ X, X = x ++ (q.lk ++ (q.lv ++ r)) := ⟨_, rfl⟩
  rw [← hXd] at e
  have g0 := f_mg _ _ _ _ _ _ _ _ _ hf X
  have g1 := f_op _ _ _ _ _ _ _ _ _ hf X
  have g2 := f_kl _ _ _ _ _ _ _ _ _ hf X
  have g3 := f_el _ _ _ _ _ _ _ _ _ hf X
  have g4 := f_ty _ _ _ _ _ _ _ _ _ hf X
  have g6 := f_bl _ _ _ _ _ _ _ _ _ hf X
  have g7 := f_oq _ _ _ _ _ _ _ _ _ hf X
  have g8 := f_cas _ _ _ _ _ _ _ _ _ hf X
  have hd : (bytesOf c q ++ r).drop 24 = X := by
    rw [e]; exact List.drop_left' (hdB_length ..)
  rw [← e] at g0 g1 g2 g3 g4 g6 g7 g8
  have hlen : (bytesOf c q ++ r).length = 24 + x.length + q.lk.length + q.lv.length + r.length := by rw [List.length_append, hl]
  have hE : needE (bytesOf c q ++ r) = 0 := by
    unfold needE
    rw [if_neg (by omega), g0, g2, g3, g6, if_pos w1, if_neg w5]
  have hN : needN (bytesOf c q ++ r) = (bytesOf c q).length := by rw [needN_of hE, g6, hl]; omega
  have h1 : fxB (bytesOf c q ++ r) = x := by
    unfold fxB
    rw [hd, g3, hXd]
    exact List.take_left
  have h2 : fkB (bytesOf c q ++ r) = q.lk := by
    unfold fkB
    rw [hd, g3, g2, hXd, List.drop_left]
    exact List.take_left
  have h3 : fvB (bytesOf c q ++ r) = q.lv := by
    unfold fvB
    have e3 : x ++ (q.lk ++ (q.lv ++ r)) = (x ++ q.lk ++ q.lv) ++ r := by simp only [List.append_assoc]
    rw [hd, g3, g2, g6, hXd, e3, List.take_left' (by rw [List.length_append, List.length_append])]
    exact List.drop_left' (by rw [List.length_append])
  rw [nxt_yes' hE (by rw [g0, g4]; rfl) (by rw [hN, List.length_append]; omega), g1, g7, g8, h1, h2, h3, hr, hN]
/-- A request that has a frame. -/
def Good (q : RQ) : Prop := q.In ∧ q.cs < 18446744073709551616 ∧ ∃ c, sayO q = some c
def bOf (q : RQ) : List UInt8 := bytesOf ((sayO q).getD 0) q
theorem bOf_eq {q : RQ} {c : Nat} (h : sayO q = some c) : bOf q = bytesOf c q := by unfold bOf; rw [h]; rfl
theorem bOf_len {q : RQ} (h : Good q) : (bOf q).length ≤ 806 := by
  obtain ⟨h1, h2, c, h3⟩ := h
  obtain ⟨-, -, hk, hv, -⟩ := say_frame h1 h2 h3
  rw [bOf_eq h3, bytesOf_len]
  have := frmX_len q
  omega
theorem tell_frames : ∀ (qs : List RQ) (r : List UInt8), (∀ q ∈ qs, Good q) → tell ((qs.map bOf).flatten ++ r) = (qs ++ (tell r).1, (tell r).2)
  | [], r, _ => rfl
  | q :: qs, r, h => by
    obtain ⟨h1, h2, c, h3⟩ := h q List.mem_cons_self
    rw [List.map_cons, List.flatten_cons, List.append_assoc]
    have hx := nxt_frame h1 h2 h3 ((qs.map bOf).flatten ++ r)
    rw [← bOf_eq h3] at hx
    rw [tell_yes hx, List.drop_left, tell_frames qs r (fun q' h' => h q' (List.mem_cons_of_mem _ h'))]
    rfl
theorem frames_len : ∀ (qs : List RQ), (∀ q ∈ qs, Good q) → ((qs.map bOf).flatten).length ≤ 806 * qs.length
  | [], _ => by simp
  | q :: qs, h => by
    have h1 := bOf_len (h q List.mem_cons_self)
    have h2 := frames_len qs (fun q' h' => h q' (List.mem_cons_of_mem _ h'))
    rw [List.map_cons, List.flatten_cons, List.length_append, List.length_cons]
    omega
/-- A row of requests below block B. -/
def WCell (w : World) (B : Nat) (q : RQ) (cs : List Value) : Prop := ∃ K nk ck V nv cv, cs = reqL q K nk ck V nv cv ∧ Rd w B K nk ck q.lk ∧ Rd w B V nv cv q.lv
def WRow (w : World) (B : Nat) (qs : List RQ) (L : List (List Value)) : Prop := L.length = qs.length ∧ ∀ (j : Nat) (q : RQ) (cs : List Value), qs[j]? = some q → L[j]? = some cs → WCell w B q cs
theorem WCell.len {w : World} {B : Nat} {q : RQ} {cs : List Value} (h : WCell w B q cs) : cs.length = 12 := by
  obtain ⟨K, nk, ck, V, nv, cv, rfl, -, -⟩ := h; rfl
theorem WCell.ones {w : World} {B : Nat} {q : RQ} {cs : List Value} (h : WCell w B q cs) : ∀ u ∈ cs, u.oneCell' = true := by
  obtain ⟨K, nk, ck, V, nv, cv, rfl, -, -⟩ := h
  unfold reqL
  intro u hu
  simp only [List.mem_cons, List.not_mem_nil, or_false] at hu
  rcases hu with rfl | rfl | rfl | rfl | rfl | rfl | rfl | rfl | rfl | rfl | rfl | rfl <;> rfl
theorem WRow.nil (w : World) (B : Nat) : WRow w B [] [] := ⟨rfl, fun j q cs h => by simp at h⟩
theorem WRow.below {w w' : World} {B : Nat} {qs : List RQ} {L : List (List Value)} (r : WRow w B qs L) (h : Below B w w') : WRow w' B qs L :=
  ⟨r.1, fun j q cs h1 h2 => by obtain ⟨K, nk, ck, V, nv, cv, e, r1, r2⟩ := r.2 j q cs h1 h2; exact ⟨K, nk, ck, V, nv, cv, e, r1.below h, r2.below h⟩⟩
theorem WRow.lens {w : World} {B : Nat} {qs : List RQ} {L : List (List Value)} (r : WRow w B qs L) : ∀ x ∈ L, x.length = 12 := by
  intro x hx
  obtain ⟨j, hj, rfl⟩ := List.mem_iff_getElem.1 hx
  have hj' : j < qs.length := by rw [← r.1]; exact hj
  exact (r.2 j qs[j] L[j] (List.getElem?_eq_getElem hj') (List.getElem?_eq_getElem hj)).len
theorem WRow.snoc {w : World} {B : Nat} {qs : List RQ} {L : List (List Value)} (r : WRow w B qs L) {q : RQ} {cs : List Value} (h : WCell w B q cs) : WRow w B (qs ++ [q]) (L ++ [cs]) := by
  refine ⟨by rw [List.length_append, List.length_append, r.1]; rfl, fun j q' cs' h1 h2 => ?_⟩
  rw [List.getElem?_append] at h1 h2
  rw [r.1] at h2
  split at h1
  · rename_i hj
    rw [if_pos hj] at h2
    exact r.2 j q' cs' h1 h2
  · rename_i hj
    rw [if_neg hj] at h2
    have e : j - qs.length = 0 := by
      have := (List.getElem?_eq_some_iff.1 h1).1
      simp at this
      omega
    rw [e] at h1 h2
    simp at h1 h2
    subst h1 h2
    exact h
theorem wrow_at {w : World} {B B2 n c : Nat} {A : Option Addr} {L : List (List Value)} {qs : List RQ} (h : Rz w B 12 A n c L.flatten) (ht : WRow w B2 qs L) {j : Nat} (hj : j < qs.length) (hn : n = qs.length) :
    ∃ ad q K nk ck V nv cv, A = some ad ∧ qs[j]? = some q ∧ (∀ i v, (reqL q K nk ck V nv cv)[i]? = some v → w.cell? ((ad.add (j * 12)).add i) = some v) ∧ Rd w B2 K nk ck q.lk ∧ Rd w B2 V nv cv q.lv := by
  obtain ⟨ad, hA, hb, hl, hc⟩ := Rz.elem h (i := j) (by omega)
  have hq : qs[j]? = some qs[j] := List.getElem?_eq_getElem hj
  have hjl : j < L.length := by rw [ht.1]; exact hj
  have hL : L[j]? = some L[j] := List.getElem?_eq_getElem hjl
  obtain ⟨K, nk, ck, V, nv, cv, e, r1, r2⟩ := ht.2 j _ _ hq hL
  refine ⟨ad, _, K, nk, ck, V, nv, cv, hA, hq, fun i v hv => hc i v ?_, r1, r2⟩
  rw [flat_elem 12 L ht.lens hL, e]
  exact hv
end
section
open Go.ChangeShapes Go.WideShapes Go.ChangeAt Go.RowKit

theorem flat_atR {α : Type} {z : Nat} (hz : 0 < z) : ∀ (L : List (List α)), (∀ x ∈ L, x.length = z) → ∀ k, L.flatten[k]? = (L[k / z]?).bind (fun x => x[k % z]?)
  | [], _, k => by simp
  | v :: vs, hv, k => by
    have hvs : v.length = z := hv v List.mem_cons_self
    rw [List.flatten_cons]
    by_cases hk : k < z
    · rw [List.getElem?_append_left (by omega), Nat.div_eq_of_lt hk, Nat.mod_eq_of_lt hk]
      simp
    · have h1 : k / z = (k - z) / z + 1 := by
        have := Nat.sub_add_cancel (Nat.le_of_not_lt hk)
        conv => lhs; rw [← this]
        rw [Nat.add_div_right _ hz]
      have h2 : k % z = (k - z) % z := by
        have := Nat.sub_add_cancel (Nat.le_of_not_lt hk)
        conv => lhs; rw [← this]
        rw [Nat.add_mod_right]
      rw [List.getElem?_append_right (by omega), hvs, flat_atR hz vs (fun u hu => hv u (List.mem_cons_of_mem _ hu)) (k - z), h1, h2, List.getElem?_cons_succ]
section
variable {H : Type} {enc : TypeId × Value → H} {W : World}
/-- What is known of a row of requests that came in. -/
def RowQ (W : World) (A : Option Addr) (n c : Nat) (qs : List RQ) (L : List (List Value)) : Prop := Rz W W.heap.size 12 A n c L.flatten ∧ WRow W W.heap.size qs L ∧ n = qs.length ∧ ∀ q ∈ qs, q.In ∧ q.cs < 18446744073709551616
set_option maxRecDepth 100000 in
theorem open_reqs {v : Value} {d : DataW H} {p : List MemPlace} {base : Nat} (hv : Value.okWide Try.prog W .any base 75 v) (h : DataW.Trod enc Try.prog W 0 (fun _ => true) true 75 v d p) :
    ∃ (A : Option Addr) (n c : Nat) (qs : List RQ) (L : List (List Value)), v = .slice A n c ∧ RowQ W A n c qs L ∧ ((∀ m ∈ d.weights Try.prog 75, m ≤ reachBytes) → True) := by
  obtain ⟨a, n, c, rfl⟩ := okWide_slice Try.underlying75 hv
  obtain ⟨fuel, hf⟩ := h
  obtain ⟨A, n', c', l, hcs, hl, hnc, hcm, hA, hel, hw⟩ := trod_list (k := 12) (fun (a : RQ × List Value) cs => cs = a.2 ∧ WCell W W.heap.size a.1 a.2 ∧ a.1.In ∧ a.1.cs < 18446744073709551616) (fun _ => True) Try.underlying75 cells_req (by omega)
    (fun fuel cs x h => by
      obtain ⟨op, qt, fu, bad, oq, fl, ex, cas, dl, ini, AK, nk, ck, lk, AV, nv, cv, lv, hc, hi, hw⟩ := trod_req h
      exact ⟨(⟨op, qt, fu, bad, oq, lk, lv, fl, ex, cas, dl, ini⟩, cs), ⟨rfl, ⟨AK, nk, ck, AV, nv, cv, hc, hi.1, hi.2.1⟩, ⟨hi.2.2.1, hi.2.2.2.1, hi.2.2.2.2.1, hi.2.2.2.2.2.2.1, hi.2.2.2.2.2.2.2.1⟩, hi.2.2.2.2.2.1⟩, fun _ => trivial⟩) hf
  simp [Value.cells] at hcs
  obtain ⟨rfl, rfl, rfl⟩ := hcs
  have hall : ∀ a ∈ l, WCell W W.heap.size a.1 a.2 ∧ a.1.In ∧ a.1.cs < 18446744073709551616 := by
    intro x hx
    obtain ⟨i, hi, rfl⟩ := List.getElem_of_mem hx
    obtain ⟨_, _, _, _, h1, _⟩ := hel i _ (List.getElem?_eq_getElem hi)
    exact h1.2
  have h12 : ∀ x ∈ l.map (·.2), x.length = 12 := by
    intro x hx
    obtain ⟨y, hy, rfl⟩ := List.mem_map.1 hx
    exact (hall y hy).1.len
  refine ⟨_, _, _, l.map (·.1), l.map (·.2), rfl, ⟨⟨?_, hnc, hcm, hA, fun ad h0 hn => ?_, fun ad i u h0 hu => ?_⟩, ⟨by rw [List.length_map, List.length_map], fun j q cs h1 h2 => ?_⟩, by rw [List.length_map, hl], fun q hq => ?_⟩, fun _ => trivial⟩
  · rw [flat_len 12 _ h12, List.length_map, hl]
  · obtain ⟨ad', vs, h1, h2, _⟩ := hel 0 _ (List.getElem?_eq_getElem (by omega))
    rw [h0] at h1
    injection h1 with h1
    subst h1
    exact h2
  · rw [flat_atR (by omega) _ h12, List.getElem?_map] at hu
    cases hx : l[i / 12]? with
    | none => rw [hx] at hu; simp at hu
    | some x =>
      rw [hx, Option.map_some, Option.bind_some] at hu
      obtain ⟨ad', vs, h1, _, ⟨h3, _⟩, _, h4⟩ := hel _ _ hx
      rw [h0] at h1
      injection h1 with h1
      subst h1
      have := h4 (i % 12) u (by rw [h3]; exact hu)
      rwa [show i / 12 * 12 + i % 12 = i from by omega] at this
  · rw [List.getElem?_map, Option.map_eq_some_iff] at h1 h2
    obtain ⟨a, ha, rfl⟩ := h1
    obtain ⟨b, hb, rfl⟩ := h2
    rw [ha] at hb
    injection hb with hb
    subst hb
    exact (hall a (List.mem_of_getElem? ha)).1
  · obtain ⟨y, hy, rfl⟩ := List.mem_map.1 hq
    exact (hall y hy).2
end
end
section
open Go.RowKit

def BakS (w : World) (AB : Option Addr) (nb cb : Nat) (bb : List UInt8) (AW : Option Addr) (nw cw : Nat) (qs : List RQ) (L : List (List Value)) (wr : World) : Prop :=
  Que wr w.heap.size AB nb cb bb ∧ Oz wr w.heap.size 26 12 AW nw cw L.flatten ∧ WRow wr w.heap.size qs L ∧ (∀ k, obk AB = some k → obk AW ≠ some k) ∧ nw = qs.length ∧ Below w.heap.size w wr
def BakG (bb : List UInt8) (qs : List RQ) (j : Nat) : Prop := bb = (qs.map bOf).flatten ∧ (∀ q ∈ qs, Good q) ∧ qs.length ≤ j
section
variable {w wr wr' : World} {AB AW : Option Addr} {nb cb nw cw : Nat} {bb : List UInt8} {qs : List RQ} {L : List (List Value)} {q : RQ} {cs : List Value}
theorem BakS.que (h : BakS w AB nb cb bb AW nw cw qs L wr) : Que wr w.heap.size AB nb cb bb := h.1
theorem BakS.oz (h : BakS w AB nb cb bb AW nw cw qs L wr) : Oz wr w.heap.size 26 12 AW nw cw L.flatten := h.2.1
theorem BakS.row (h : BakS w AB nb cb bb AW nw cw qs L wr) : WRow wr w.heap.size qs L := h.2.2.1
theorem BakS.len (h : BakS w AB nb cb bb AW nw cw qs L wr) : nw = qs.length := h.2.2.2.2.1
theorem BakS.bel (h : BakS w AB nb cb bb AW nw cw qs L wr) : Below w.heap.size w wr := h.2.2.2.2.2
theorem BakS.start (b : Below w.heap.size w wr) : BakS w none 0 0 [] none 0 0 [] [] wr := ⟨Que.nil _ _, Oz.nil _ _ _ _, WRow.nil _ _, (fun k h => by cases h), rfl, b⟩
theorem BakS.below (h : BakS w AB nb cb bb AW nw cw qs L wr) (b : Below wr.heap.size wr wr') : BakS w AB nb cb bb AW nw cw qs L wr' := by
  obtain ⟨hq, ho, ht, hd, hl, hb⟩ := h
  exact ⟨hq.below b, ho.below b, ht.below (b.mono hb.size), hd, hl, below_step hb b⟩
theorem BakS.box (h : BakS w AB nb cb bb AW nw cw qs L wr) {g : Nat} (gg : wr.grownBy wr' (some g)) (hg : w.heap.size ≤ g) (hlt : g < wr.heap.size) (h1 : obk AB ≠ some g) (h2 : obk AW ≠ some g) : BakS w AB nb cb bb AW nw cw qs L wr' := by
  obtain ⟨hq, ho, ht, hd, hl, hb⟩ := h
  have b1 := below_grown gg hg hlt
  exact ⟨hq.keptO gg (fun k e1 e2 => h1 (by rw [obk_eq] at e1; rw [e1, e2])), ho.kp (Kp.of_grown gg) (fun k e1 e2 => h2 (by rw [e1, e2])), ht.below b1, hd, hl, hb.trans b1⟩
theorem BakS.owns (h : BakS w AB nb cb bb AW nw cw qs L wr) : obk AB ≠ some wr.heap.size ∧ obk AW ≠ some wr.heap.size :=
  ⟨fun e => by have := (h.1.own _ e).2; omega, fun e => by have := (h.2.1.own _ e).2; omega⟩
theorem BakS.app1 (h : BakS w AB nb cb bb AW nw cw qs L wr) {AB' : Option Addr} {m cb' : Nat} {p : List UInt8} (hq' : Que wr' w.heap.size AB' (nb + m) cb' (bb ++ p)) (gg : wr.grownBy wr' (Value.slice AB nb cb).ownBlock)
    (hA : (Value.slice AB' (nb + m) cb').ownBlock = (Value.slice AB nb cb).ownBlock ∨ (Value.slice AB' (nb + m) cb').ownBlock = some wr.heap.size) : BakS w AB' (nb + m) cb' (bb ++ p) AW nw cw qs L wr' := by
  obtain ⟨hq, ho, ht, hd, hl, hb⟩ := h
  rw [obk_eq] at gg hA
  rw [obk_eq] at hA
  have hk := Kp.of_row gg
  have b1 : Below w.heap.size wr wr' := hk.below (fun k h => (hq.own k h.symm).1) hb.size
  refine ⟨hq', ho.kp hk (fun k e1 e2 => hd k e2.symm e1), ht.below b1, fun k e1 e2 => ?_, hl, hb.trans b1⟩
  rcases hA with e | e
  · rw [e] at e1; exact hd k e1 e2
  · rw [e] at e1; injection e1 with e1; have := (ho.own k e2).2; omega
theorem BakS.app2 (h : BakS w AB nb cb bb AW nw cw qs L wr) (hc : WCell wr w.heap.size q cs) {AW' : Option Addr} {cw' : Nat} (ho' : Oz wr' w.heap.size 26 12 AW' (nw + 1) cw' (L.flatten ++ cs)) (gg : wr.grownBy wr' (Value.slice AW nw cw).ownBlock)
    (hA : (Value.slice AW' (nw + 1) cw').ownBlock = (Value.slice AW nw cw).ownBlock ∨ (Value.slice AW' (nw + 1) cw').ownBlock = some wr.heap.size) : BakS w AB nb cb bb AW' (nw + 1) cw' (qs ++ [q]) (L ++ [cs]) wr' := by
  obtain ⟨hq, ho, ht, hd, hl, hb⟩ := h
  rw [obk_eq] at gg hA
  rw [obk_eq] at hA
  have hk := Kp.of_row gg
  have b1 : Below w.heap.size wr wr' := hk.below (fun k h => (ho.own k h.symm).1) hb.size
  refine ⟨hq.keptO gg (fun k e1 e2 => hd k (by rw [obk_eq] at e1; exact e1) e2), by rw [List.flatten_append, List.flatten_singleton]; exact ho', (ht.below b1).snoc ?_, fun k e1 e2 => ?_, by rw [List.length_append, hl]; rfl, hb.trans b1⟩
  · obtain ⟨K, nk, ck, V, nv, cv, e, r1, r2⟩ := hc
    exact ⟨K, nk, ck, V, nv, cv, e, r1.below b1, r2.below b1⟩
  · rcases hA with e | e
    · rw [e] at e2; exact hd k e1 e2
    · rw [e] at e2; injection e2 with e2; have := (hq.own k e1).2; omega
end
theorem BakG.nil : BakG [] [] 0 := ⟨rfl, (fun q h => by simp at h), Nat.le_refl _⟩
theorem BakG.more {bb : List UInt8} {qs : List RQ} {j : Nat} (h : BakG bb qs j) : BakG bb qs (j + 1) := ⟨h.1, h.2.1, Nat.le_succ_of_le h.2.2⟩
theorem BakG.snoc {bb : List UInt8} {qs : List RQ} {j : Nat} {q : RQ} (h : BakG bb qs j) (hg : Good q) : BakG (bb ++ bOf q) (qs ++ [q]) (j + 1) := by
  refine ⟨by rw [List.map_append, List.flatten_append, h.1]; simp, fun q' h' => ?_, ?_⟩
  · rcases List.mem_append.1 h' with h' | h'
    · exact h.2.1 q' h'
    · simp at h'; subst h'; exact hg
  · rw [List.length_append]
    have := h.2.2
    simp only [List.length_cons, List.length_nil]; omega
theorem BakG.len {bb : List UInt8} {qs : List RQ} {j : Nat} (h : BakG bb qs j) : bb.length ≤ 806 * j ∧ qs.length ≤ j := by
  have h1 := frames_len qs h.2.1
  rw [← h.1] at h1
  exact ⟨Nat.le_trans h1 (Nat.mul_le_mul_left _ h.2.2), h.2.2⟩
/-- The request with its lists cut. -/
def fewQ (q : RQ) : RQ := { q with lk := q.lk.take (min q.lk.length 600), lv := q.lv.take (min q.lv.length 3000) }
/-- 'few', written out. -/
def FewC (B : Nat) (q : RQ) (w : World) (e : Ending) (w' : World) : Prop := ∃ (K2 V2 : Option Addr) (ck2 cv2 : Nat), e = .returned (.agg #[.int .i64 q.op, .bool q.qt, .bool q.fu, .int .i64 q.bd, .int .u32 (q.oq : Nat), .slice K2 q.lk.length ck2, .slice V2 q.lv.length cv2, .int .u32 (q.fl : Nat), .int .u32 (q.ex : Nat), .int .u64 (q.cs : Nat), .int .u64 (q.dl : Nat), .int .u64 (q.ni : Nat)]) ∧ Rd w' B K2 q.lk.length ck2 q.lk ∧ Rd w' B V2 q.lv.length cv2 q.lv ∧ Below w.heap.size w w'
theorem few_C (B : Nat) (q : RQ) (K V : Option Addr) (nk ck nv cv : Nat) (w : World) (hB : B ≤ w.heap.size) (rk : Rd w B K nk ck q.lk) (rv : Rd w B V nv cv q.lv) :
    Calls Try.prog 40 #[.agg (reqL q K nk ck V nv cv).toArray] w (FewC B (fewQ q) w) := by
  have h1 := rk.len
  have h2 := rv.len
  have h3 := rk.cap
  have h4 := rk.max
  have h5 := rv.cap
  have h6 := rv.max
  unfold maxLen at h4 h6
  refine (few_anyB q.op q.qt q.fu q.bd q.oq q.fl q.ex q.cs q.dl q.ni K V nk ck nv cv q.lk q.lv w B hB rk rv (by omega) (by omega)).mono fun e w' h => ?_
  obtain ⟨K2, ck2, V2, cv2, he, r1, r2, b⟩ := h
  subst h1 h2
  have e1 : (fewQ q).lk.length = min q.lk.length 600 := by show (q.lk.take _).length = _; rw [List.length_take]; omega
  have e2 : (fewQ q).lv.length = min q.lv.length 3000 := by show (q.lv.take _).length = _; rw [List.length_take]; omega
  exact ⟨K2, V2, ck2, cv2, by rw [e1, e2]; exact he, by rw [e1]; exact r1, by rw [e2]; exact r2, b⟩
end
end Go.Proofs.Ytnghmgbmflcngaa

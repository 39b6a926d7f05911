/- ConnPieces: what a talk says, by definition; bytes.Equal; requests loaded. Conditions: typed in each theorem. -/
import Derived.Test.YtnghmgbmflcngaaTlw
import Derived.Test.YtnghmgbmflcngaaRql
import Derived.Test.YtnghmgbmflcngaaStra
namespace Go.Proofs.Ytnghmgbmflcngaa
set_option linter.unusedVariables false
open Go.RowKit

theorem wpl_loadR {ops : Array Oper} {rest : List Oper} {o : Oper} {a : Act} {w : World} {Q : Exit → Act → World → Prop} (hgd : o.guard = none) (x : Operand) (ho : o.op = .load 26 x)
    (p : Addr) (hx : a.eval x = .pointer (some p)) (cs : List Value) (hl : cs.length = 12) (hc : ∀ j v, cs[j]? = some v → w.cell? (p.add j) = some v)
    (h : wpList Try.prog ops Q rest (a.put o.dst (.agg cs.toArray)) w) : wpList Try.prog ops Q (o :: rest) a w := by
  obtain ⟨fs, hu⟩ := undReq
  exact wpList_loadz hgd _ x ho p hx cs _ hc hu rfl (by rw [hl]; exact szReq) h
theorem bytesEqual_any (A1 A2 : Option Addr) (n1 c1 n2 c2 B B2 : Nat) (l1 l2 : List UInt8) (w : World) (h1 : Rd w B A1 n1 c1 l1) (h2 : Rd w B2 A2 n2 c2 l2) :
    Calls Try.prog 74 #[.slice A1 n1 c1, .slice A2 n2 c2] w fun e w' => e = .returned (.bool (l1 == l2)) ∧ w = w' := by
  have r1 := run_strA h1
  have r2 := run_strA h2
  go_enter Try.func74, Try.ntmps74
  go_wp2
  go_ret
  exact ⟨rfl, rfl⟩
theorem addr0C (g n : Nat) : (⟨g, 0, none⟩ : Addr).add n = ⟨g, n, none⟩ := by
  unfold Addr.add
  by_cases hi : n = 0
  · subst hi; rfl
  · rw [if_neg hi]; simp
/-- The cells of a request's box, one by one. -/
theorem blk_cells12 {w : World} {g : Nat} {T : TypeId} {cs : List Value} (h : Blk w g cs.toArray T) : ∀ i v, cs[i]? = some v → w.cell? ((⟨g, 0, none⟩ : Addr).add i) = some v := by
  intro i v hv
  rw [addr0C, cell_of_row w g i _ _ (0, 0) h]
  simpa using hv
theorem tell_pr {l : List UInt8} : ∀ q ∈ (tell l).1, PrQ q := by
  generalize hn : l.length = n
  induction n using Nat.strongRecOn generalizing l with
  | ind n ih =>
    cases hx : nxt l with
    | none => rw [tell_bad hx]; intro q h; cases h
    | some o =>
      cases o with
      | none => rw [tell_no hx]; intro q h; cases h
      | some p =>
        obtain ⟨q, N⟩ := p
        have hs := nxt_step hx
        rw [tell_yes hx]
        have hd : (l.drop N).length = l.length - N := List.length_drop
        intro x hxm
        rcases List.mem_cons.1 hxm with e | e
        · rw [e]; exact nxt_pr hx
        · exact ih (l.length - N) (by omega) (l := l.drop N) hd x e
/-- The bytes of plain answers in order, the first of them number k. -/
def outs : List RQ → Nat → List UInt8
  | [], _ => []
  | q :: qs, k => plR q k ++ outs qs (k + 1)
theorem outs_app : ∀ (qs : List RQ) (q : RQ) (k : Nat), outs (qs ++ [q]) k = outs qs k ++ plR q (k + qs.length)
  | [], q, k => by simp [outs]
  | x :: qs, q, k => by
    rw [List.cons_append, outs, outs, outs_app qs q (k + 1), List.append_assoc, List.length_cons, show k + 1 + qs.length = k + (qs.length + 1) from by omega]
theorem outs_take {qs : List RQ} {q : RQ} {j : Nat} (h : qs[j]? = some q) : outs (qs.take (j + 1)) 0 = outs (qs.take j) 0 ++ plR q j := by
  have hj : j < qs.length := (List.getElem?_eq_some_iff.1 h).1
  rw [List.take_add_one, h]
  show outs (qs.take j ++ [q]) 0 = _
  rw [outs_app, Nat.zero_add, List.length_take, Nat.min_eq_left (by omega)]
theorem saysP_outs : ∀ (qs : List RQ) (k : Nat), (saysP qs k).1 = outs (saysP qs k).2.1 k
  | [], _ => rfl
  | q :: qs, k => by
    rw [saysP]
    by_cases hq : plC q = true
    · rw [if_pos hq]; simp [outs]
    · rw [if_neg hq]
      show _ ++ _ = outs (q :: _) k
      rw [outs, saysP_outs qs (k + 1)]
theorem saysP_mem : ∀ (qs : List RQ) (k : Nat), (∀ q ∈ (saysP qs k).2.1, q ∈ qs) ∧ (saysP qs k).2.1.length ≤ qs.length
  | [], _ => ⟨fun q h => h, Nat.le_refl _⟩
  | x :: qs, k => by
    rw [saysP]
    by_cases hq : plC x = true
    · rw [if_pos hq]
      exact ⟨fun q h => by rw [List.mem_singleton] at h; rw [h]; exact List.mem_cons_self, by simp⟩
    · rw [if_neg hq]
      obtain ⟨h1, h2⟩ := saysP_mem qs (k + 1)
      refine ⟨fun q h => ?_, ?_⟩
      · rcases List.mem_cons.1 h with e | e
        · rw [e]; exact List.mem_cons_self
        · exact List.mem_cons_of_mem _ (h1 q e)
      · show (saysP qs (k + 1)).2.1.length + 1 ≤ qs.length + 1
        omega
theorem saysP_quit : ∀ (qs : List RQ) (k : Nat), (saysP qs k).2.2 = true → ∃ q, (saysP qs k).2.1[(saysP qs k).2.1.length - 1]? = some q ∧ q.op = 7 ∧ 0 < (saysP qs k).2.1.length
  | [], _, h => by cases h
  | x :: qs, k, h => by
    rw [saysP] at h ⊢
    by_cases hq : plC x = true
    · rw [if_pos hq]
      exact ⟨x, rfl, (of_decide_eq_true hq).2, by simp⟩
    · rw [if_neg hq] at h ⊢
      obtain ⟨q, h1, h2, h3⟩ := saysP_quit qs (k + 1) h
      refine ⟨q, ?_, h2, by simp⟩
      show (x :: (saysP qs (k + 1)).2.1)[(saysP qs (k + 1)).2.1.length + 1 - 1]? = some q
      rw [Nat.add_sub_cancel]
      generalize (saysP qs (k + 1)).2.1 = L at h1 h3 ⊢
      obtain ⟨m, hm⟩ : ∃ m, L.length = m + 1 := ⟨L.length - 1, by omega⟩
      rw [hm] at h1 ⊢
      simpa using h1
/-- How a talk ends. -/
structure TEnd (O : List UInt8) (qs : List RQ) (cl : Bool) : Prop where
  pr : ∀ q ∈ qs, PrQ q
  how : (O = outs qs 0 ∧ cl = false) ∨ (O = outs qs 0 ∧ cl = true ∧ ∃ q, qs[qs.length - 1]? = some q ∧ q.op = 7 ∧ 0 < qs.length) ∨ (O = outs qs 0 ++ malB ∧ cl = true)
theorem talk_end (b : List UInt8) : TEnd (talkS b).1 (talkS b).2.1 (talkS b).2.2 ∧ (talkS b).2.1.length ≤ b.length := by
  have hf := @tell_few b
  have hp := @tell_pr b
  obtain ⟨h1, h2⟩ := saysP_mem (tell b).1 0
  have h3 := saysP_outs (tell b).1 0
  have h4 := saysP_quit (tell b).1 0
  unfold talkS
  by_cases c1 : (saysP (tell b).1 0).2.2 = true
  · rw [if_pos c1]
    exact ⟨⟨fun q h => hp q (h1 q h), Or.inr (Or.inl ⟨h3, rfl, h4 c1⟩)⟩, Nat.le_trans h2 hf⟩
  · rw [if_neg c1]
    by_cases c2 : (tell b).2.2 = true
    · rw [if_pos c2]
      exact ⟨⟨fun q h => hp q (h1 q h), Or.inr (Or.inr ⟨by rw [h3], rfl⟩)⟩, Nat.le_trans h2 hf⟩
    · rw [if_neg c2]
      exact ⟨⟨fun q h => hp q (h1 q h), Or.inl ⟨h3, rfl⟩⟩, Nat.le_trans h2 hf⟩
theorem outs_len : ∀ (qs : List RQ) (k : Nat), (∀ q ∈ qs, PrQ q) → (outs qs k).length ≤ 400 * qs.length
  | [], _, _ => Nat.zero_le _
  | q :: qs, k, h => by
    have h1 := (plg_of (h q List.mem_cons_self) k).2
    have h2 := outs_len qs (k + 1) fun x hx => h x (List.mem_cons_of_mem _ hx)
    rw [outs, List.length_append, List.length_cons]
    omega
theorem mal_ne (W : List UInt8) : ((W ++ malB) == W) = false := by
  rw [beq_eq_false_iff_ne]
  intro h
  have h1 := congrArg List.length h
  rw [List.length_append] at h1
  have : 0 < malB.length := by decide +kernel
  omega
/-- What a talk answers, its words under names. -/
def TlkR (O : List UInt8) (qs : List RQ) (on N : Nat) (cl : Bool) (w : World) (e : Ending) (w' : World) : Prop :=
  ∃ (XA : Option Addr) (xc : Nat) (LA : Option Addr) (lc : Nat) (L : List (List Value)), e = .returned (.tuple #[.slice XA on xc, .slice LA N lc, .bool cl]) ∧ Rd w' w'.heap.size XA on xc O ∧ Rz w' w'.heap.size 12 LA N lc L.flatten ∧ TRow w' (fun _ => False) qs L ∧ Below w.heap.size w w'
theorem TalkQ.r {l : List UInt8} {w : World} {e : Ending} {w' : World} (h : TalkQ l w e w') : TlkR (talkS l).1 (talkS l).2.1 (talkS l).1.length (talkS l).2.1.length (talkS l).2.2 w e w' := by
  obtain ⟨XA, xn, xc, LA, ln, lc, L, he, h1, h2, h3, h4, h5⟩ := h
  have hx := h1.len
  subst h4
  subst hx
  exact ⟨XA, xc, LA, lc, L, he, h1, h2, h3, h5⟩
theorem same_selfC (q : RQ) (K1 V1 K2 V2 : Option Addr) (nk1 ck1 nv1 cv1 nk2 ck2 nv2 cv2 : Nat) (w : World) (h1 : Rd w w.heap.size K1 nk1 ck1 q.lk) (h2 : Rd w w.heap.size V1 nv1 cv1 q.lv) (h3 : Rd w w.heap.size K2 nk2 ck2 q.lk) (h4 : Rd w w.heap.size V2 nv2 cv2 q.lv) :
    Calls Try.prog 48 #[.agg (reqL q K1 nk1 ck1 V1 nv1 cv1).toArray, .agg (reqL q K2 nk2 ck2 V2 nv2 cv2).toArray] w fun e w' => e = .returned (.bool true) ∧ Below w.heap.size w w' := by
  have h := qsame_any q.op q.op q.bd q.bd q.qt q.qt q.fu q.fu q.oq q.oq q.fl q.fl q.ex q.ex q.cs q.cs q.dl q.dl q.ni q.ni K1 K2 V1 V2 nk1 ck1 nk2 ck2 nv1 cv1 nv2 cv2 q.lk q.lk q.lv q.lv w h1 h3 h2 h4
  rw [reqSame_yes ⟨rfl, rfl, rfl, rfl, rfl, rfl, rfl, rfl, rfl, rfl, rfl, rfl⟩] at h
  exact h
end Go.Proofs.Ytnghmgbmflcngaa

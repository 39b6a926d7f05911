/- The document's reader, a call. Conditions: typed in each theorem. -/
import Derived.Test.YtbofnmlddpbfeaaOctr
import Derived.Deep.RegionWith
namespace Go.Proofs.Ytbofnmlddpbfeaa
set_option linter.unusedVariables false
open Go.RowKit

/-- How many bytes a call asks for. -/
def widR (kind N : Int) : Int := if kind = 0 then 1 else if kind = 1 then 2 else if kind = 2 then 4 else if kind = 3 then 8 else N
theorem wid0 (N : Int) : widR 0 N = 1 := rfl
theorem wid1 (N : Int) : widR 1 N = 2 := rfl
theorem wid2 (N : Int) : widR 2 N = 4 := rfl
theorem wid3 (N : Int) : widR 3 N = 8 := rfl
theorem wid4 (N : Int) : widR 4 N = N := rfl
def numR (kind : Int) (l : List UInt8) (at_ : Nat) (err N : Int) : Nat := if kind < 4 then numQ (takeR l at_ err (widR kind N)).1 else 0
def outR (kind : Int) (l : List UInt8) (at_ : Nat) (err N : Int) : List UInt8 := if kind < 4 then [] else (takeR l at_ err (widR kind N)).1
def DoQ (kind : Int) (l : List UInt8) (at_ : Nat) (err N : Int) (A : Option Addr) (n c : Nat) (w : World) (e : Ending) (w' : World) : Prop :=
  ∃ (A' : Option Addr) (n' c' : Nat), e = .returned (.tuple #[.agg #[.slice A n c, .int .i64 ((takeR l at_ err (widR kind N)).2.1 : Int), .int .i64 (takeR l at_ err (widR kind N)).2.2], .agg #[.int .u64 (numR kind l at_ err N : Int), .slice A' n' c']]) ∧
    (∀ w2 B, Rd w2 B A n c l → Rd w2 B A' n' c' (outR kind l at_ err N)) ∧ Below w.heap.size w w'

theorem rd_lift4 {w : World} {A : Option Addr} {n c : Nat} {l : List UInt8} (h : Rd w w.heap.size A n c l) (o1 o2 o3 o4 : Obj) : Rd ((((w.alloc o1).alloc o2).alloc o3).alloc o4) w.heap.size A n c l :=
  (((h.alloc (Nat.le_refl _) _).alloc (by simp) _).alloc (by simp; omega) _).alloc (by simp; omega) _
theorem rd_lift4s {w : World} {A : Option Addr} {n c : Nat} {l : List UInt8} (h : Rd w w.heap.size A n c l) (o1 o2 o3 o4 : Obj) : Rd ((((w.alloc o1).alloc o2).alloc o3).alloc o4) (w.heap.size + 1 + 1 + 1 + 1) A n c l :=
  (rd_lift4 h o1 o2 o3 o4).more (by omega)
theorem rd_lift4d {w : World} {A : Option Addr} {n c : Nat} {l : List UInt8} (h : Rd w w.heap.size A n c l) (o1 o2 o3 o4 : Obj) : Rd ((((w.alloc o1).alloc o2).alloc o3).alloc o4).drew w.heap.size A n c l := rd_lift4 h o1 o2 o3 o4
theorem doQ_mk {kind : Int} {l : List UInt8} {at_ : Nat} {err N : Int} {A A' : Option Addr} {n c n' c' at2 : Nat} {w w' : World} {out : List UInt8} {err2 : Int} {num atI : Int} (hat : atI = (at2 : Int))
    (ht : takeR l at_ err (widR kind N) = (out, at2, err2)) (hn : num = if kind < 4 then (numQ out : Int) else 0) (hr : ∀ w2 B, Rd w2 B A n c l → Rd w2 B A' n' c' (if kind < 4 then [] else out)) (hb : Below w.heap.size w w') :
    DoQ kind l at_ err N A n c w (.returned (.tuple #[.agg #[.slice A n c, .int .i64 atI, .int .i64 err2], .agg #[.int .u64 num, .slice A' n' c']])) w' := by
  subst hat
  refine ⟨A', n', c', ?_, ?_, hb⟩
  · rw [ht, hn]
    unfold numR
    rw [ht]
    split <;> simp
  · unfold outR
    rw [ht]
    exact hr

set_option maxHeartbeats 4000000 in
theorem do_err (kind N err : Int) (l : List UInt8) (at_ : Nat) (A : Option Addr) (n c : Nat) (w : World) (h0 : 0 ≤ kind) (h4 : kind ≤ 4) (he : err ≠ 0) :
    Calls Try.prog 25 #[.agg #[.slice A n c, .int .i64 (at_ : Int), .int .i64 err], .agg #[.int .i64 kind, .int .i64 N]] w (DoQ kind l at_ err N A n c w) := by
  have hne : (err != 0) = true := by rw [bne_iff_ne]; exact he
  have ht : takeR l at_ err (widR kind N) = ([], at_, err) := if_pos he
  have HT := Lib.hid ht
  clear ht he
  rcases (show kind = 0 ∨ kind = 1 ∨ kind = 2 ∨ kind = 3 ∨ kind = 4 by omega) with rfl | rfl | rfl | rfl | rfl
  all_goals
    go_enter Try.func25, Try.ntmps25
    go_wp2
    refine bodyPost_ret (v := .tuple #[.agg #[.slice A n c, .int .i64 (at_ : Int), .int .i64 err], .agg #[.int .u64 0, .slice none 0 0]]) (by simp [results, Try.results25, go_sem]) rfl ?_
    refine doQ_mk rfl HT.out (by simp [numQ, numB]) (fun _ _ _ => by simp; exact Rd.nil _ _) ?_
    exact below_a1' (below_a1' (below_a1' (below_a1' (Below.refl _ _) _) _) _) _

set_option maxHeartbeats 4000000 in
theorem do_neg (kind N : Int) (l : List UInt8) (at_ : Nat) (A : Option Addr) (n c : Nat) (w : World) (h0 : 0 ≤ kind) (h4 : kind ≤ 4) (hN : widR kind N < 0) :
    Calls Try.prog 25 #[.agg #[.slice A n c, .int .i64 (at_ : Int), .int .i64 0], .agg #[.int .i64 kind, .int .i64 N]] w (DoQ kind l at_ 0 N A n c w) := by
  have ht : takeR l at_ 0 (widR kind N) = ([], at_, 2) := by unfold takeR; rw [if_neg (by omega), if_pos hN]
  have HT := Lib.hid ht
  clear ht
  have hk : kind = 4 ∧ N < 0 := by
    unfold widR at hN
    repeat' split at hN
    all_goals omega
  obtain ⟨rfl, hN⟩ := hk
  go_enter Try.func25, Try.ntmps25
  go_wp2
  refine bodyPost_ret (v := .tuple #[.agg #[.slice A n c, .int .i64 (at_ : Int), .int .i64 2], .agg #[.int .u64 0, .slice none 0 0]]) (by simp [results, Try.results25, go_sem]) rfl ?_
  refine doQ_mk rfl HT.out (by simp) (fun _ _ _ => by simp; exact Rd.nil _ _) ?_
  exact below_a1' (below_a1' (below_a1' (below_a1' (Below.refl _ _) _) _) _) _

set_option maxHeartbeats 4000000 in
theorem do_short (kind N : Int) (l : List UInt8) (at_ : Nat) (A : Option Addr) (n c B : Nat) (w : World) (h0 : 0 ≤ kind) (h4 : kind ≤ 4) (hr : Rd w B A n c l) (hat : at_ ≤ n) (hn : n ≤ 281474976710656) (hN : 0 ≤ widR kind N) (hS : widR kind N > (n : Int) - at_) :
    Calls Try.prog 25 #[.agg #[.slice A n c, .int .i64 (at_ : Int), .int .i64 0], .agg #[.int .i64 kind, .int .i64 N]] w (DoQ kind l at_ 0 N A n c w) := by
  have ht : takeR l at_ 0 (widR kind N) = ([], at_, 9) := by unfold takeR; rw [if_neg (by omega), if_neg (by omega), if_pos (by rw [hr.len]; exact hS)]
  have HT := Lib.hid ht
  clear ht hr
  rcases (show kind = 0 ∨ kind = 1 ∨ kind = 2 ∨ kind = 3 ∨ kind = 4 by omega) with rfl | rfl | rfl | rfl | rfl
  all_goals
    simp only [wid0, wid1, wid2, wid3, wid4] at hS hN
    go_enter Try.func25, Try.ntmps25
    go_wp2
    refine bodyPost_ret (v := .tuple #[.agg #[.slice A n c, .int .i64 (at_ : Int), .int .i64 9], .agg #[.int .u64 0, .slice none 0 0]]) (by simp [results, Try.results25, go_sem]) rfl ?_
    refine doQ_mk rfl HT.out (by simp [numQ, numB]) (fun _ _ _ => by simp; exact Rd.nil _ _) ?_
    exact below_a1' (below_a1' (below_a1' (below_a1' (Below.refl _ _) _) _) _) _

set_option maxHeartbeats 4000000 in
theorem do_ok (kind N : Int) (m : Nat) (l : List UInt8) (at_ : Nat) (A : Option Addr) (n c : Nat) (w : World) (h0 : 0 ≤ kind) (h4 : kind ≤ 4) (hr : Rd w w.heap.size A n c l) (hn : n ≤ 281474976710656) (hm : widR kind N = (m : Int)) (hS : at_ + m ≤ n) :
    Calls Try.prog 25 #[.agg #[.slice A n c, .int .i64 (at_ : Int), .int .i64 0], .agg #[.int .i64 kind, .int .i64 N]] w (DoQ kind l at_ 0 N A n c w) := by
  have ht : takeR l at_ 0 (widR kind N) = ((l.drop at_).take m, at_ + m, 0) := by
    unfold takeR
    rw [hm, if_neg (by omega), if_neg (by omega), if_neg (by rw [hr.len]; omega)]; simp
  have hcut := hr.cut (i := at_) (j := at_ + m) (by omega) hS
  have e2 : (l.take (at_ + m)).drop at_ = (l.drop at_).take m := by rw [List.drop_take]; congr 1; omega
  rw [e2, show at_ + m - at_ = m from by omega] at hcut
  have HC := Lib.hid (show ∀ w2 B, Rd w2 B A n c l → _ from fun w2 B (h : Rd w2 B A n c l) => by
    have hc := h.cut (i := at_) (j := at_ + m) (by omega) hS
    rw [e2, show at_ + m - at_ = m from by omega] at hc
    exact hc)
  have HT := Lib.hid ht
  have hcap := hr.cap
  clear ht hr e2
  have hb : ∀ o1 o2 o3 o4 : Obj, Below w.heap.size w ((((w.alloc o1).alloc o2).alloc o3).alloc o4) := fun o1 o2 o3 o4 => below_a1' (below_a1' (below_a1' (below_a1' (Below.refl _ _) _) _) _) _
  rcases (show kind = 0 ∨ kind = 1 ∨ kind = 2 ∨ kind = 3 ∨ kind = 4 by omega) with rfl | rfl | rfl | rfl | rfl
  · rw [wid0] at hm
    obtain rfl : m = 1 := by omega
    clear hm
    have hca : ¬ c = at_ := by omega
    rw [if_neg hca] at hcut
    go_enter Try.func25, Try.ntmps25
    go_wp2_with fail
    go_region_with (go_at_call 43; refine (number_any _ 1 _ w.heap.size ((l.drop at_).take 1) _ (rd_lift4d hcut _ _ _ _)).mono ?_; rintro e w' ⟨rfl, hq⟩; subst hq)
    all_goals
      go_wp2_with fail
      refine bodyPost_ret (v := .tuple #[.agg #[.slice A n c, .int .i64 ((at_ : Int) + 1), .int .i64 0], .agg #[.int .u64 (numQ ((l.drop at_).take 1) : Int), .slice none 0 0]]) (by simp [results, Try.results25, go_sem]) rfl ?_
      exact doQ_mk (at2 := at_ + 1) (by omega) HT.out (by simp) (fun _ _ _ => by simp; exact Rd.nil _ _) (hb _ _ _ _).drew
  · rw [wid1] at hm
    obtain rfl : m = 2 := by omega
    clear hm
    have hca : ¬ c = at_ := by omega
    rw [if_neg hca] at hcut
    go_enter Try.func25, Try.ntmps25
    go_wp2_with fail
    go_region_with (go_at_call 43; refine (number_any _ 2 _ w.heap.size ((l.drop at_).take 2) _ (rd_lift4d hcut _ _ _ _)).mono ?_; rintro e w' ⟨rfl, hq⟩; subst hq)
    all_goals
      go_wp2_with fail
      refine bodyPost_ret (v := .tuple #[.agg #[.slice A n c, .int .i64 ((at_ : Int) + 2), .int .i64 0], .agg #[.int .u64 (numQ ((l.drop at_).take 2) : Int), .slice none 0 0]]) (by simp [results, Try.results25, go_sem]) rfl ?_
      exact doQ_mk (at2 := at_ + 2) (by omega) HT.out (by simp) (fun _ _ _ => by simp; exact Rd.nil _ _) (hb _ _ _ _).drew
  · rw [wid2] at hm
    obtain rfl : m = 4 := by omega
    clear hm
    have hca : ¬ c = at_ := by omega
    rw [if_neg hca] at hcut
    go_enter Try.func25, Try.ntmps25
    go_wp2_with fail
    go_region_with (go_at_call 43; refine (number_any _ 4 _ w.heap.size ((l.drop at_).take 4) _ (rd_lift4d hcut _ _ _ _)).mono ?_; rintro e w' ⟨rfl, hq⟩; subst hq)
    all_goals
      go_wp2_with fail
      refine bodyPost_ret (v := .tuple #[.agg #[.slice A n c, .int .i64 ((at_ : Int) + 4), .int .i64 0], .agg #[.int .u64 (numQ ((l.drop at_).take 4) : Int), .slice none 0 0]]) (by simp [results, Try.results25, go_sem]) rfl ?_
      exact doQ_mk (at2 := at_ + 4) (by omega) HT.out (by simp) (fun _ _ _ => by simp; exact Rd.nil _ _) (hb _ _ _ _).drew
  · rw [wid3] at hm
    obtain rfl : m = 8 := by omega
    clear hm
    have hca : ¬ c = at_ := by omega
    rw [if_neg hca] at hcut
    go_enter Try.func25, Try.ntmps25
    go_wp2_with fail
    go_region_with (go_at_call 43; refine (number_any _ 8 _ w.heap.size ((l.drop at_).take 8) _ (rd_lift4d hcut _ _ _ _)).mono ?_; rintro e w' ⟨rfl, hq⟩; subst hq)
    all_goals
      go_wp2_with fail
      refine bodyPost_ret (v := .tuple #[.agg #[.slice A n c, .int .i64 ((at_ : Int) + 8), .int .i64 0], .agg #[.int .u64 (numQ ((l.drop at_).take 8) : Int), .slice none 0 0]]) (by simp [results, Try.results25, go_sem]) rfl ?_
      exact doQ_mk (at2 := at_ + 8) (by omega) HT.out (by simp) (fun _ _ _ => by simp; exact Rd.nil _ _) (hb _ _ _ _).drew
  · rw [wid4] at hm
    subst hm
    by_cases hca : c = at_
    · rw [if_pos hca] at hcut
      go_enter Try.func25, Try.ntmps25
      go_wp2_with fail
      refine bodyPost_ret (v := .tuple #[.agg #[.slice A n c, .int .i64 ((at_ : Int) + m), .int .i64 0], .agg #[.int .u64 0, .slice A m (c - at_)]]) (by simp [results, Try.results25, go_sem]; omega) rfl ?_
      exact doQ_mk (at2 := at_ + m) (by omega) HT.out (by simp) (fun w2 B h => by have hc := HC.out w2 B h; simp [hca] at hc ⊢; exact hc) (hb _ _ _ _)
    · rw [if_neg hca] at hcut
      go_enter Try.func25, Try.ntmps25
      go_wp2_with fail
      refine bodyPost_ret (v := .tuple #[.agg #[.slice A n c, .int .i64 ((at_ : Int) + m), .int .i64 0], .agg #[.int .u64 0, .slice (A.map (·.add at_)) m (c - at_)]]) (by simp [results, Try.results25, go_sem]) rfl ?_
      exact doQ_mk (at2 := at_ + m) (by omega) HT.out (by simp) (fun w2 B h => by have hc := HC.out w2 B h; simp [hca] at hc ⊢; exact hc) (hb _ _ _ _)

/-- The document's reader, a call, whatever is asked. -/
theorem do_any (kind N err : Int) (l : List UInt8) (at_ : Nat) (A : Option Addr) (n c : Nat) (w : World) (h0 : 0 ≤ kind) (h4 : kind ≤ 4) (hr : Rd w w.heap.size A n c l) (hat : at_ ≤ n) (hn : n ≤ 281474976710656) :
    Calls Try.prog 25 #[.agg #[.slice A n c, .int .i64 (at_ : Int), .int .i64 err], .agg #[.int .i64 kind, .int .i64 N]] w (DoQ kind l at_ err N A n c w) := by
  by_cases he : err ≠ 0
  · exact do_err kind N err l at_ A n c w h0 h4 he
  obtain rfl : err = 0 := by omega
  by_cases hN : widR kind N < 0
  · exact do_neg kind N l at_ A n c w h0 h4 hN
  by_cases hS : widR kind N > (n : Int) - at_
  · exact do_short kind N l at_ A n c _ w h0 h4 hr hat hn (by omega) hS
  obtain ⟨m, hm⟩ := Int.eq_ofNat_of_zero_le (show 0 ≤ widR kind N by omega)
  exact do_ok kind N m l at_ A n c w h0 h4 hr hn hm (by omega)
end Go.Proofs.Ytbofnmlddpbfeaa

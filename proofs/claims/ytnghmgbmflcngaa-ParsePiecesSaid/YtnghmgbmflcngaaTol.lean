/- Told requests in a row: what is kept while blocks change. Conditions: typed in each theorem. -/
import Derived.Test.YtnghmgbmflcngaaPfa
import Derived.Test.YtnghmgbmflcngaaRow
namespace Go.Proofs.Ytnghmgbmflcngaa
set_option linter.unusedVariables false
open Go.RowKit

/-- The owner of a slice's memory. -/
def obk (A : Option Addr) : Option Nat := A.map (·.block)
theorem obk_eq (A : Option Addr) (n c : Nat) : (Value.slice A n c).ownBlock = obk A := by cases A <;> rfl
/-- All blocks but those of F are as they were. -/
structure Kp (w w' : World) (F : Nat → Prop) : Prop where
  os : w'.os = w.os
  tape : w'.tape = w.tape
  output : w'.output = w.output
  size : w.heap.size ≤ w'.heap.size
  block : ∀ k, k < w.heap.size → ¬ F k → w'.heap[k]? = w.heap[k]?
theorem Kp.of_grown {w w' : World} {g : Nat} (h : w.grownBy w' (some g)) : Kp w w' (fun k => k = g) := ⟨h.os, h.tape, h.output, h.size, fun k hk hg => h.block k hk (fun e => hg (by injection e))⟩
theorem Kp.of_row {w w' : World} {r : Option Nat} (h : w.grownBy w' r) : Kp w w' (fun k => some k = r) := ⟨h.os, h.tape, h.output, h.size, fun k hk hg => h.block k hk hg⟩
theorem Kp.of_two {w w' : World} {g : Nat} {r : Option Nat} (h : TwoK w w' g r) : Kp w w' (fun k => k = g ∨ some k = r) := ⟨h.os, h.tape, h.output, h.size, fun k hk hg => h.block k hk (fun e => hg (.inl e)) (fun e => hg (.inr e))⟩
theorem Kp.of_below {w w' : World} (h : Below w.heap.size w w') (F : Nat → Prop) : Kp w w' F := ⟨h.os, h.tape, h.output, h.size, fun k hk _ => h.block k hk⟩
theorem Kp.below {w w' : World} {F : Nat → Prop} {B : Nat} (h : Kp w w' F) (hF : ∀ k, F k → B ≤ k) (hB : B ≤ w.heap.size) : Below B w w' :=
  ⟨h.os, h.tape, h.output, h.size, fun k hk => h.block k (by omega) (fun hf => by have := hF k hf; omega)⟩
theorem Kp.blk {w w' : World} {F : Nat → Prop} {g : Nat} {cs : Array Value} {T : TypeId} (h : Kp w w' F) (hb : Blk w g cs T) (hg : ¬ F g) : Blk w' g cs T := (h.block g hb.lt hg).trans hb
/-- Bytes that stand outside of F. -/
def RdF (w : World) (F : Nat → Prop) (A : Option Addr) (n c : Nat) (l : List UInt8) : Prop := Rd w w.heap.size A n c l ∧ ∀ k, obk A = some k → k < w.heap.size ∧ ¬ F k
theorem RdF.kp {w w' : World} {F F' : Nat → Prop} {A : Option Addr} {n c : Nat} {l : List UInt8} (r : RdF w F A n c l) {G : Nat → Prop} (h : Kp w w' G) (hG : ∀ k, k < w.heap.size → G k → F k) (hF : ∀ k, k < w.heap.size → F' k → F k) : RdF w' F' A n c l := by
  obtain ⟨⟨a1, a2, a3, a4, a5, a6⟩, r2⟩ := r
  refine ⟨⟨a1, a2, a3, a4, fun ad hA hn => Nat.lt_of_lt_of_le (a5 ad hA hn) h.size, fun ad j v hA hu => ?_⟩, fun k hk => ?_⟩
  · subst hA
    obtain ⟨b1, b2⟩ := r2 ad.block rfl
    rw [World.cell?_of_block (w := w) (h.block _ (by rw [block_add]; exact b1) (by rw [block_add]; exact fun hg => b2 (hG _ b1 hg)))]
    exact a6 ad j v rfl hu
  · obtain ⟨b1, b2⟩ := r2 k hk
    exact ⟨Nat.lt_of_lt_of_le b1 h.size, fun hf => b2 (hF k b1 hf)⟩
theorem RdF.weak {w : World} {F F' : Nat → Prop} {A : Option Addr} {n c : Nat} {l : List UInt8} (r : RdF w F A n c l) (hF : ∀ k, k < w.heap.size → F' k → F k) : RdF w F' A n c l := ⟨r.1, fun k hk => ⟨(r.2 k hk).1, fun hf => (r.2 k hk).2 (hF k (r.2 k hk).1 hf)⟩⟩
theorem Own.rdF {w : World} {B : Nat} {A : Option Addr} {n c : Nat} {l : List UInt8} (o : Own w B A n c l) {F : Nat → Prop} (hF : ∀ k, F k → k < B) : RdF w F A n c l := by
  refine ⟨o.rd, fun k hk => ?_⟩
  obtain ⟨h1, h2⟩ := World.ownsRow.lt o k (by rw [obk_eq]; exact hk)
  exact ⟨h2, fun hf => by have := hF k hf; omega⟩
/-- A request's cells. -/
def reqL (q : RQ) (K : Option Addr) (nk ck : Nat) (V : Option Addr) (nv cv : Nat) : List Value := [.int .i64 q.op, .bool q.qt, .bool q.fu, .int .i64 q.bd, .int .u32 (q.oq : Nat), .slice K nk ck, .slice V nv cv, .int .u32 (q.fl : Nat), .int .u32 (q.ex : Nat), .int .u64 (q.cs : Nat), .int .u64 (q.dl : Nat), .int .u64 (q.ni : Nat)]
def TCell (w : World) (F : Nat → Prop) (q : RQ) (cs : List Value) : Prop := ∃ K nk ck V nv cv, cs = reqL q K nk ck V nv cv ∧ RdF w F K nk ck q.lk ∧ RdF w F V nv cv q.lv
theorem TCell.len {w : World} {F : Nat → Prop} {q : RQ} {cs : List Value} (h : TCell w F q cs) : cs.length = 12 := by
  obtain ⟨K, nk, ck, V, nv, cv, rfl, -, -⟩ := h; rfl
theorem TCell.kp {w w' : World} {F F' : Nat → Prop} {q : RQ} {cs : List Value} (r : TCell w F q cs) {G : Nat → Prop} (h : Kp w w' G) (hG : ∀ k, k < w.heap.size → G k → F k) (hF : ∀ k, k < w.heap.size → F' k → F k) : TCell w' F' q cs := by
  obtain ⟨K, nk, ck, V, nv, cv, e, r1, r2⟩ := r
  exact ⟨K, nk, ck, V, nv, cv, e, r1.kp h hG hF, r2.kp h hG hF⟩
/-- A row of them. -/
def TRow (w : World) (F : Nat → Prop) (qs : List RQ) (L : List (List Value)) : Prop := L.length = qs.length ∧ ∀ (j : Nat) (q : RQ) (cs : List Value), qs[j]? = some q → L[j]? = some cs → TCell w F q cs
theorem TRow.nil (w : World) (F : Nat → Prop) : TRow w F [] [] := ⟨rfl, fun j q cs h => by simp at h⟩
theorem TRow.kp {w w' : World} {F F' : Nat → Prop} {qs : List RQ} {L : List (List Value)} (r : TRow w F qs L) {G : Nat → Prop} (h : Kp w w' G) (hG : ∀ k, k < w.heap.size → G k → F k) (hF : ∀ k, k < w.heap.size → F' k → F k) : TRow w' F' qs L := ⟨r.1, fun j q cs h1 h2 => (r.2 j q cs h1 h2).kp h hG hF⟩
theorem TRow.below {w w' : World} {F : Nat → Prop} {qs : List RQ} {L : List (List Value)} (r : TRow w F qs L) (h : Below w.heap.size w w') (hF : ∀ k, F k → k < w.heap.size) : TRow w' F qs L := r.kp (Kp.of_below h (fun _ => False)) (fun _ _ h => h.elim) (fun _ _ h => h)
theorem TRow.weak {w : World} {F F' : Nat → Prop} {qs : List RQ} {L : List (List Value)} (r : TRow w F qs L) (hF : ∀ k, k < w.heap.size → F' k → F k) : TRow w F' qs L := r.kp (Kp.of_below (Below.refl _ _) (fun _ => False)) (fun _ _ h => h.elim) hF
theorem TRow.snoc {w : World} {F : Nat → Prop} {qs : List RQ} {L : List (List Value)} (r : TRow w F qs L) {q : RQ} {cs : List Value} (h : TCell w F q cs) : TRow w F (qs ++ [q]) (L ++ [cs]) := by
  refine ⟨by rw [List.length_append, List.length_append, r.1]; rfl, fun j q' cs' h1 h2 => ?_⟩
  rw [List.getElem?_append] at h1 h2
  rw [r.1] at h2
  split at h1
  · rename_i hj
    rw [if_pos hj] at h2
    exact r.2 j q' cs' h1 h2
  · rename_i hj
    rw [if_neg hj] at h2
    have e : j - qs.length = 0 := by
      have := (List.getElem?_eq_some_iff.1 h1).1
      simp at this
      omega
    rw [e] at h1 h2
    simp at h1 h2
    subst h1 h2
    exact h
theorem TRow.lens {w : World} {F : Nat → Prop} {qs : List RQ} {L : List (List Value)} (r : TRow w F qs L) : ∀ x ∈ L, x.length = 12 := by
  intro x hx
  obtain ⟨j, hj, rfl⟩ := List.mem_iff_getElem.1 hx
  have hj' : j < qs.length := by rw [← r.1]; exact hj
  exact (r.2 j qs[j] L[j] (List.getElem?_eq_getElem hj') (List.getElem?_eq_getElem hj)).len
theorem TRow.ones {w : World} {F : Nat → Prop} {q : RQ} {cs : List Value} (h : TCell w F q cs) : ∀ u ∈ cs, u.oneCell' = true := by
  obtain ⟨K, nk, ck, V, nv, cv, rfl, -, -⟩ := h
  unfold reqL
  intro u hu
  simp only [List.mem_cons, List.not_mem_nil, or_false] at hu
  rcases hu with rfl | rfl | rfl | rfl | rfl | rfl | rfl | rfl | rfl | rfl | rfl | rfl <;> rfl
end Go.Proofs.Ytnghmgbmflcngaa

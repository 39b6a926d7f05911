/- How the arguments of a law are read: integers as numbers, a slice of bytes as 'Rd'. Conditions: typed in each theorem. -/
import Derived.Test.YtnghmgbmflcngaaZbas
import Derived.ProofKit
import Derived.OpenShut
import Derived.ChangeOld
import Derived.SizedLaws
namespace Go.Proofs.Ytnghmgbmflcngaa
set_option linter.unusedVariables false
open Go.ChangeShapes Go.WideShapes Go.ChangeAt Go.RowKit
theorem own : ownKnob Try.prog.godebug = none := by kernel_rfl
theorem laidOut : laidOutB Try.prog = true := by kernel_rfl
theorem wf_byte {z : Int} (h : (Lit.int .u8 z).wf = true) : 0 ≤ z ∧ z < 256 := by
  have hmin : IntKind.u8.min = 0 := rfl
  have hmax : IntKind.u8.max = 255 := rfl
  simp only [Lit.wf, Bool.and_eq_true, decide_eq_true_eq] at h
  omega
theorem wf_nat {k : IntKind} {z M : Int} (h : (Lit.int k z).wf = true) (hmin : k.min = 0) (hmax : k.max = M) : ∃ n : Nat, z = (n : Int) ∧ (n : Int) ≤ M := by
  simp only [Lit.wf, Bool.and_eq_true, decide_eq_true_eq] at h
  exact ⟨z.toNat, by omega, by omega⟩
theorem wf_int {z : Int} (h : (Lit.int .i64 z).wf = true) : -9223372036854775808 ≤ z ∧ z ≤ 9223372036854775807 := by
  have hmin : IntKind.i64.min = -9223372036854775808 := rfl
  have hmax : IntKind.i64.max = 9223372036854775807 := rfl
  simp only [Lit.wf, Bool.and_eq_true, decide_eq_true_eq] at h
  omega
def byteOf (z : Int) : UInt8 := UInt8.ofNat z.toNat
theorem cb_byteOf {z : Int} (h : (Lit.int .u8 z).wf = true) : cb (byteOf z) = .int .u8 z := by
  have := wf_byte h
  unfold cb byteOf
  rw [ofNat_int]
  congr 1
  omega
where ofNat_int (x : Nat) : ((UInt8.ofNat x).toNat : Int) = (x : Int) % 256 := by simp
section
variable {H : Type} {enc : TypeId × Value → H} {W : World}
theorem trod_bytes {fuel : Nat} {cs : List Value} {x : DataW H × List MemPlace} (h : DataW.trod enc Try.prog W 0 (fun _ => true) true fuel 23 cs = some x) :
    ∃ (A : Option Addr) (n c : Nat) (l : List UInt8), cs = [.slice A n c] ∧ Rd W W.heap.size A n c l ∧ ((∀ m ∈ x.1.weights Try.prog 23, m ≤ reachBytes) → c ≤ 140737488351232) := by
  rcases open_ints Try.underlying23 Try.underlying5 (by kernel_rfl) h with ⟨hcs, _⟩ | ⟨a, len, cap, zs, hcs, _, hl, hm, hz, hx, hcell, hwz⟩
  · exact ⟨none, 0, 0, [], hcs, Rd.nil _ _, fun _ => by omega⟩
  · simp only [if_true] at hz
    refine ⟨some a, len, cap, (zs.take len).map byteOf, hcs, ⟨?_, hl, hm, (fun h => by cases h), ?_, ?_⟩, ?_⟩
    · simp [cbs]; omega
    · intro ad hA hpos
      injection hA with hA; subst hA
      have h0 := hcell 0 (by omega)
      have := World.block_lt_of_cell? W _ h0
      rwa [block_add] at this
    · intro ad i u hA hu
      injection hA with hA; subst hA
      rw [cbs_get?] at hu
      obtain ⟨y, hy, rfl⟩ := Option.map_eq_some_iff.1 hu
      rw [List.getElem?_map] at hy
      obtain ⟨z, hz', rfl⟩ := Option.map_eq_some_iff.1 hy
      rw [List.getElem?_take] at hz'
      split at hz'
      · have hi : i < zs.length := (List.getElem?_eq_some_iff.1 hz').1
        have hzi : zs.getD i 0 = z := by rw [List.getD_eq_getElem?_getD, hz']; rfl
        rw [hcell i hi, hzi, cb_byteOf (hwz z (List.mem_of_getElem? hz'))]
      · cases hz'
    · intro hw
      subst hx
      have hb : Try.prog.bytesOf 5 = 1 := by kernel_rfl
      have hu : Try.prog.underlying 23 = some (.slice 5) := Try.underlying23
      have := hw ((((lits IntKind.u8 (zs.take len) : List (DataW H)).length + (lits IntKind.u8 (zs.drop len) : List (DataW H)).length) * Try.prog.bytesOf 5)) (by simp [DataW.weights, hu])
      rw [hb] at this
      simp only [lits, List.length_map, List.length_take, List.length_drop, reachBytes] at this
      omega
theorem weights_of {P : Program} {ts : List TypeId} {ds : List (DataW H)} (h : (DataW.weightsEach P ts ds).all (· ≤ reachBytes) = true) {j : Nat} {t : TypeId} {d : DataW H} (ht : ts[j]? = some t) (hd : ds[j]? = some d) : ∀ m ∈ d.weights P t, m ≤ reachBytes := by
  intro m hm
  simpa using List.all_eq_true.1 h _ (DataW.weights_mem_each ht hd m hm)
theorem trod_places {P : Program} {t : TypeId} {v : Value} {d : DataW H} {p : List MemPlace} {sp : Nat → Bool} {hd : Bool} (h : DataW.Trod enc P W 0 sp hd t v d p) : ∀ x ∈ p, x.block < W.heap.size := by
  obtain ⟨m, hm⟩ := h
  exact DataW.trod_lt m _ _ _ hm
theorem trod_fields {P : Program} {fuel : Nat} {t : TypeId} {fs : Array Field} {cs : List Value} {x : DataW H × List MemPlace} (ht : P.underlying t = some (.struct fs)) (h : DataW.trod enc P W 0 (fun _ => true) true fuel t cs = some x) :
    ∃ n, cs.length = P.cellsOf t ∧ ∀ (i : Nat) (T : TypeId) (o : Nat), (fs[i]?).map (fun f => (f.type, f.offset)) = some (T, o) → ∃ y, DataW.trod enc P W 0 (fun _ => true) true n T ((cs.drop o).take (P.cellsOf T)) = some y ∧
      ((∀ m ∈ x.1.weights P t, m ≤ reachBytes) → ∀ m ∈ y.1.weights P T, m ≤ reachBytes) := by
  obtain ⟨xs, n, _, hx, hl, hlen, hf⟩ := DataW.trod_struct ht h
  refine ⟨n, hl, fun i T o hio => ?_⟩
  obtain ⟨f, hi, he⟩ := Option.map_eq_some_iff.1 hio
  simp only [Prod.mk.injEq] at he
  obtain ⟨rfl, rfl⟩ := he
  have hi2 : i < xs.length := by have := (Array.getElem?_eq_some_iff.1 hi).1; omega
  refine ⟨xs[i], (hf i f hi).trans (List.getElem?_eq_getElem hi2), fun hw m hm => hw m ?_⟩
  subst hx
  simp only [DataW.weights, ht]
  exact DataW.weights_mem_each (j := i) (t := f.type) (d := (xs[i]).1) (by simp [hi]) (by simp [hi2]) m hm
theorem trod_int1 {P : Program} {fuel : Nat} {t : TypeId} {k : IntKind} {v : Value} {x : DataW H × List MemPlace} (ht : P.underlying t = some (.int k)) (h : DataW.trod enc P W 0 (fun _ => true) true fuel t [v] = some x) : ∃ n, v = .int k n ∧ (Lit.int k n).wf = true := by
  obtain ⟨n, h1, _, h2⟩ := DataW.trod_int ht h
  simp at h1
  exact ⟨n, h1, h2⟩
theorem trod_bool1 {P : Program} {fuel : Nat} {t : TypeId} {v : Value} {x : DataW H × List MemPlace} (ht : P.underlying t = some .bool) (h : DataW.trod enc P W 0 (fun _ => true) true fuel t [v] = some x) : ∃ b, v = .bool b := by
  obtain ⟨b, h1, _⟩ := DataW.trod_bool ht h
  simp at h1
  exact ⟨b, h1⟩
theorem trod_bytes1 {fuel : Nat} {v : Value} {x : DataW H × List MemPlace} (h : DataW.trod enc Try.prog W 0 (fun _ => true) true fuel 23 [v] = some x) :
    ∃ (A : Option Addr) (n c : Nat) (l : List UInt8), v = .slice A n c ∧ Rd W W.heap.size A n c l ∧ ((∀ m ∈ x.1.weights Try.prog 23, m ≤ reachBytes) → c ≤ 140737488351232) := by
  obtain ⟨A, n, c, l, h1, h2⟩ := trod_bytes h
  simp at h1
  exact ⟨A, n, c, l, h1, h2⟩
end
theorem cells_u8s : Try.prog.cellsOf 23 = 1 := by kernel_rfl
theorem cells_u32 : Try.prog.cellsOf 22 = 1 := by kernel_rfl
theorem cells_u64 : Try.prog.cellsOf 24 = 1 := by kernel_rfl
theorem cells_int : Try.prog.cellsOf 3 = 1 := by kernel_rfl
theorem cells_bool : Try.prog.cellsOf 4 = 1 := by kernel_rfl
end Go.Proofs.Ytnghmgbmflcngaa

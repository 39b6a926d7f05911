/- parse.Code: the code that says a request. Conditions: typed in each theorem. -/
import Derived.Test.YtnghmgbmflcngaaRws
import Derived.Maps.RangeWalk
namespace Go.Proofs.Ytnghmgbmflcngaa
set_option linter.unusedVariables false
open Go.RowKit

/-- A request's value. -/
def reqV (op : Int) (qt fu : Bool) (bad : Int) (oq : Nat) (K V : Value) (fl ex cas dl ini : Nat) : Value :=
  .agg #[.int .i64 op, .bool qt, .bool fu, .int .i64 bad, .int .u32 (oq : Nat), K, V, .int .u32 (fl : Nat), .int .u32 (ex : Nat), .int .u64 (cas : Nat), .int .u64 (dl : Nat), .int .u64 (ini : Nat)]
/-- Is this the row? -/
def isRow (op : Int) (qt fu : Bool) (r : Nat × Nat × Bool × Bool) : Bool := decide (((r.2.1 : Nat) : Int) = op) && decide (r.2.2.1 = qt) && decide (r.2.2.2 = fu)
/-- The code of a command, quiet or full. -/
def codeOf (op : Int) (qt fu : Bool) : Option Nat := (codeT.find? (isRow op qt fu)).map (·.1)
theorem isRow_iff {op : Int} {qt fu : Bool} {r : Nat × Nat × Bool × Bool} : isRow op qt fu r = true ↔ ((r.2.1 : Nat) : Int) = op ∧ r.2.2.1 = qt ∧ r.2.2.2 = fu := by
  simp [isRow, and_assoc]
theorem codeT_one : ∀ r ∈ codeT, ∀ r' ∈ codeT, r.2 = r'.2 → r = r' := by decide +kernel
theorem codeT_codes : ∀ r ∈ codeT, ∀ r' ∈ codeT, r.1 = r'.1 → r = r' := by decide +kernel
theorem codeOf_at {op : Int} {qt fu : Bool} {j c o : Nat} {q f : Bool} (h : codeT[j]? = some (c, o, q, f)) (h1 : ((o : Nat) : Int) = op) (h2 : q = qt) (h3 : f = fu) : codeOf op qt fu = some c := by
  unfold codeOf
  have hm := List.mem_of_getElem? h
  cases hf : codeT.find? (isRow op qt fu) with
  | none =>
    rw [List.find?_eq_none] at hf
    exact absurd (isRow_iff.2 ⟨h1, h2, h3⟩) (hf _ hm)
  | some r =>
    obtain ⟨g1, g2, g3⟩ := isRow_iff.1 (List.find?_some hf)
    have e := codeT_one r (List.mem_of_find?_eq_some hf) _ hm (by
      refine Prod.ext ?_ (Prod.ext ?_ ?_)
      · show r.2.1 = o
        omega
      · show r.2.2.1 = q
        rw [g2, h2]
      · show r.2.2.2 = f
        rw [g3, h3])
    rw [e]; rfl
theorem codeOf_none {op : Int} {qt fu : Bool} (h : ∀ (j c o : Nat) (q f : Bool), codeT[j]? = some (c, o, q, f) → ¬ (((o : Nat) : Int) = op ∧ q = qt ∧ f = fu)) : codeOf op qt fu = none := by
  unfold codeOf
  rw [List.find?_eq_none.2 fun r hr hi => ?_]
  · rfl
  · obtain ⟨j, hj, hjr⟩ := List.getElem_of_mem hr
    exact h j r.1 r.2.1 r.2.2.1 r.2.2.2 (by rw [List.getElem?_eq_getElem hj, hjr]) (isRow_iff.1 hi)
/-- One step of the range over the rows. -/
theorem wpl_nextR {P : Program} (w : World) {ops : Array Oper} {rest : List Oper} {o : Oper} {a : Act} {Q : Exit → Act → World → Prop} (hg : o.guard = none) (it : Operand) (hop : o.op = Op.next it false) (b r : Nat) (seen : Array Nat)
    (hit : a.eval it = .pointer (some ⟨r, 0, none⟩)) (h : RangeB w .i64 b r rowsT seen)
    (hDone : Hid ((∀ j p, rowsT[j]? = some p → seen.contains j = true) → wpList P ops Q rest (a.put o.dst (.tuple #[.bool false])) w))
    (hMore : Hid (∀ (j c o' : Nat) (q f : Bool) (w' : World), codeT[j]? = some (c, o', q, f) → RangeB w' .i64 b r rowsT (seen.push j) → w'.rangeLeft b r < w.rangeLeft b r → w.grownBy w' (some r) →
      (Instr.entry (.pointer (some ⟨r, 0, none⟩))).run P w' = .ok (.tuple #[.int .i64 (c : Int), .agg #[.int .i64 (o' : Int), .bool q, .bool f]]) w' → wpList P ops Q rest (a.put o.dst (.tuple #[.bool true, .int .i64 (c : Int), .agg #[.int .i64 (o' : Int), .bool q, .bool f]])) w')) :
    wpList P ops Q (o :: rest) a w := by
  refine wpl_nextB w hg it hop .i64 b r rowsT seen hit h hDone.out ?_
  intro j k v w' hj h1 h2 h3 _ h5
  obtain ⟨c, o', q, f, hc, rfl, rfl⟩ := rowsT_get hj
  exact hMore.out j c o' q f w' hc h1 h2 h3 h5
theorem RangeB.left_eq {w : World} {q : IntKind} {b r : Nat} {L : List (Int × Value)} {seen : Array Nat} (h : RangeB w q b r L seen) : w.rangeLeft b r = (leftOf (esB q 0 L).toArray seen).size := by
  unfold World.rangeLeft
  rw [h.1, h.2.1]
theorem Blk.leftC {w w' : World} {k g : Nat} {cs : Array Value} {T : TypeId} (h : Blk w k cs T) (hg : w.grownBy w' (some g)) (hne : k ≠ g) : Blk w' k cs T := (hg.block k h.lt (fun e => hne (by injection e))).trans h
def BoxQ' (v : Value) (w : World) (e : Ending) (w' : World) : Prop := e = .returned v ∧ Below w.heap.size w w'
def CodeR (op : Int) (qt fu : Bool) (cells : Array Value) (w : World) (g b r : Nat) (wr : World) : Prop :=
  ∃ seen : Array Nat, RangeB wr .i64 b r rowsT seen ∧ (∀ (j c o : Nat) (q f : Bool), seen.contains j = true → codeT[j]? = some (c, o, q, f) → ¬ (((o : Nat) : Int) = op ∧ q = qt ∧ f = fu)) ∧ Blk wr g cells 26 ∧ Below w.heap.size w wr
def CodeQ (r : Option Nat) (w : World) (e : Ending) (w' : World) : Prop := e = .returned (.tuple #[.int .i64 ((r.getD 0 : Nat) : Int), .bool r.isSome]) ∧ Below w.heap.size w w'
set_option maxRecDepth 100000 in
set_option maxHeartbeats 1000000 in
theorem code_bad (op : Int) (qt fu : Bool) (bad : Int) (hbad : bad ≠ 0) (oq : Nat) (K V : Value) (fl ex cas dl ini : Nat) (w : World) :
    Calls Try.prog 43 #[reqV op qt fu bad oq K V fl ex cas dl ini] w (CodeQ none w) := by
  have hb : (bad != 0) = true := by rw [bne_iff_ne]; exact hbad
  clear hbad
  unfold reqV
  go_enter Try.func43, Try.ntmps43
  go_wp2_with fail
  go_ret2
  exact ⟨rfl, below_a1' (Below.refl _ _) _⟩
theorem contains_push' (seen : Array Nat) (b y : Nat) : (seen.push b).contains y = (seen.contains y || y == b) := Array.contains_push ..
set_option maxRecDepth 100000 in
set_option maxHeartbeats 1000000 in
theorem code_any (op : Int) (qt fu : Bool) (oq : Nat) (K V : Value) (fl ex cas dl ini : Nat) (w : World) :
    Calls Try.prog 43 #[reqV op qt fu 0 oq K V fl ex cas dl ini] w (CodeQ (codeOf op qt fu) w) := by
  unfold reqV
  have k0 := Blk.new w #[.int .i64 op, .bool qt, .bool fu, .int .i64 0, .int .u32 (oq : Nat), K, V, .int .u32 (fl : Nat), .int .u32 (ex : Nat), .int .u64 (cas : Nat), .int .u64 (dl : Nat), .int .u64 (ini : Nat)] 26
  have b0 := below_a1' (Below.refl w.heap.size w) (.cells #[.int .i64 op, .bool qt, .bool fu, .int .i64 0, .int .u32 (oq : Nat), K, V, .int .u32 (fl : Nat), .int .u32 (ex : Nat), .int .u64 (cas : Nat), .int .u64 (dl : Nat), .int .u64 (ini : Nat)] 26)
  go_enter Try.func43, Try.ntmps43
  go_wp2_with fail
  generalize w.alloc (.cells #[.int .i64 op, .bool qt, .bool fu, .int .i64 0, .int .u32 (oq : Nat), K, V, .int .u32 (fl : Nat), .int .u32 (ex : Nat), .int .u64 (cas : Nat), .int .u64 (dl : Nat), .int .u64 (ini : Nat)] 26) = W0 at k0 b0 ⊢
  have hltg := k0.lt
  refine (rows_any W0).mono ?_
  rintro e w1 ⟨b, rfl, hm, hge, b1⟩
  replace k0 := k0.step b1
  replace b0 := below_step b0 b1
  clear b1
  have hmlt := hm.lt
  go_wp2_with (at_range; refine wpl_rangeB _ rfl _ _ rfl 3 140 .i64 Try.underlying137 b rowsT rfl hm ?_)
  intro w2 hR b2
  have k2 := k0.step b2
  have bb2 := below_step b0 b2
  clear b2 k0 b0 hm
  go_wp2_with fail
  go_loopw [4] (fun _ wr => CodeR op qt fu #[.int .i64 op, .bool qt, .bool fu, .int .i64 0, .int .u32 (oq : Nat), K, V, .int .u32 (fl : Nat), .int .u32 (ex : Nat), .int .u64 (cas : Nat), .int .u64 (dl : Nat), .int .u64 (ini : Nat)] w w.heap.size b w1.heap.size wr) (fun _ wr => wr.rangeLeft b w1.heap.size)
  case atStart => exact ⟨#[], hR, fun j c o q f h => by simp at h, k2, bb2⟩
  case round =>
    clear hR k2 bb2
    obtain ⟨seen, hR, hS, k, bb⟩ := hrel
    have HS := Lib.hid hS
    clear hS
    go_step
    first | refine wpl_nextR _ rfl _ rfl b w1.heap.size seen rfl hR (Lib.hid fun hall => ?_) (Lib.hid fun j c o' q f w3 hj hR3 hlt hg hen => ?_) | (go_step; first | refine wpl_nextR _ rfl _ rfl b w1.heap.size seen rfl hR (Lib.hid fun hall => ?_) (Lib.hid fun j c o' q f w3 hj hR3 hlt hg hen => ?_) | (go_step; first | refine wpl_nextR _ rfl _ rfl b w1.heap.size seen rfl hR (Lib.hid fun hall => ?_) (Lib.hid fun j c o' q f w3 hj hR3 hlt hg hen => ?_) | (go_step; refine wpl_nextR _ rfl _ rfl b w1.heap.size seen rfl hR (Lib.hid fun hall => ?_) (Lib.hid fun j c o' q f w3 hj hR3 hlt hg hen => ?_))))
    · have hno : codeOf op qt fu = none := codeOf_none fun j c o q f hj => HS.out j c o q f (hall j _ (by unfold rowsT; rw [List.getElem?_map, hj]; rfl)) hj
      have HNO := Lib.hid hno
      clear hall hno hR
      go_wp2_with fail
      go_ret2
      exact ⟨by rw [HNO.out]; rfl, bb⟩
    · have k3 := k.leftC hg (by omega)
      have b3 := bb.trans (below_grown hg (by have := bb.size; omega) (Array.getElem?_eq_some_iff.1 hR.2.1).1)
      have k4 := k3.alloc (.cells #[.int .i64 (o' : Int), .bool q, .bool f] 140)
      have hR4 : RangeB (w3.alloc (.cells #[.int .i64 (o' : Int), .bool q, .bool f] 140)) .i64 b w1.heap.size rowsT (seen.push j) := hR3.step (below_a1' (Below.refl _ _) _)
      have b4 := below_a1' b3 (.cells #[.int .i64 (o' : Int), .bool q, .bool f] 140)
      obtain ⟨p0, p1, p2, -⟩ := box12 k4
      have HJ := Lib.hid hj
      have HR4 := Lib.hid hR4
      have HLT : Hid ((w3.alloc (.cells #[.int .i64 (o' : Int), .bool q, .bool f] 140)).rangeLeft b w1.heap.size < wr.rangeLeft b w1.heap.size) := Lib.hid (by rw [hR4.left_eq, ← hR3.left_eq]; exact hlt)
      clear hj hR4 hlt hR3 hR k k3 b3 bb hg
      by_cases hmt : ((o' : Nat) : Int) = op ∧ q = qt ∧ f = fu
      · have hco : codeOf op qt fu = some c := codeOf_at HJ.out hmt.1 hmt.2.1 hmt.2.2
        have e1 : ((o' : Int) == op) = true := by rw [beq_iff_eq]; exact hmt.1
        have e2 : (q == qt) = true := by rw [beq_iff_eq]; exact hmt.2.1
        have e3 : (f == fu) = true := by rw [beq_iff_eq]; exact hmt.2.2
        have HCO := Lib.hid hco
        clear hmt hco
        go_wp2_with fail
        go_ret2
        exact ⟨by rw [HCO.out]; rfl, b4⟩
      · have HMT := Lib.hid hmt
        by_cases h1 : ((o' : Nat) : Int) = op
        · have e1 : ((o' : Int) == op) = true := by rw [beq_iff_eq]; exact h1
          by_cases h2 : q = qt
          · have e2 : (q == qt) = true := by rw [beq_iff_eq]; exact h2
            have e3 : (f == fu) = false := beq_eq_false_iff_ne.2 (fun h3 => hmt ⟨h1, h2, h3⟩)
            clear h1 h2 hmt
            go_wp2_with fail
            go_roundw
            case rel => exact ⟨seen.push j, HR4.out, fun j' c' o2 q' f' hc' hj' => by
              rw [contains_push', Bool.or_eq_true] at hc'
              rcases hc' with h1 | h1
              · exact HS.out j' c' o2 q' f' h1 hj'
              · have h2 : j' = j := by simpa using h1
                subst h2
                have h3 := HJ.out
                rw [hj'] at h3
                injection h3 with h3
                injection h3 with h4 h5
                injection h5 with h5 h6
                injection h6 with h6 h7
                subst h5 h6 h7
                exact HMT.out, k4, b4⟩
            case measure => exact HLT.out
          · have e2 : (q == qt) = false := beq_eq_false_iff_ne.2 h2
            clear h1 h2 hmt
            go_wp2_with fail
            go_roundw
            case rel => exact ⟨seen.push j, HR4.out, fun j' c' o2 q' f' hc' hj' => by
              rw [contains_push', Bool.or_eq_true] at hc'
              rcases hc' with h1 | h1
              · exact HS.out j' c' o2 q' f' h1 hj'
              · have h2 : j' = j := by simpa using h1
                subst h2
                have h3 := HJ.out
                rw [hj'] at h3
                injection h3 with h3
                injection h3 with h4 h5
                injection h5 with h5 h6
                injection h6 with h6 h7
                subst h5 h6 h7
                exact HMT.out, k4, b4⟩
            case measure => exact HLT.out
        · have e1 : ((o' : Int) == op) = false := beq_eq_false_iff_ne.2 h1
          clear h1 hmt
          go_wp2_with fail
          go_roundw
          case rel => exact ⟨seen.push j, HR4.out, fun j' c' o2 q' f' hc' hj' => by
            rw [contains_push', Bool.or_eq_true] at hc'
            rcases hc' with h1 | h1
            · exact HS.out j' c' o2 q' f' h1 hj'
            · have h2 : j' = j := by simpa using h1
              subst h2
              have h3 := HJ.out
              rw [hj'] at h3
              injection h3 with h3
              injection h3 with h4 h5
              injection h5 with h5 h6
              injection h6 with h6 h7
              subst h5 h6 h7
              exact HMT.out, k4, b4⟩
          case measure => exact HLT.out
end Go.Proofs.Ytnghmgbmflcngaa

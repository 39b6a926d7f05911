/- Words for both ways to read an answer. Conditions: typed in each theorem. -/
import Derived.Test.YtnghmgbmflcngaaRdl
import Derived.Test.YtnghmgbmflcngaaCop21
import Derived.Test.YtnghmgbmflcngaaRfr
import Derived.Test.YtnghmgbmflcngaaAst
namespace Go.Proofs.Ytnghmgbmflcngaa
set_option linter.unusedVariables false
open Go.RowKit

theorem gX_le (u : List UInt8) : (gX u).length ≤ u.length := by unfold gX; rw [List.length_take, List.length_drop]; omega
theorem gV_le (u : List UInt8) : (gV u).length ≤ u.length := by unfold gV; rw [List.length_drop, List.length_take, List.length_drop]; omega
/-- What Read answers. -/
def RdP (op : Int) (qt fu : Bool) (oq : Nat) (lk l : List UInt8) (w : World) (e : Ending) (w' : World) : Prop := (readP op qt fu oq lk l).Q w e w'
theorem rdp_short {op : Int} {qt fu : Bool} {oq : Nat} {lk l : List UInt8} {w w' : World} (h : gather op 17 l = .short) (b : Below w.heap.size w w') : RdP op qt fu oq lk l w (.returned (.tuple #[.agg #[.int .i64 0, .slice none 0 0, .int .u32 0, .int .u64 0, .int .u64 0, .slice none 0 0, .bool false], .int .i64 0, .int .i64 9])) w' := by
  unfold RdP readP
  rw [h]
  exact AR.Q_no b
theorem rdp_bad {op : Int} {qt fu : Bool} {oq : Nat} {lk l : List UInt8} {w w' : World} (h : gather op 17 l = .bad) (b : Below w.heap.size w w') : RdP op qt fu oq lk l w (.returned (.tuple #[.agg #[.int .i64 0, .slice none 0 0, .int .u32 0, .int .u64 0, .int .u64 0, .slice none 0 0, .bool false], .int .i64 0, .int .i64 310])) w' := by
  unfold RdP readP
  rw [h]
  exact AR.Q_no b
theorem rdp_no {op : Int} {qt fu : Bool} {oq : Nat} {lk l : List UInt8} {w w' : World} {R : AR} (h : readP op qt fu oq lk l = if R.okP op qt fu oq lk l then R else .no 310) (hn : ¬ R.okP op qt fu oq lk l) (b : Below w.heap.size w w') : RdP op qt fu oq lk l w (.returned (.tuple #[.agg #[.int .i64 0, .slice none 0 0, .int .u32 0, .int .u64 0, .int .u64 0, .slice none 0 0, .bool false], .int .i64 0, .int .i64 310])) w' := by
  unfold RdP
  rw [h, if_neg hn]
  exact AR.Q_no b
theorem rdp_yes {op : Int} {qt fu : Bool} {oq : Nat} {lk l : List UInt8} {w w' : World} {R : AR} {N nv cv sc : Nat} {VA SA : Option Addr} (h : readP op qt fu oq lk l = R) (ha : R.at_ = N) (he : R.er = 0) (rV : Rd w' w'.heap.size VA nv cv R.V) (rS : Rz w' w'.heap.size 2 SA R.SL.length sc (R.SL.map stCells).flatten) (b : Below w.heap.size w w') : RdP op qt fu oq lk l w (.returned (.tuple #[.agg #[.int .i64 R.st, .slice VA nv cv, .int .u32 (R.F : Nat), .int .u64 (R.C : Nat), .int .u64 (R.N : Nat), .slice SA R.SL.length sc, .bool false], .int .i64 (N : Nat), .int .i64 0])) w' := by
  unfold RdP
  rw [h]
  exact ⟨VA, nv, cv, SA, _, sc, by rw [ha, he], rV, rS, rfl, b⟩
theorem readP_done {op : Int} {qt fu : Bool} {oq : Nat} {lk l f : List UInt8} {N : Nat} {SL : List (ByteArray × ByteArray)} (h : gather op 17 l = .done N SL f) : readP op qt fu oq lk l = if (toldA op SL f N).okP op qt fu oq lk l then toldA op SL f N else .no 310 := by
  unfold readP
  rw [h]
theorem eqB_yes {a b : List UInt8} (h : eqB a b = true) : a = b := by
  unfold eqB at h
  exact of_decide_eq_true h
theorem eqB_no {a b : List UInt8} (h : eqB a b = false) : a ≠ b := by
  unfold eqB at h
  exact of_decide_eq_false h
theorem rz_box {w w' : World} {B z n c g : Nat} {A : Option Addr} {xs : List Value} {cs : Array Value} {T : TypeId} (r : Rz w B z A n c xs) (kb : Blk w g cs T) (h0 : ∀ (j : Nat) (v : Value), cs[j]? = some v → ∀ u ∈ xs, v ≠ u) (hg : w.grownBy w' (some g)) (hB : B ≤ w.heap.size) : Rz w' B z A n c xs := by
  obtain ⟨a1, a2, a3, a4, a5, a6⟩ := r
  refine ⟨a1, a2, a3, a4, a5, fun ad j v hA hu => ?_⟩
  have hc := a6 ad j v hA hu
  have hj : 0 < n := by
    have h1 := (List.getElem?_eq_some_iff.1 hu).1
    rw [a1] at h1
    exact Nat.pos_of_ne_zero fun e => by subst e; omega
  have hlt := a5 ad hA hj
  by_cases e : (ad.add j).block = g
  · exfalso
    have hb : w.heap[(ad.add j).block]? = some (.cells cs T (0, 0)) := by rw [e]; exact kb
    unfold World.cell? at hc
    rw [hb] at hc
    simp only at hc
    split at hc
    · cases hc
    · exact h0 _ _ hc v (List.mem_of_getElem? hu) rfl
  · rw [World.cell?_of_block (hg.block _ (by rw [block_add]; omega) (fun h => e (by injection h)))]
    exact hc
theorem st_strings {SL : List (ByteArray × ByteArray)} {u : Value} (h : u ∈ (SL.map stCells).flatten) : ∃ s, u = .string s := by
  obtain ⟨l, hl, hu⟩ := List.mem_flatten.1 h
  obtain ⟨p, -, rfl⟩ := List.mem_map.1 hl
  unfold stCells at hu
  rcases List.mem_cons.1 hu with rfl | hu
  · exact ⟨_, rfl⟩
  · rw [List.mem_singleton] at hu; exact ⟨_, hu⟩
theorem zans_nos : ∀ (j : Nat) (v : Value), (#[.int .i64 0, .slice none 0 0, .int .u32 0, .int .u64 0, .int .u64 0, .slice none 0 0, .bool false] : Array Value)[j]? = some v → ∀ s, v ≠ .string s := by
  intro j v hv s
  match j, hv with
  | 0, hv => simp at hv; subst hv; intro h; cases h
  | 1, hv => simp at hv; subst hv; intro h; cases h
  | 2, hv => simp at hv; subst hv; intro h; cases h
  | 3, hv => simp at hv; subst hv; intro h; cases h
  | 4, hv => simp at hv; subst hv; intro h; cases h
  | 5, hv => simp at hv; subst hv; intro h; cases h
  | 6, hv => simp at hv; subst hv; intro h; cases h
  | k + 7, hv => simp at hv
/-- Bytes, a row of stats, where a zero answer's box turns: it holds neither. -/
theorem rd_zero {w w' : World} {n c g : Nat} {A : Option Addr} {l : List UInt8} (r : Rd w w.heap.size A n c l) (k : Blk w g #[.int .i64 0, .slice none 0 0, .int .u32 0, .int .u64 0, .int .u64 0, .slice none 0 0, .bool false] 29) (hg : w.grownBy w' (some g)) : Rd w' w'.heap.size A n c l := (rd_ans (st := 0) (VA := none) (nv := 0) (cv := 0) (SA := none) (ns := 0) (sc := 0) (af := 0) (ac := 0) (an := 0) (cl := false) r k hg (Nat.le_refl _)).more hg.size
theorem rz_zero {w w' : World} {n c g : Nat} {A : Option Addr} {SL : List (ByteArray × ByteArray)} (r : Rz w w.heap.size 2 A n c (SL.map stCells).flatten) (k : Blk w g #[.int .i64 0, .slice none 0 0, .int .u32 0, .int .u64 0, .int .u64 0, .slice none 0 0, .bool false] 29) (hg : w.grownBy w' (some g)) : Rz w' w'.heap.size 2 A n c (SL.map stCells).flatten := (rz_box r k (fun j v hv u hu => by obtain ⟨s, rfl⟩ := st_strings hu; exact zans_nos j v hv s) hg (Nat.le_refl _)).more hg.size
theorem toldA_small (op : Int) (SL : List (ByteArray × ByteArray)) (f : List UInt8) (N : Nat) : (toldA op SL f N).at_ = N ∧ (toldA op SL f N).SL = SL ∧ (toldA op SL f N).F < 4294967296 ∧ (toldA op SL f N).C < 18446744073709551616 ∧ (toldA op SL f N).N < 18446744073709551616 ∧ (toldA op SL f N).er = 0 ∧ (toldA op SL f N).V.length ≤ f.length := by
  refine ⟨rfl, rfl, ?_, fld_lt f 16 8, ?_, rfl, ?_⟩
  · show lastF _ _ _ < _
    unfold lastF
    split
    · exact Nat.mod_lt _ (by decide)
    · decide
  · show lastN _ _ _ < _
    unfold lastN
    split
    · exact Nat.mod_lt _ (by decide)
    · decide
  · show (lastV _ _ _).length ≤ _
    unfold lastV
    split
    · exact gV_le f
    · simp
theorem gather_small {op : Int} {k : Nat} : ∀ {l : List UInt8} {N : Nat} {SL : List (ByteArray × ByteArray)} {f : List UInt8}, gather op k l = .done N SL f → SL.length ≤ k ∧ (∀ p ∈ SL, p.1.size ≤ 2048 ∧ p.2.size ≤ 2048) ∧ N ≤ l.length ∧ f.length ≤ l.length := by
  induction k with
  | zero =>
    intro l N SL f h
    rw [gather] at h
    split at h <;> cases h
  | succ k ih =>
    intro l N SL f h
    rw [gather] at h
    split at h
    · cases h
    · split at h
      · cases h
      · rename_i h1 h2
        have hm := getEr_may (Classical.byContradiction h2)
        split at h
        · cases hg : gather op k (l.drop (24 + fld l 8 4)) with
          | short => rw [hg] at h; cases h
          | bad => rw [hg] at h; cases h
          | done N1 SL1 f1 =>
            rw [hg] at h
            injection h with e1 e2 e3
            obtain ⟨i1, i2, i3, i4⟩ := ih hg
            rw [List.length_drop] at i3 i4
            subst e1 e2 e3
            refine ⟨by simp; omega, fun p hp => ?_, by omega, by omega⟩
            rcases List.mem_append.1 hp with hp | hp
            · rw [List.mem_singleton] at hp
              subst hp
              have e1 : (statP l).1.size = (gK l).length := by show (⟨(gK l).toArray⟩ : ByteArray).data.size = _; simp
              have e2 : (statP l).2.size = (gV l).length := by show (⟨(gV l).toArray⟩ : ByteArray).data.size = _; simp
              rw [e1, e2]
              unfold gK gV
              simp only [List.length_take, List.length_drop]
              omega
            · exact i2 p hp
        · injection h with e1 e2 e3
          subst e1 e2 e3
          exact ⟨Nat.zero_le _, (fun p hp => by cases hp), by omega, Nat.le_refl _⟩
theorem isStat_is {op : Int} {u : List UInt8} (h : isStatF op u = true) : op = 16 ∧ fld u 6 2 = 0 ∧ 0 < fld u 2 2 := by
  unfold isStatF at h
  simp at h
  exact ⟨h.1.1, h.1.2, h.2⟩
theorem lastcase {op : Int} {st kl : Nat} (h : ¬ (op = 16 ∧ st = 0 ∧ 0 < kl)) : (op != 16) = true ∨ ((op != 16) = false ∧ ((st : Int) != 0) = true) ∨ ((op != 16) = false ∧ ((st : Int) != 0) = false ∧ ((kl : Int) == 0) = true) := by
  by_cases h1 : op = 16
  · by_cases h2 : st = 0
    · exact Or.inr (Or.inr ⟨bne_eq_false_iff_eq.2 h1, by rw [bne_eq_false_iff_eq]; omega, by rw [beq_iff_eq]; omega⟩)
    · exact Or.inr (Or.inl ⟨bne_eq_false_iff_eq.2 h1, by rw [bne_iff_ne]; omega⟩)
  · exact Or.inl (bne_iff_ne.2 h1)
theorem ozk {w w' : World} {B z n c g : Nat} {e : TypeId} {A : Option Addr} {xs : List Value} (h : Oz w B e z A n c xs) (hg : w.grownBy w' (some g)) (hlt : g < B) : Oz w' B e z A n c xs := World.ownsRow.kept h hg (by by_cases hn : (Value.slice A n c).ownBlock = none; exact Or.inl hn; exact Or.inr (fun e => by have := World.ownsRow.lt h g e; omega))
theorem rd_boxK {w w' : World} {B n c g : Nat} {A : Option Addr} {l : List UInt8} {cs : Array Value} {T : TypeId} (r : Rd w B A n c l) (kb : Blk w g cs T) (h0 : ∀ (j : Nat) (v : Value), cs[j]? = some v → ∀ x, v ≠ cb x) (hg : Kp w w' (fun k => k = g)) (hB : B ≤ w.heap.size) : Rd w' B A n c l := by
  obtain ⟨a1, a2, a3, a4, a5, a6⟩ := r
  refine ⟨a1, a2, a3, a4, a5, fun ad j v hA hu => ?_⟩
  have hc := a6 ad j v hA hu
  have hj : 0 < n := by have := (List.getElem?_eq_some_iff.1 hu).1; omega
  have hlt := a5 ad hA hj
  by_cases e : (ad.add j).block = g
  · exfalso
    rw [cbs_get?] at hu
    obtain ⟨x, hx, rfl⟩ := Option.map_eq_some_iff.1 hu
    have hb : w.heap[(ad.add j).block]? = some (.cells cs T (0, 0)) := by rw [e]; exact kb
    unfold World.cell? at hc
    rw [hb] at hc
    simp only at hc
    split at hc
    · cases hc
    · exact h0 _ _ hc x rfl
  · rw [World.cell?_of_block (hg.block _ (by rw [block_add]; omega) (fun h => e h))]
    exact hc
theorem ozkp {w w' : World} {B z n c g : Nat} {e : TypeId} {A : Option Addr} {xs : List Value} (h : Oz w B e z A n c xs) (hk : Kp w w' (fun k => k = g)) (hlt : g < B) : Oz w' B e z A n c xs := by
  refine ⟨h.1, ?_⟩
  rcases h.2 with h' | ⟨g', cap, cur, hv, hg, hh, r⟩
  · exact Or.inl h'
  · exact Or.inr ⟨g', cap, cur, hv, hg, (hk.block g' (Array.getElem?_eq_some_iff.1 hh).1 (fun e => by omega)).trans hh, r⟩
def RdE (op : Int) (f : List UInt8) (SL : List (ByteArray × ByteArray)) (g7 : Nat) (w wx : World) : Prop := ∃ (FV SA : Option Addr) (fnv fcv sc : Nat), Blk wx g7 (lastA op (gX f) (gV f) (fld f 6 2 : Nat) (fld f 16 8) (.slice FV fnv fcv) (.slice SA SL.length sc)) 29 ∧ Rd wx wx.heap.size FV fnv fcv (gV f) ∧ Rz wx wx.heap.size 2 SA SL.length sc (SL.map stCells).flatten ∧ w.heap.size ≤ wx.heap.size
theorem RdE.box {op : Int} {f : List UInt8} {SL : List (ByteArray × ByteArray)} {g7 : Nat} {w wx : World} (h : RdE op f SL g7 w wx) (N : Nat) : ∃ R : AR, R = toldA op SL f N ∧ ∃ (VA : Option Addr) (nv cv : Nat) (SA : Option Addr) (sc : Nat), Blk wx g7 #[.int .i64 R.st, .slice VA nv cv, .int .u32 (R.F : Nat), .int .u64 (R.C : Nat), .int .u64 (R.N : Nat), .slice SA R.SL.length sc, .bool false] 29 ∧ Rd wx wx.heap.size VA nv cv R.V ∧ Rz wx wx.heap.size 2 SA R.SL.length sc (R.SL.map stCells).flatten := by
  obtain ⟨FV, SA, fnv, fcv, sc, hb, rV, rS, -⟩ := h
  rw [lastA_is] at hb
  refine ⟨_, rfl, ?_⟩
  by_cases hc : (fld f 6 2 : Int) = 0 ∧ (isRead op = true ∨ op = 11)
  · rw [if_pos hc] at hb
    exact ⟨FV, fnv, fcv, SA, sc, hb, by show Rd _ _ _ _ _ (lastV _ _ _); unfold lastV; rw [if_pos hc]; exact rV, rS⟩
  · rw [if_neg hc] at hb
    exact ⟨none, 0, 0, SA, sc, hb, by show Rd _ _ _ _ _ (lastV _ _ _); unfold lastV; rw [if_neg hc]; exact Rd.nil _ _, rS⟩
/-- What the document answers. -/
def RfP (op : Int) (qt fu : Bool) (oq : Nat) (lk l : List UInt8) (w : World) (e : Ending) (w' : World) : Prop := (readF op qt fu oq lk l).Q w e w'
theorem rfp_short {op : Int} {qt fu : Bool} {oq : Nat} {lk l : List UInt8} {w w' : World} (h : gather op 17 l = .short) (b : Below w.heap.size w w') : RfP op qt fu oq lk l w (.returned (.tuple #[.agg #[.int .i64 0, .slice none 0 0, .int .u32 0, .int .u64 0, .int .u64 0, .slice none 0 0, .bool false], .int .i64 0, .int .i64 9])) w' := by
  unfold RfP readF
  rw [h]
  exact AR.Q_no b
theorem rfp_bad {op : Int} {qt fu : Bool} {oq : Nat} {lk l : List UInt8} {w w' : World} (h : gather op 17 l = .bad) (b : Below w.heap.size w w') : RfP op qt fu oq lk l w (.returned (.tuple #[.agg #[.int .i64 0, .slice none 0 0, .int .u32 0, .int .u64 0, .int .u64 0, .slice none 0 0, .bool false], .int .i64 0, .int .i64 310])) w' := by
  unfold RfP readF
  rw [h]
  exact AR.Q_no b
theorem rfp_no {op : Int} {qt fu : Bool} {oq : Nat} {lk l : List UInt8} {w w' : World} {R : AR} (h : readF op qt fu oq lk l = if R.okF op qt fu oq lk l then R else .no 310) (hn : ¬ R.okF op qt fu oq lk l) (b : Below w.heap.size w w') : RfP op qt fu oq lk l w (.returned (.tuple #[.agg #[.int .i64 0, .slice none 0 0, .int .u32 0, .int .u64 0, .int .u64 0, .slice none 0 0, .bool false], .int .i64 0, .int .i64 310])) w' := by
  unfold RfP
  rw [h, if_neg hn]
  exact AR.Q_no b
theorem rfp_yes {op : Int} {qt fu : Bool} {oq : Nat} {lk l : List UInt8} {w w' : World} {R : AR} {N nv cv sc : Nat} {VA SA : Option Addr} (h : readF op qt fu oq lk l = R) (ha : R.at_ = N) (he : R.er = 0) (rV : Rd w' w'.heap.size VA nv cv R.V) (rS : Rz w' w'.heap.size 2 SA R.SL.length sc (R.SL.map stCells).flatten) (b : Below w.heap.size w w') : RfP op qt fu oq lk l w (.returned (.tuple #[.agg #[.int .i64 R.st, .slice VA nv cv, .int .u32 (R.F : Nat), .int .u64 (R.C : Nat), .int .u64 (R.N : Nat), .slice SA R.SL.length sc, .bool false], .int .i64 (N : Nat), .int .i64 0])) w' := by
  unfold RfP
  rw [h]
  exact ⟨VA, nv, cv, SA, _, sc, by rw [ha, he], rV, rS, rfl, b⟩
theorem readF_done {op : Int} {qt fu : Bool} {oq : Nat} {lk l f : List UInt8} {N : Nat} {SL : List (ByteArray × ByteArray)} (h : gather op 17 l = .done N SL f) : readF op qt fu oq lk l = if (toldF op SL f N).okF op qt fu oq lk l then toldF op SL f N else .no 310 := by
  unfold readF
  rw [h]
theorem toldF_small (op : Int) (SL : List (ByteArray × ByteArray)) (f : List UInt8) (N : Nat) : (toldF op SL f N).at_ = N ∧ (toldF op SL f N).SL = SL ∧ (toldF op SL f N).F < 4294967296 ∧ (toldF op SL f N).C < 18446744073709551616 ∧ (toldF op SL f N).N < 18446744073709551616 ∧ (toldF op SL f N).er = 0 ∧ (toldF op SL f N).V.length ≤ f.length := by
  refine ⟨rfl, rfl, ?_, fld_lt f 16 8, ?_, rfl, ?_⟩
  · show lastF' _ _ _ < _
    unfold lastF'
    split
    · exact Nat.mod_lt _ (by decide)
    · decide
  · show lastN' _ _ _ < _
    unfold lastN'
    split
    · exact numQ_lt _
    · decide
  · show (lastV _ _ _).length ≤ _
    unfold lastV
    split
    · exact gV_le f
    · simp
def RdFA (op : Int) (f : List UInt8) (SL : List (ByteArray × ByteArray)) (g7 : Nat) (wx : World) : Prop := ∃ (VA : Option Addr) (nv cv : Nat) (SA : Option Addr) (sc : Nat), Blk wx g7 #[.int .i64 (fld f 6 2 : Nat), .slice VA nv cv, .int .u32 (lastF' op (gX f) (fld f 6 2 : Nat) : Nat), .int .u64 (fld f 16 8 : Nat), .int .u64 (lastN' op (gV f) (fld f 6 2 : Nat) : Nat), .slice SA SL.length sc, .bool false] 29 ∧ Rd wx wx.heap.size VA nv cv (lastV op (gV f) (fld f 6 2 : Nat)) ∧ Rz wx wx.heap.size 2 SA SL.length sc (SL.map stCells).flatten
theorem rdf_mk {op : Int} {f : List UInt8} {SL : List (ByteArray × ByteArray)} {g7 : Nat} {wx : World} {VA SA : Option Addr} {nv cv sc n' st fc F Nn : Nat} {lv : List UInt8} (hk : Blk wx g7 #[.int .i64 (st : Nat), .slice VA nv cv, .int .u32 (F : Nat), .int .u64 (fc : Nat), .int .u64 (Nn : Nat), .slice SA n' sc, .bool false] 29) (r : Rd wx wx.heap.size VA nv cv lv) (z : Rz wx wx.heap.size 2 SA n' sc (SL.map stCells).flatten) (hst : st = fld f 6 2) (hc : fc = fld f 16 8) (hn : SL.length = n') (hF : lastF' op (gX f) (fld f 6 2 : Nat) = F) (hN : lastN' op (gV f) (fld f 6 2 : Nat) = Nn) (hV : lastV op (gV f) (fld f 6 2 : Nat) = lv) : RdFA op f SL g7 wx := by
  subst hst hc hn hF hN hV
  exact ⟨VA, nv, cv, SA, sc, hk, r, z⟩
theorem RdFA.box {op : Int} {f : List UInt8} {SL : List (ByteArray × ByteArray)} {g7 : Nat} {wx : World} (h : RdFA op f SL g7 wx) (N : Nat) : ∃ R : AR, R = toldF op SL f N ∧ ∃ (VA : Option Addr) (nv cv : Nat) (SA : Option Addr) (sc : Nat), Blk wx g7 #[.int .i64 R.st, .slice VA nv cv, .int .u32 (R.F : Nat), .int .u64 (R.C : Nat), .int .u64 (R.N : Nat), .slice SA R.SL.length sc, .bool false] 29 ∧ Rd wx wx.heap.size VA nv cv R.V ∧ Rz wx wx.heap.size 2 SA R.SL.length sc (R.SL.map stCells).flatten := by
  obtain ⟨VA, nv, cv, SA, sc, hb, rV, rS⟩ := h
  exact ⟨_, rfl, VA, nv, cv, SA, sc, hb, rV, rS⟩
theorem lastcaseF {op : Int} {st kl : Nat} (h : ¬ (op = 16 ∧ st = 0 ∧ 0 < kl)) : (op == 16) = false ∨ ((op == 16) = true ∧ ((st : Int) == 0) = false) ∨ ((op == 16) = true ∧ ((st : Int) == 0) = true ∧ ((0 : Int) < (kl : Int)) = False) := by
  by_cases h1 : op = 16
  · by_cases h2 : st = 0
    · exact Or.inr (Or.inr ⟨beq_iff_eq.2 h1, by rw [beq_iff_eq]; omega, eq_false (by omega)⟩)
    · exact Or.inr (Or.inl ⟨beq_iff_eq.2 h1, by rw [beq_eq_false_iff_ne]; omega⟩)
  · exact Or.inl (beq_eq_false_iff_ne.2 h1)
end Go.Proofs.Ytnghmgbmflcngaa

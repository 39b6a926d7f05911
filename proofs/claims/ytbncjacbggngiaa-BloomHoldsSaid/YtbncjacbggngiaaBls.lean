/- Bits as lists of bools: icehouseref04.Set, Add, May, Join, Right; icehouselaw04.size, few; bytes.Equal. Conditions: typed in each theorem. -/
import Derived.Test.YtbncjacbggngiaaBlr
import Derived.Laws.IdiomStrings
import Derived.Lib.Strings
namespace Go.Proofs.Ytbncjacbggngiaa
set_option linter.unusedVariables false
open Go.RowKit

def bls (L : List Bool) : List Value := L.map .bool
theorem length_bls (L : List Bool) : (bls L).length = L.length := by simp [bls]
theorem bls_append (a b : List Bool) : bls (a ++ b) = bls a ++ bls b := by simp [bls]
theorem bls_one (l : List Bool) : ∀ u ∈ bls l, u.oneCell' = true := by
  intro u hu
  obtain ⟨_, _, rfl⟩ := List.mem_map.1 hu
  rfl
theorem bls_get {L : List Bool} {j : Nat} {u : Value} (h : (bls L)[j]? = some u) : ∃ p, L[j]? = some p ∧ u = .bool p := by
  unfold bls at h
  rw [List.getElem?_map] at h
  obtain ⟨p, hp, rfl⟩ := Option.map_eq_some_iff.1 h
  exact ⟨p, hp, rfl⟩
theorem boolinfo : (Try.prog.info? 4).map (fun i => (i.zero, i.size, i.bytes)) = some (some (.bool false), 1, 1) := by kernel_rfl
/-- append to bools of the call's own. -/
theorem wpList_appB (w : World) {ops : Array Oper} {rest : List Oper} {o : Oper} {a : Act} {Q : Exit → Act → World → Prop}
    (hg : Region.wanted o (yielded ops a.tmps) = true) (s x : Operand) (hop : o.op = Op.call { callee := Callee.builtin Builtin.append, args := #[s, x], argTypes := #[33, 33] })
    (B : Nat) (A : Option Addr) (n c : Nat) (l : List Bool) (hs : a.eval s = .slice A n c) (hown : Ov w B 4 A n c (bls l))
    (B2 : Nat) (A2 : Option Addr) (m c2 : Nat) (l2 : List Bool) (hx : a.eval x = .slice A2 m c2) (hr : Rv w B2 A2 m c2 (bls l2))
    (hbytes : n + m ≤ 140737488355328) (hbase : B ≤ w.heap.size)
    (hK : ∀ A' c' w', Ov w' B 4 A' (n + m) c' (bls (l ++ l2)) → Below B w w' → wpList Try.prog ops Q rest (a.put o.dst (.slice A' (n + m) c')) w') :
    wpList Try.prog ops Q (o :: rest) a w := by
  obtain ⟨i0, hi0, hz0, hz1, hz2⟩ := info_parts boolinfo
  refine wpList_app w hg s x _ hop B 4 i0 _ 1 Try.underlying33 hi0 hz0 hz1 hz2 rfl A n c (bls l) hs hown B2 A2 m c2 (bls l2) hx hr (bls_one _) (fits_small (by omega)) (by unfold maxLen; omega) hbase ?_
  intro A' c' w' h1 h2 _
  refine hK A' c' w' (by rw [bls_append]; exact h1) ?_
  refine (Below.refl B w).grown h2 hbase fun k hk => ?_
  exact (World.ownsRow.lt hown k hk).1
/-- make([]bool, m) -/
theorem wpList_mkB (w : World) {ops : Array Oper} {rest : List Oper} {o : Oper} {a : Act} {Q : Exit → Act → World → Prop}
    (hg : o.guard = none) (l c : Operand) (hop : o.op = Op.makeSlice 33 l c) (B m : Nat)
    (hl : a.eval l = .int .i64 (m : Int)) (hc : a.eval c = .int .i64 (m : Int)) (hm : m ≤ 281474976710656) (hB : B ≤ w.heap.size)
    (hK : ∀ w', Ov w' B 4 (some ⟨w.heap.size, 0, none⟩) m m (bls (List.replicate m false)) → Below B w w' → wpList Try.prog ops Q rest (a.put o.dst (.slice (some ⟨w.heap.size, 0, none⟩) m m)) w') :
    wpList Try.prog ops Q (o :: rest) a w := by
  obtain ⟨i0, hi0, hz0, hz1, hz2⟩ := info_parts boolinfo
  refine wpList_make_full w hg l c _ hop B 4 i0 _ 1 Try.underlying33 hi0 hz0 hz1 .i64 .i64 _ _ m hl hc rfl rfl (by rw [hz2]; omega) (by unfold maxLen; omega) hB ?_
  intro w' h1 h2
  refine hK w' ?_ (below_of_grown0 h2 hB)
  have e : (madeCells (Value.bool false).cells (m * 1)).toList = bls (List.replicate m false) := by
    apply List.ext_getElem
    · simp [madeCells, bls]
    · intro i h3 h4
      simp [madeCells, bls, Value.cells, Nat.mod_one]
  rw [e] at h1
  exact h1
theorem Ov.storedV {w : World} {B n c g : Nat} {e : TypeId} {xs : List Value} (h : Ov w B e (some ⟨g, 0, none⟩) n c xs) (j : Nat) (v : Value) : Ov (w.setCell ⟨g, j, none⟩ v) B e (some ⟨g, 0, none⟩) n c (xs.set j v) := (World.ownsRow.stored h j v).1
theorem Ov.storedB {w : World} {B n c g : Nat} {L : List Bool} (h : Ov w B 4 (some ⟨g, 0, none⟩) n c (bls L)) (j : Nat) (v : Bool) : Ov (w.setCell ⟨g, j, none⟩ (.bool v)) B 4 (some ⟨g, 0, none⟩) n c (bls (L.set j v)) := by
  have := h.storedV j (.bool v)
  rw [show bls (L.set j v) = (bls L).set j (.bool v) from by simp [bls, List.map_set]]
  exact this
theorem Ov.row {w : World} {B n c : Nat} {e : TypeId} {A : Option Addr} {xs : List Value} (h : Ov w B e A n c xs) (hn : 0 < n) : ∃ k, A = some ⟨k, 0, none⟩ ∧ B ≤ k ∧ k < w.heap.size := by
  rcases h.2 with ⟨hv, h0⟩ | ⟨g, cap, cur, hv, hg, hh, r⟩
  · omega
  · injection hv with e1
    exact ⟨g, e1, hg, (Array.getElem?_eq_some_iff.1 hh).1⟩
theorem Ov.cellAtB {w : World} {B n c g : Nat} {L : List Bool} (h : Ov w B 4 (some ⟨g, 0, none⟩) n c (bls L)) {j : Nat} (hj : j < n) : ∃ x : Bool, L[j]? = some x ∧ w.cell? ⟨g, j, none⟩ = some (.bool x) := by
  have h1 := World.ownsRow.cellAt h j (by omega)
  have hl : L.length = n := by have := h.len; rwa [length_bls] at this
  refine ⟨L[j]'(by omega), List.getElem?_eq_getElem (by omega), ?_⟩
  rw [h1]
  unfold bls
  rw [List.getElem?_map, List.getElem?_eq_getElem (by omega)]; rfl
theorem Ov.frozenAt {w : World} {B n c g : Nat} {e : TypeId} {xs : List Value} (h : Ov w B e (some ⟨g, 0, none⟩) n c xs) (j : Nat) : w.frozen? ⟨g, j, none⟩ = false := World.ownsRow.frozenAt h j
theorem Rv.atB {w : World} {B n c : Nat} {A : Option Addr} {L : List Bool} (h : Rv w B A n c (bls L)) {i : Nat} (hi : i < n) : ∃ (ad : Addr) (x : Bool), A = some ad ∧ ad.block < B ∧ L[i]? = some x ∧ w.cell? (ad.add i) = some (.bool x) := by
  obtain ⟨ad, u, hA, hb, hu, hc⟩ := Rv.some_ h hi
  obtain ⟨x, hx, rfl⟩ := bls_get hu
  exact ⟨ad, x, hA, hb, hx, hc⟩
theorem Rv.lenB {w : World} {B n c : Nat} {A : Option Addr} {L : List Bool} (h : Rv w B A n c (bls L)) : L.length = n := by have := h.len; rwa [length_bls] at this

theorem cntL_step {L : List Bool} {k : Nat} {x : Bool} (h : L[k]? = some x) : cntL (L.take (k + 1)) = cntL (L.take k) + x.toNat := by
  rw [take_snoc_of h, cntL_append]; cases x <;> rfl
set_option maxHeartbeats 400000 in
theorem rset_any (A : Option Addr) (n c B : Nat) (L : List Bool) (w : World) (h : Rv w B A n c (bls L)) :
    Calls Try.prog 17 #[.slice A n c] w fun e w' => e = .returned (.int .i64 (cntL L : Nat)) ∧ w = w' := by
  have m1 : (n : Int) ≤ 9223372036854775807 := by have := h.cap; have := h.max; unfold maxLen at this; omega
  have hL := h.lenB
  subst hL
  go_enter Try.func17, Try.ntmps17
  go_wp2
  go_loop [3, 5, 8] (fun t x i => ∃ k m : Nat, k ≤ L.length ∧ m ≤ k ∧ i = .int .i64 k ∧ t = .int .i64 m ∧ m = cntL (L.take k)) (fun _ _ i => L.length - (intOf i).toNat)
  case atStart => exact ⟨0, 0, Nat.zero_le _, Nat.le_refl _, rfl, rfl, rfl⟩
  case round =>
    obtain ⟨k, m, hk, hmk, rfl, rfl, hm⟩ := hrel
    have HM := Lib.hid hm
    clear hm
    by_cases hlt : k < L.length
    · obtain ⟨a1, x1, rfl, -, hx1, hc1⟩ := h.atB hlt
      have HS := Lib.hid (cntL_step hx1)
      clear hx1
      cases x1
      · go_wp2
        go_round
        case rel => exact ⟨k + 1, m, by omega, by omega, by go_num, rfl, by rw [HS.out, ← HM.out]; rfl⟩
        case measure => simp [intOf]; omega
      · go_wp2
        go_round
        case rel => exact ⟨k + 1, m + 1, by omega, by omega, by go_num, by go_num, by rw [HS.out, ← HM.out]; rfl⟩
        case measure => simp [intOf]; omega
    · go_wp2
      go_ret
      obtain rfl : k = L.length := by omega
      have hm := HM.out
      rw [List.take_length] at hm
      exact ⟨by rw [← hm]; rfl, rfl⟩

def SliceB (n : Nat) (L : List Bool) (w : World) (e : Ending) (w' : World) : Prop := ∃ A' c', e = .returned (.slice A' n c') ∧ Ov w' w.heap.size 4 A' n c' (bls L) ∧ Below w.heap.size w w'
theorem take_snoc_setsL {L : List Bool} {ps : List Nat} {j p : Nat} (h : ps[j]? = some p) : setsL L (ps.take (j + 1)) = (setsL L (ps.take j)).set p true := by
  rw [take_snoc_of h, setsL_snoc]
set_option maxHeartbeats 1000000 in
theorem radd_any (A : Option Addr) (n c h : Nat) (L : List Bool) (w : World) (hr : Rv w w.heap.size A n c (bls L)) (hn : 0 < n) (hn2 : n ≤ 65536) (hh : h < 18446744073709551616) :
    Calls Try.prog 18 #[.slice A n c, .int .u64 h] w (SliceB n (setsL L (prbs h n)) w) := by
  go_enter Try.func18, Try.ntmps18
  go_wp2_with (at_builtin; refine wpList_appB _ rfl _ _ rfl w.heap.size (some ⟨w.heap.size, 0, none⟩) 0 0 [] rfl (Ov.empty w _ _ (Nat.le_refl _)) w.heap.size A n c L rfl (hr.alloc (Nat.le_refl _) _) (by omega) (by simp) ?_)
  intro A1 c1 w1 o1 b1
  have hb1 : Below w.heap.size w w1 := ((Below.refl _ _).alloc (Nat.le_refl _) _).trans b1
  go_wp2_with fail
  refine (rprobes_any h n hh hn (by omega) _).mono ?_
  rintro e w2 ⟨A2, c2, rfl, o2, b2⟩
  have hb2 := below_step hb1 b2
  generalize hps : prbs h n = ps at o2
  have hpl : ∀ p ∈ ps, p < n := fun p hp => by rw [← hps] at hp; exact prbs_lt (by omega) hp
  have hp4 : ps.length = 4 := by rw [← hps]; rfl
  have HPS := Lib.hid hps
  have HPL := Lib.hid hpl
  have HP4 := Lib.hid hp4
  clear hps hpl hp4
  obtain ⟨k1, rfl, hk1, hk2⟩ := Ov.row (o1.step b2) hn
  have hk3 := (Ov.row o1 hn)
  obtain ⟨k1', e1, hk3, hk4⟩ := hk3
  obtain rfl : k1 = k1' := by injection e1 with e; injection e
  clear e1
  replace o1 := o1.step b2
  go_wp2_with fail
  clear b1 b2 hb1
  go_loopw [7, 16] (fun x i wr => ∃ j : Nat, j ≤ 4 ∧ i = .int .i64 j ∧ Ov wr w.heap.size 4 (some ⟨k1, 0, none⟩) n c1 (bls (setsL L (ps.take j))) ∧ Ov wr w1.heap.size 3 A2 4 c2 (ints ps) ∧ Below w.heap.size w wr) (fun _ i _ => 4 - (intOf i).toNat)
  case atStart => exact ⟨0, by omega, rfl, o1, o2, hb2⟩
  case round =>
    obtain ⟨j, hj, rfl, oj, pj, bj⟩ := hrel
    by_cases hlt : j < 4
    · obtain ⟨ad, u, rfl, -, hu, hc⟩ := (Ov.rv pj).some_ hlt
      obtain ⟨p, hp, rfl⟩ := ints_get hu
      have hpb := HPL.out p (List.mem_of_getElem? hp)
      obtain ⟨x, hx, hcx⟩ := oj.cellAtB hpb
      have hfx := oj.frozenAt p
      have o3 := oj.storedB p true
      rw [← take_snoc_setsL hp] at o3
      have p3 := pj.kept (rdr_grown_set wr k1 p (.bool true)) hk4
      have b3 := bj.setCell (p := ⟨k1, p, none⟩) hk3 (.bool true)
      clear hx hu hp
      go_wp2_with fail
      go_roundw
      case rel => exact ⟨j + 1, by omega, by go_num, o3, p3, b3⟩
      case measure => simp [intOf]; omega
    · go_wp2
      go_ret
      obtain rfl : j = 4 := by omega
      rw [List.take_of_length_le (by rw [HP4.out]; omega)] at oj
      exact ⟨_, c1, rfl, by rw [HPS.out]; exact oj, bj⟩
theorem getD_some {L : List Bool} {p : Nat} {x : Bool} (h : L[p]? = some x) : L.getD p false = x := by rw [List.getD_eq_getElem?_getD, h]; rfl
set_option maxHeartbeats 1000000 in
theorem rmay_any (A : Option Addr) (n c h : Nat) (L : List Bool) (w : World) (hr : Rv w w.heap.size A n c (bls L)) (hn : 0 < n) (hn2 : n ≤ 65536) (hh : h < 18446744073709551616) :
    Calls Try.prog 24 #[.slice A n c, .int .u64 h] w (BoxB (allL L (prbs h n)) w) := by
  go_enter Try.func24, Try.ntmps24
  go_wp2_with fail
  refine (rprobes_any h n hh hn (by omega) _).mono ?_
  rintro e w2 ⟨A2, c2, rfl, o2, b2⟩
  generalize hps : prbs h n = ps at o2
  have hpl : ∀ p ∈ ps, p < n := fun p hp => by rw [← hps] at hp; exact prbs_lt (by omega) hp
  have hp4 : ps.length = 4 := by rw [← hps]; rfl
  have HPS := Lib.hid hps
  have HPL := Lib.hid hpl
  have HP4 := Lib.hid hp4
  clear hps hpl hp4
  have r2 := hr.step b2
  have p2 := Ov.rv o2
  go_wp2_with fail
  go_loop [6, 12] (fun x i => ∃ j : Nat, j ≤ 4 ∧ i = .int .i64 j ∧ allL L (ps.take j) = true) (fun _ i => 4 - (intOf i).toNat)
  case atStart => exact ⟨0, by omega, rfl, rfl⟩
  case round =>
    obtain ⟨j, hj, rfl, hal⟩ := hrel
    have HA := Lib.hid hal
    clear hal
    by_cases hlt : j < 4
    · obtain ⟨ad, u, rfl, -, hu, hc⟩ := p2.some_ hlt
      obtain ⟨p, hp, rfl⟩ := ints_get hu
      have hpm := List.mem_of_getElem? hp
      have hpb := HPL.out p hpm
      obtain ⟨ad2, x, rfl, -, hx, hcx⟩ := r2.atB hpb
      have hgd := getD_some hx
      have HT := Lib.hid (take_snoc_of hp)
      clear hx hu hp
      cases x
      · have HF := Lib.hid (allL_false hpm hgd)
        clear hgd hpm
        go_wp2_with fail
        go_ret
        exact ⟨by rw [HPS.out, HF.out]; rfl, b2⟩
      · have HF := Lib.hid (show allL L (ps.take (j + 1)) = true from by rw [HT.out, allL_snoc, HA.out, hgd]; rfl)
        clear hgd hpm
        go_wp2_with fail
        go_round
        case rel => exact ⟨j + 1, by omega, by go_num, HF.out⟩
        case measure => simp [intOf]; omega
    · go_wp2
      go_ret
      obtain rfl : j = 4 := by omega
      have := HA.out
      rw [List.take_of_length_le (by rw [HP4.out]; omega)] at this
      exact ⟨by rw [HPS.out, this]; rfl, b2⟩
end Go.Proofs.Ytbncjacbggngiaa

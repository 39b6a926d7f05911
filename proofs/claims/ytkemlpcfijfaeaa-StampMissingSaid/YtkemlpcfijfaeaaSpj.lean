/- stamp.Join. Conditions: typed in each theorem. -/
import Derived.Test.YtkemlpcfijfaeaaSpo
namespace Go.Proofs.Ytkemlpcfijfaeaa
set_option linter.unusedVariables false
open Go.RowKit

/-- A sector's payload; the payloads of the first k. -/
def paylS (x : List UInt8) : List UInt8 := (x.drop 16).take (fld x 12 2)
def joinB (L : List (List UInt8)) (k : Nat) : List UInt8 := ((L.take k).map paylS).flatten
theorem joinB_snoc {L : List (List UInt8)} {k : Nat} {x : List UInt8} (h : L[k]? = some x) : joinB L (k + 1) = joinB L k ++ paylS x := by
  unfold joinB
  rw [take_snoc_of h]
  simp
def genJ (L : List (List UInt8)) : Nat := fld (L.headD []) 0 8
def posJ (L : List (List UInt8)) : Nat := fld (L.headD []) 8 4
/-- Sector j of a row is the one that follows. -/
def GoodJ (L : List (List UInt8)) (j : Nat) : Prop := ∃ x, L[j]? = some x ∧ okS x ∧ fld x 0 8 = genJ L ∧ fld x 8 4 = posJ L + j ∧ (j + 1 < L.length → 48 ≤ fld x 12 2)
theorem goodJ_head {L : List (List UInt8)} {x : List UInt8} (h : L[0]? = some x) : genJ L = fld x 0 8 ∧ posJ L = fld x 8 4 := by
  cases L with
  | nil => simp at h
  | cons y L =>
    simp at h
    subst h
    exact ⟨rfl, rfl⟩
theorem goodJ_no {L : List (List UInt8)} {j : Nat} {x : List UInt8} (h : L[j]? = some x) (hb : ¬ (okS x ∧ fld x 0 8 = genJ L ∧ fld x 8 4 = posJ L + j ∧ (j + 1 < L.length → 48 ≤ fld x 12 2))) : ¬ GoodJ L j := by
  rintro ⟨y, h1, h2⟩
  rw [h] at h1
  injection h1 with h1
  subst h1
  exact hb h2
theorem goodJ_end {L : List (List UInt8)} {j : Nat} (h : 4294967296 ≤ posJ L + j) : ¬ GoodJ L j := by
  rintro ⟨y, h1, _, _, h4, _⟩
  have : fld y 8 4 < 4294967296 := fld_lt y 8 4
  omega
theorem RdB.step {w w' : World} {A : Option Addr} {n c : Nat} {L : List (List UInt8)} (h : RdB w w.heap.size A n c L) (hb : Below w.heap.size w w') : RdB w' w'.heap.size A n c L := Rz.step h hb
theorem all_step {P : Nat → Prop} {k : Nat} (h : ∀ j, j < k → P j) (hk : P k) : ∀ j, j < k + 1 → P j := by
  intro j hj
  by_cases e : j = k
  · subst e; exact hk
  · exact h j (by omega)
def wantC (L : List (List UInt8)) (k : Nat) : Array Value := if k = 0 then #[.int .u64 0, .int .u32 0, .int .i64 0] else #[.int .u64 (genJ L : Nat), .int .u32 ((posJ L + k : Nat) % 4294967296 : Nat), .int .i64 0]
theorem wantC_succ (L : List (List UInt8)) (k : Nat) : wantC L (k + 1) = #[.int .u64 (genJ L : Nat), .int .u32 ((posJ L + (k + 1) : Nat) % 4294967296 : Nat), .int .i64 0] := if_neg (by omega)
theorem wantC_pos (L : List (List UInt8)) (k : Nat) (h0 : 0 < k) (h : posJ L + k < 4294967296) : wantC L k = #[.int .u64 (genJ L : Nat), .int .u32 (posJ L + k : Nat), .int .i64 0] := by
  unfold wantC
  rw [if_neg (by omega), Nat.mod_eq_of_lt h]
def JoinNo (w : World) (e : Ending) (w' : World) : Prop := e = .returned (.tuple #[.slice none 0 0, .int .i64 150]) ∧ Below w.heap.size w w'
def JoinOk (l : List UInt8) (w : World) (e : Ending) (w' : World) : Prop := ∃ A' c', e = .returned (.tuple #[.slice A' l.length c', .int .i64 0]) ∧ Own w' w.heap.size A' l.length c' l ∧ Below w.heap.size w w'
def JoinT (L : List (List UInt8)) (w : World) (e : Ending) (w' : World) : Prop := ((∀ j, j < L.length → GoodJ L j) ∧ JoinOk (joinB L L.length) w e w') ∨ ((∃ j, j < L.length ∧ ¬ GoodJ L j) ∧ JoinNo w e w')
def JRel (L : List (List UInt8)) (w : World) (o i : Value) (wr : World) : Prop :=
  ∃ (k : Nat) (A : Option Addr) (N c : Nat), k ≤ L.length ∧ i = .int .i64 k ∧ o = .slice A N c ∧ Own wr (w.heap.size + 1) A N c (joinB L k) ∧ N ≤ 48 * k ∧ (∀ j, j < k → GoodJ L j) ∧ Blk wr w.heap.size (wantC L k) 49 ∧ Below w.heap.size w wr ∧ (0 < k → k < L.length → posJ L + k < 4294967296)
set_option maxRecDepth 100000 in
set_option maxHeartbeats 1000000 in
theorem join_nil (A : Option Addr) (c : Nat) (w : World) : Calls Try.prog 12 #[.slice A 0 c] w (JoinNo w) := by
  go_enter Try.func12, Try.ntmps12
  go_wp2_with fail
  go_ret2
  exact ⟨rfl, Below.refl _ _⟩
set_option maxRecDepth 100000 in
set_option maxHeartbeats 8000000 in
theorem join_any (L : List (List UInt8)) (h64 : ∀ x ∈ L, x.length = 64) (A : Option Addr) (n c : Nat) (hn : n ≤ 1000) (hn0 : n ≠ 0) (w : World) (r : RdB w w.heap.size A n c L) : Calls Try.prog 12 #[.slice A n c] w (JoinT L w) := by
  have hl := r.len h64
  have n0 : ((n : Int) == 0) = false := by rw [beq_eq_false_iff_ne]; omega
  have k0 := Blk.new w #[.int .u64 0, .int .u32 0, .int .i64 0] 49
  have b0 := below_a1' (Below.refl w.heap.size w) (.cells #[.int .u64 0, .int .u32 0, .int .i64 0] 49)
  have hnL : L.length ≤ 1000 := by omega
  have HL := Lib.hid hl
  have H64 := Lib.hid h64
  clear hl h64
  go_enter Try.func12, Try.ntmps12
  go_wp2_with fail
  go_loopw [4, 16] (fun o i wr => JRel L w o i wr) (fun _ i _ => n - (intOf i).toNat)
  case atStart => exact ⟨0, none, 0, 0, Nat.zero_le _, rfl, rfl, Own.nil _ _, by omega, fun j hj => absurd hj (Nat.not_lt_zero _), k0, b0, fun h => absurd h (by omega)⟩
  case round =>
    obtain ⟨k, A1, N, c1, hk, rfl, rfl, o1, hN, hgood, kw, b1, hpos⟩ := hrel
    have HG := Lib.hid hgood
    clear hgood k0 b0
    rw [HL.out] at hk hpos
    by_cases hlt : k < n
    · obtain ⟨ad, x, rfl, had, hx, hx64, hc⟩ := (r.step b1).at_ H64.out hlt
      have HX := Lib.hid hx
      have HX64 := Lib.hid hx64
      have HC := Lib.hid hc
      clear hx hx64 hc
      have hsz := b1.size
      have k7 := Blk.new wr (ar zeroA) 47
      have hg0 := kw.lt
      go_wp2_with (first | refine wpl_loadS rfl _ rfl (ad.add (k * 64)) rfl x HX64.out HC.out ?_ | refine wpl_storeA _ rfl _ _ rfl wr.heap.size zeroA x rfl rfl k7 zl HX64.out ?_)
      intro w2 k7' g2
      have b2 : Below wr.heap.size wr w2 := (below_a1' (Below.refl wr.heap.size wr) (.cells (ar zeroA) 47)).trans (below_grown g2 (Nat.le_refl _) k7.lt)
      replace kw := kw.step b2
      replace o1 := Own.below o1 b2
      replace b1 := below_step b1 b2
      have hlt2 := k7'.lt
      clear g2 b2 k7 HC
      by_cases hok : okS x
      · have hR := fun W => read_yes x HX64.out W hok
        unfold ReadOk at hR
        have HOK := Lib.hid hok
        have hpl := pay_len HX64.out hok.2.1
        have hf48 : fld x 12 2 ≤ 48 := hok.2.1
        have fp : fld x 8 4 < 4294967296 := fld_lt x 8 4
        have fg : fld x 0 8 < 18446744073709551616 := fld_lt x 0 8
        have HJ := Lib.hid (joinB_snoc HX.out)
        have HNO : Hid (¬ (okS x ∧ fld x 0 8 = genJ L ∧ fld x 8 4 = posJ L + k ∧ (k + 1 < L.length → 48 ≤ fld x 12 2)) → ¬ GoodJ L k) := Lib.hid (goodJ_no HX.out)
        have HYES : Hid ((fld x 0 8 = genJ L ∧ fld x 8 4 = posJ L + k ∧ (k + 1 < n → 48 ≤ fld x 12 2)) → GoodJ L k) := Lib.hid (fun h => ⟨x, HX.out, HOK.out, h.1, h.2.1, fun h2 => h.2.2 (by rw [← HL.out]; exact h2)⟩)
        have HZ : Hid (k = 0 → genJ L = fld x 0 8 ∧ posJ L = fld x 8 4) := Lib.hid (fun h => goodJ_head (by have := HX.out; rw [h] at this; exact this))
        unfold paylS at HJ
        generalize eG : fld x 0 8 = g at *
        generalize eP : fld x 8 4 = p at *
        generalize eF : fld x 12 2 = f at *
        clear eG eP eF hok
        have HP := Lib.hid hpl
        have HR := Lib.hid hR
        clear hpl hR
        go_wp2_with (refine wpl_loadA _ rfl _ rfl wr.heap.size x rfl k7' HX64.out ?_)
        refine (HR.out _).mono ?_
        rintro e w3 ⟨P, cP, rfl, oP, b3⟩
        replace kw := kw.step b3
        replace o1 := Own.below o1 b3
        replace b1 := below_step b1 b3
        have hlw := kw.lt
        have k8 := Blk.new w3 #[.int .u64 (g : Nat), .int .u32 (p : Nat), .int .i64 (f : Nat)] 49
        have ba := below_a1' (Below.refl w3.heap.size w3) (.cells #[.int .u64 (g : Nat), .int .u32 (p : Nat), .int .i64 (f : Nat)] 49)
        replace kw := kw.step ba
        replace o1 := Own.below o1 ba
        replace oP := oP.below ba
        have hlw2 : w.heap.size < w2.heap.size := by omega
        replace b1 := below_step b1 ba
        clear b3 HR ba
        go_upto_region 9 with fail
        generalize w3.alloc (.cells #[.int .u64 (g : Nat), .int .u32 (p : Nat), .int .i64 (f : Nat)] 49) = W4 at k8 kw o1 oP b1 ⊢
        obtain ⟨q0, q1, q2⟩ := box3 k8
        by_cases hl : k + 1 < n
        · by_cases hf : f < 48
          · have i1 : (k : Int) + 1 < (n : Int) := by omega
            have i2 : (f : Int) < 48 := by omega
            go_wp2_with fail
            go_ret2
            exact Or.inr ⟨⟨k, by rw [HL.out]; exact hlt, HNO.out (fun h => by have := h.2.2.2 (by rw [HL.out]; exact hl); omega)⟩, rfl, b1⟩
          · have i2 : ((f : Int) < 48) = False := by simp; omega
            by_cases hk0 : k = 0
            · replace kw : Blk W4 w.heap.size #[.int .u64 0, .int .u32 0, .int .i64 0] 49 := by have := kw; unfold wantC at this; rwa [if_pos hk0] at this
              have ik : ((0 : Int) < (k : Int)) = False := by simp; omega
              have ik2 : (0 < k) = False := by simp; omega
              have HK0 := Lib.hid hk0
              have HZ0 := Lib.hid (HZ.out hk0)
              have hkle : k ≤ 0 := by omega
              clear hk0
              have kf : Blk (W4.setCell ⟨w.heap.size, 2, none⟩ (.int .i64 (f : Nat))) w.heap.size #[.int .u64 0, .int .u32 0, .int .i64 (f : Nat)] 49 := kw.set_ 2 (.int .i64 (f : Nat))
              have hgf := rdr_grown_set W4 w.heap.size 2 (.int .i64 (f : Nat))
              have o1f := o1.kept hgf (Nat.lt_succ_self _)
              have oPf := oP.kept hgf hlw2
              have b1f := b1.trans (below_grown hgf (Nat.le_refl _) kw.lt)
              obtain ⟨z0, z1, z2⟩ := box3 kw
              have y0 := kw.frozen 0
              have y1 := kw.frozen 1
              have y2 := kw.frozen 2
              clear hgf o1 oP
              by_cases hpm : p = 4294967295
              · have ep : ((p : Int) == 4294967295) = true := by rw [beq_iff_eq]; omega
                have i3 : (k : Int) + 1 < (n : Int) := by omega
                have HE : Hid (¬ GoodJ L (k + 1)) := Lib.hid (goodJ_end (by have := HZ0.out.2; have := HK0.out; omega))
                clear hpm
                go_wp2_with fail
                go_ret2
                exact Or.inr ⟨⟨k + 1, by rw [HL.out]; exact hl, HE.out⟩, rfl, b1f⟩
              · have i3 : (k : Int) + 1 < (n : Int) := by omega
                have ew : IntKind.u32.wrap ((p : Int) + 1) = (p : Int) + 1 := IntWalk.u32_in _ (by omega)
                have ep : ((p : Int) == 4294967295) = false := by rw [beq_eq_false_iff_ne]; omega
                have kf2 := blk_set3 kf (.int .u64 (g : Nat)) (.int .u32 ((p : Int) + 1)) (.int .i64 0)
                have hg3 := grown_set3 (W4.setCell ⟨w.heap.size, 2, none⟩ (.int .i64 (f : Nat))) w.heap.size (.int .u64 (g : Nat)) (.int .u32 ((p : Int) + 1)) (.int .i64 0)
                have o2 := o1f.kept hg3 (Nat.lt_succ_self _)
                have oP2 := oPf.kept hg3 hlw2
                have b2 := b1f.trans (below_grown hg3 (Nat.le_refl _) kf.lt)
                have hsz2 := kf2.lt
                have rP2 := oP2.rd
                clear hg3 o1f oPf b1f oP2
                have HGN : Hid (GoodJ L k) := Lib.hid (HYES.out ⟨HZ0.out.1.symm, by rw [HZ0.out.2, HK0.out]; rfl, fun _ => by omega⟩)
                have hw1 : genJ L = g := HZ0.out.1
                have hw2 : (((posJ L + (k + 1)) % 4294967296 : Nat) : Int) = (p : Int) + 1 := by have := HZ0.out.2; have := HK0.out; omega
                have HW : Hid (wantC L (k + 1) = #[.int .u64 (g : Nat), .int .u32 ((p : Int) + 1), .int .i64 0]) := Lib.hid (by rw [wantC_succ, hw1, hw2])
                clear hw1 hw2
                have HPN : Hid (k + 1 < n → posJ L + (k + 1) < 4294967296) := Lib.hid (by
                  intro h
                  have := HZ0.out.2; have := HK0.out; omega)
                clear fp fg hpm
                go_upto_region 17 with fail
                generalize ((((W4.setCell ⟨w.heap.size, 2, none⟩ (.int .i64 (f : Nat))).setCell ⟨w.heap.size, 0, none⟩ (.int .u64 (g : Nat))).setCell ⟨w.heap.size, 1, none⟩ (.int .u32 ((p : Int) + 1))).setCell ⟨w.heap.size, 2, none⟩ (.int .i64 0)) = W7 at kf2 o2 b2 hsz2 rP2 ⊢
                go_wp2_with (at_builtin; refine wpList_app8 _ rfl _ _ rfl (w.heap.size + 1) A1 N c1 _ rfl o2 _ P f cP _ rfl rP2 (by omega) (by omega) ?_)
                intro A9 c9 w9 o9 b9
                have b10 := b2.trans (b9.mono (Nat.le_succ _))
                have kw9 : Blk w9 w.heap.size _ _ := (b9.block _ (Nat.lt_succ_self _)).trans kf2
                rw [← HJ.out] at o9
                clear b9 b2 rP2 o2 kf2
                go_wp2_with fail
                go_roundw
                case rel => exact ⟨k + 1, A9, N + f, c9, by rw [HL.out]; omega, by go_num, rfl, o9, by omega, all_step HG.out HGN.out, by rw [HW.out]; exact kw9, b10, by rw [HL.out]; exact fun _ => HPN.out⟩
                case measure => simp [intOf]; omega
            · have hkp : 0 < k := by omega
              have ik : (0 : Int) < (k : Int) := by omega
              have hmm := hpos hkp hlt
              rw [wantC_pos L k hkp hmm] at kw
              obtain ⟨G, hG⟩ : ∃ G, G = genJ L := ⟨_, rfl⟩
              obtain ⟨m, hm⟩ : ∃ m, m = posJ L + k := ⟨_, rfl⟩
              rw [← hm, ← hG] at kw
              rw [← hm] at hmm
              have HGe := Lib.hid hG.symm
              have HMe := Lib.hid hm
              clear hm hG
              have kf : Blk (W4.setCell ⟨w.heap.size, 2, none⟩ (.int .i64 (f : Nat))) w.heap.size #[.int .u64 (G : Nat), .int .u32 (m : Nat), .int .i64 (f : Nat)] 49 := kw.set_ 2 (.int .i64 (f : Nat))
              have hgf := rdr_grown_set W4 w.heap.size 2 (.int .i64 (f : Nat))
              have o1f := o1.kept hgf (Nat.lt_succ_self _)
              have oPf := oP.kept hgf hlw2
              have b1f := b1.trans (below_grown hgf (Nat.le_refl _) kw.lt)
              obtain ⟨z0, z1, z2⟩ := box3 kw
              have y0 := kw.frozen 0
              have y1 := kw.frozen 1
              have y2 := kw.frozen 2
              clear hgf o1 oP
              by_cases hgg : g = G
              · have eg : ((g : Int) == (G : Int)) = true := by rw [beq_iff_eq]; omega
                by_cases hpp : p = m
                · have epm : ((p : Int) == (m : Int)) = true := by rw [beq_iff_eq]; omega
                  by_cases hpm : p = 4294967295
                  · have ep : ((p : Int) == 4294967295) = true := by rw [beq_iff_eq]; omega
                    have i3 : (k : Int) + 1 < (n : Int) := by omega
                    have HE : Hid (¬ GoodJ L (k + 1)) := Lib.hid (goodJ_end (by have := HMe.out; omega))
                    clear hpm hgg hpp
                    go_wp2_with fail
                    go_ret2
                    exact Or.inr ⟨⟨k + 1, by rw [HL.out]; exact hl, HE.out⟩, rfl, b1f⟩
                  · have i3 : (k : Int) + 1 < (n : Int) := by omega
                    have ew : IntKind.u32.wrap ((p : Int) + 1) = (p : Int) + 1 := IntWalk.u32_in _ (by omega)
                    have ep : ((p : Int) == 4294967295) = false := by rw [beq_eq_false_iff_ne]; omega
                    have kf2 := blk_set3 kf (.int .u64 (g : Nat)) (.int .u32 ((p : Int) + 1)) (.int .i64 0)
                    have hg3 := grown_set3 (W4.setCell ⟨w.heap.size, 2, none⟩ (.int .i64 (f : Nat))) w.heap.size (.int .u64 (g : Nat)) (.int .u32 ((p : Int) + 1)) (.int .i64 0)
                    have o2 := o1f.kept hg3 (Nat.lt_succ_self _)
                    have oP2 := oPf.kept hg3 hlw2
                    have b2 := b1f.trans (below_grown hg3 (Nat.le_refl _) kf.lt)
                    have hsz2 := kf2.lt
                    have rP2 := oP2.rd
                    clear hg3 o1f oPf b1f oP2
                    have HGN : Hid (GoodJ L k) := Lib.hid (HYES.out ⟨by rw [HGe.out]; exact hgg, by rw [← HMe.out]; exact hpp, fun _ => by omega⟩)
                    have hw1 : genJ L = g := by rw [HGe.out, hgg]
                    have hw2 : (((posJ L + (k + 1)) % 4294967296 : Nat) : Int) = (p : Int) + 1 := by have := HMe.out; omega
                    have HW : Hid (wantC L (k + 1) = #[.int .u64 (g : Nat), .int .u32 ((p : Int) + 1), .int .i64 0]) := Lib.hid (by rw [wantC_succ, hw1, hw2])
                    clear hw1 hw2
                    have HPN : Hid (k + 1 < n → posJ L + (k + 1) < 4294967296) := Lib.hid (by
                      intro h
                      have := HMe.out; omega)
                    clear fp fg hpm hgg hpp
                    go_upto_region 17 with fail
                    generalize ((((W4.setCell ⟨w.heap.size, 2, none⟩ (.int .i64 (f : Nat))).setCell ⟨w.heap.size, 0, none⟩ (.int .u64 (g : Nat))).setCell ⟨w.heap.size, 1, none⟩ (.int .u32 ((p : Int) + 1))).setCell ⟨w.heap.size, 2, none⟩ (.int .i64 0)) = W7 at kf2 o2 b2 hsz2 rP2 ⊢
                    go_wp2_with (at_builtin; refine wpList_app8 _ rfl _ _ rfl (w.heap.size + 1) A1 N c1 _ rfl o2 _ P f cP _ rfl rP2 (by omega) (by omega) ?_)
                    intro A9 c9 w9 o9 b9
                    have b10 := b2.trans (b9.mono (Nat.le_succ _))
                    have kw9 : Blk w9 w.heap.size _ _ := (b9.block _ (Nat.lt_succ_self _)).trans kf2
                    rw [← HJ.out] at o9
                    clear b9 b2 rP2 o2 kf2
                    go_wp2_with fail
                    go_roundw
                    case rel => exact ⟨k + 1, A9, N + f, c9, by rw [HL.out]; omega, by go_num, rfl, o9, by omega, all_step HG.out HGN.out, by rw [HW.out]; exact kw9, b10, by rw [HL.out]; exact fun _ => HPN.out⟩
                    case measure => simp [intOf]; omega
                · have epm : ((p : Int) == (m : Int)) = false := by rw [beq_eq_false_iff_ne]; omega
                  have HNN : Hid (¬ GoodJ L k) := Lib.hid (HNO.out (fun h => hpp (by rw [h.2.2.1, HMe.out])))
                  clear hgg hpp
                  go_wp2_with fail
                  go_ret2
                  exact Or.inr ⟨⟨k, by rw [HL.out]; exact hlt, HNN.out⟩, rfl, b1f⟩
              · have eg : ((g : Int) == (G : Int)) = false := by rw [beq_eq_false_iff_ne]; omega
                have HNN : Hid (¬ GoodJ L k) := Lib.hid (HNO.out (fun h => hgg (by rw [h.2.1, HGe.out])))
                clear hgg
                go_wp2_with fail
                go_ret2
                exact Or.inr ⟨⟨k, by rw [HL.out]; exact hlt, HNN.out⟩, rfl, b1f⟩
        · by_cases hk0 : k = 0
          · replace kw : Blk W4 w.heap.size #[.int .u64 0, .int .u32 0, .int .i64 0] 49 := by have := kw; unfold wantC at this; rwa [if_pos hk0] at this
            have ik : ((0 : Int) < (k : Int)) = False := by simp; omega
            have ik2 : (0 < k) = False := by simp; omega
            have HK0 := Lib.hid hk0
            have HZ0 := Lib.hid (HZ.out hk0)
            have hkle : k ≤ 0 := by omega
            clear hk0
            have kf : Blk (W4.setCell ⟨w.heap.size, 2, none⟩ (.int .i64 (f : Nat))) w.heap.size #[.int .u64 0, .int .u32 0, .int .i64 (f : Nat)] 49 := kw.set_ 2 (.int .i64 (f : Nat))
            have hgf := rdr_grown_set W4 w.heap.size 2 (.int .i64 (f : Nat))
            have o1f := o1.kept hgf (Nat.lt_succ_self _)
            have oPf := oP.kept hgf hlw2
            have b1f := b1.trans (below_grown hgf (Nat.le_refl _) kw.lt)
            obtain ⟨z0, z1, z2⟩ := box3 kw
            have y0 := kw.frozen 0
            have y1 := kw.frozen 1
            have y2 := kw.frozen 2
            clear hgf o1 oP
            have i3 : ¬ ((k : Int) + 1 < (n : Int)) := by omega
            by_cases hpm : p = 4294967295
            · have ew : IntKind.u32.wrap ((p : Int) + 1) = 0 := by rw [show (p : Int) = 4294967295 from by omega]; rfl
              have ep : ((p : Int) == 4294967295) = true := by rw [beq_iff_eq]; omega
              have kf2 := blk_set3 kf (.int .u64 (g : Nat)) (.int .u32 0) (.int .i64 0)
              have hg3 := grown_set3 (W4.setCell ⟨w.heap.size, 2, none⟩ (.int .i64 (f : Nat))) w.heap.size (.int .u64 (g : Nat)) (.int .u32 0) (.int .i64 0)
              have o2 := o1f.kept hg3 (Nat.lt_succ_self _)
              have oP2 := oPf.kept hg3 hlw2
              have b2 := b1f.trans (below_grown hg3 (Nat.le_refl _) kf.lt)
              have hsz2 := kf2.lt
              have rP2 := oP2.rd
              clear hg3 o1f oPf b1f oP2
              have HGN : Hid (GoodJ L k) := Lib.hid (HYES.out ⟨HZ0.out.1.symm, by rw [HZ0.out.2, HK0.out]; rfl, fun h => absurd h hl⟩)
              have hw1 : genJ L = g := HZ0.out.1
              have hw2 : (((posJ L + (k + 1)) % 4294967296 : Nat) : Int) = 0 := by have := HZ0.out.2; have := HK0.out; omega
              have HW : Hid (wantC L (k + 1) = #[.int .u64 (g : Nat), .int .u32 0, .int .i64 0]) := Lib.hid (by rw [wantC_succ, hw1, hw2])
              clear hw1 hw2
              have HPN : Hid (k + 1 < n → posJ L + (k + 1) < 4294967296) := Lib.hid (by
                intro h
                exact absurd h hl)
              clear fp fg hpm
              go_upto_region 17 with fail
              generalize ((((W4.setCell ⟨w.heap.size, 2, none⟩ (.int .i64 (f : Nat))).setCell ⟨w.heap.size, 0, none⟩ (.int .u64 (g : Nat))).setCell ⟨w.heap.size, 1, none⟩ (.int .u32 0)).setCell ⟨w.heap.size, 2, none⟩ (.int .i64 0)) = W7 at kf2 o2 b2 hsz2 rP2 ⊢
              go_wp2_with (at_builtin; refine wpList_app8 _ rfl _ _ rfl (w.heap.size + 1) A1 N c1 _ rfl o2 _ P f cP _ rfl rP2 (by omega) (by omega) ?_)
              intro A9 c9 w9 o9 b9
              have b10 := b2.trans (b9.mono (Nat.le_succ _))
              have kw9 : Blk w9 w.heap.size _ _ := (b9.block _ (Nat.lt_succ_self _)).trans kf2
              rw [← HJ.out] at o9
              clear b9 b2 rP2 o2 kf2
              go_wp2_with fail
              go_roundw
              case rel => exact ⟨k + 1, A9, N + f, c9, by rw [HL.out]; omega, by go_num, rfl, o9, by omega, all_step HG.out HGN.out, by rw [HW.out]; exact kw9, b10, by rw [HL.out]; exact fun _ => HPN.out⟩
              case measure => simp [intOf]; omega
            · have ew : IntKind.u32.wrap ((p : Int) + 1) = (p : Int) + 1 := IntWalk.u32_in _ (by omega)
              have ep : ((p : Int) == 4294967295) = false := by rw [beq_eq_false_iff_ne]; omega
              have kf2 := blk_set3 kf (.int .u64 (g : Nat)) (.int .u32 ((p : Int) + 1)) (.int .i64 0)
              have hg3 := grown_set3 (W4.setCell ⟨w.heap.size, 2, none⟩ (.int .i64 (f : Nat))) w.heap.size (.int .u64 (g : Nat)) (.int .u32 ((p : Int) + 1)) (.int .i64 0)
              have o2 := o1f.kept hg3 (Nat.lt_succ_self _)
              have oP2 := oPf.kept hg3 hlw2
              have b2 := b1f.trans (below_grown hg3 (Nat.le_refl _) kf.lt)
              have hsz2 := kf2.lt
              have rP2 := oP2.rd
              clear hg3 o1f oPf b1f oP2
              have HGN : Hid (GoodJ L k) := Lib.hid (HYES.out ⟨HZ0.out.1.symm, by rw [HZ0.out.2, HK0.out]; rfl, fun h => absurd h hl⟩)
              have hw1 : genJ L = g := HZ0.out.1
              have hw2 : (((posJ L + (k + 1)) % 4294967296 : Nat) : Int) = (p : Int) + 1 := by have := HZ0.out.2; have := HK0.out; omega
              have HW : Hid (wantC L (k + 1) = #[.int .u64 (g : Nat), .int .u32 ((p : Int) + 1), .int .i64 0]) := Lib.hid (by rw [wantC_succ, hw1, hw2])
              clear hw1 hw2
              have HPN : Hid (k + 1 < n → posJ L + (k + 1) < 4294967296) := Lib.hid (by
                intro h
                have := HZ0.out.2; have := HK0.out; omega)
              clear fp fg hpm
              go_upto_region 17 with fail
              generalize ((((W4.setCell ⟨w.heap.size, 2, none⟩ (.int .i64 (f : Nat))).setCell ⟨w.heap.size, 0, none⟩ (.int .u64 (g : Nat))).setCell ⟨w.heap.size, 1, none⟩ (.int .u32 ((p : Int) + 1))).setCell ⟨w.heap.size, 2, none⟩ (.int .i64 0)) = W7 at kf2 o2 b2 hsz2 rP2 ⊢
              go_wp2_with (at_builtin; refine wpList_app8 _ rfl _ _ rfl (w.heap.size + 1) A1 N c1 _ rfl o2 _ P f cP _ rfl rP2 (by omega) (by omega) ?_)
              intro A9 c9 w9 o9 b9
              have b10 := b2.trans (b9.mono (Nat.le_succ _))
              have kw9 : Blk w9 w.heap.size _ _ := (b9.block _ (Nat.lt_succ_self _)).trans kf2
              rw [← HJ.out] at o9
              clear b9 b2 rP2 o2 kf2
              go_wp2_with fail
              go_roundw
              case rel => exact ⟨k + 1, A9, N + f, c9, by rw [HL.out]; omega, by go_num, rfl, o9, by omega, all_step HG.out HGN.out, by rw [HW.out]; exact kw9, b10, by rw [HL.out]; exact fun _ => HPN.out⟩
              case measure => simp [intOf]; omega
          · have hkp : 0 < k := by omega
            have ik : (0 : Int) < (k : Int) := by omega
            have hmm := hpos hkp hlt
            rw [wantC_pos L k hkp hmm] at kw
            obtain ⟨G, hG⟩ : ∃ G, G = genJ L := ⟨_, rfl⟩
            obtain ⟨m, hm⟩ : ∃ m, m = posJ L + k := ⟨_, rfl⟩
            rw [← hm, ← hG] at kw
            rw [← hm] at hmm
            have HGe := Lib.hid hG.symm
            have HMe := Lib.hid hm
            clear hm hG
            have kf : Blk (W4.setCell ⟨w.heap.size, 2, none⟩ (.int .i64 (f : Nat))) w.heap.size #[.int .u64 (G : Nat), .int .u32 (m : Nat), .int .i64 (f : Nat)] 49 := kw.set_ 2 (.int .i64 (f : Nat))
            have hgf := rdr_grown_set W4 w.heap.size 2 (.int .i64 (f : Nat))
            have o1f := o1.kept hgf (Nat.lt_succ_self _)
            have oPf := oP.kept hgf hlw2
            have b1f := b1.trans (below_grown hgf (Nat.le_refl _) kw.lt)
            obtain ⟨z0, z1, z2⟩ := box3 kw
            have y0 := kw.frozen 0
            have y1 := kw.frozen 1
            have y2 := kw.frozen 2
            clear hgf o1 oP
            by_cases hgg : g = G
            · have eg : ((g : Int) == (G : Int)) = true := by rw [beq_iff_eq]; omega
              by_cases hpp : p = m
              · have epm : ((p : Int) == (m : Int)) = true := by rw [beq_iff_eq]; omega
                have i3 : ¬ ((k : Int) + 1 < (n : Int)) := by omega
                by_cases hpm : p = 4294967295
                · have ew : IntKind.u32.wrap ((p : Int) + 1) = 0 := by rw [show (p : Int) = 4294967295 from by omega]; rfl
                  have ep : ((p : Int) == 4294967295) = true := by rw [beq_iff_eq]; omega
                  have kf2 := blk_set3 kf (.int .u64 (g : Nat)) (.int .u32 0) (.int .i64 0)
                  have hg3 := grown_set3 (W4.setCell ⟨w.heap.size, 2, none⟩ (.int .i64 (f : Nat))) w.heap.size (.int .u64 (g : Nat)) (.int .u32 0) (.int .i64 0)
                  have o2 := o1f.kept hg3 (Nat.lt_succ_self _)
                  have oP2 := oPf.kept hg3 hlw2
                  have b2 := b1f.trans (below_grown hg3 (Nat.le_refl _) kf.lt)
                  have hsz2 := kf2.lt
                  have rP2 := oP2.rd
                  clear hg3 o1f oPf b1f oP2
                  have HGN : Hid (GoodJ L k) := Lib.hid (HYES.out ⟨by rw [HGe.out]; exact hgg, by rw [← HMe.out]; exact hpp, fun h => absurd h hl⟩)
                  have hw1 : genJ L = g := by rw [HGe.out, hgg]
                  have hw2 : (((posJ L + (k + 1)) % 4294967296 : Nat) : Int) = 0 := by have := HMe.out; omega
                  have HW : Hid (wantC L (k + 1) = #[.int .u64 (g : Nat), .int .u32 0, .int .i64 0]) := Lib.hid (by rw [wantC_succ, hw1, hw2])
                  clear hw1 hw2
                  have HPN : Hid (k + 1 < n → posJ L + (k + 1) < 4294967296) := Lib.hid (by
                    intro h
                    exact absurd h hl)
                  clear fp fg hpm hgg hpp
                  go_upto_region 17 with fail
                  generalize ((((W4.setCell ⟨w.heap.size, 2, none⟩ (.int .i64 (f : Nat))).setCell ⟨w.heap.size, 0, none⟩ (.int .u64 (g : Nat))).setCell ⟨w.heap.size, 1, none⟩ (.int .u32 0)).setCell ⟨w.heap.size, 2, none⟩ (.int .i64 0)) = W7 at kf2 o2 b2 hsz2 rP2 ⊢
                  go_wp2_with (at_builtin; refine wpList_app8 _ rfl _ _ rfl (w.heap.size + 1) A1 N c1 _ rfl o2 _ P f cP _ rfl rP2 (by omega) (by omega) ?_)
                  intro A9 c9 w9 o9 b9
                  have b10 := b2.trans (b9.mono (Nat.le_succ _))
                  have kw9 : Blk w9 w.heap.size _ _ := (b9.block _ (Nat.lt_succ_self _)).trans kf2
                  rw [← HJ.out] at o9
                  clear b9 b2 rP2 o2 kf2
                  go_wp2_with fail
                  go_roundw
                  case rel => exact ⟨k + 1, A9, N + f, c9, by rw [HL.out]; omega, by go_num, rfl, o9, by omega, all_step HG.out HGN.out, by rw [HW.out]; exact kw9, b10, by rw [HL.out]; exact fun _ => HPN.out⟩
                  case measure => simp [intOf]; omega
                · have ew : IntKind.u32.wrap ((p : Int) + 1) = (p : Int) + 1 := IntWalk.u32_in _ (by omega)
                  have ep : ((p : Int) == 4294967295) = false := by rw [beq_eq_false_iff_ne]; omega
                  have kf2 := blk_set3 kf (.int .u64 (g : Nat)) (.int .u32 ((p : Int) + 1)) (.int .i64 0)
                  have hg3 := grown_set3 (W4.setCell ⟨w.heap.size, 2, none⟩ (.int .i64 (f : Nat))) w.heap.size (.int .u64 (g : Nat)) (.int .u32 ((p : Int) + 1)) (.int .i64 0)
                  have o2 := o1f.kept hg3 (Nat.lt_succ_self _)
                  have oP2 := oPf.kept hg3 hlw2
                  have b2 := b1f.trans (below_grown hg3 (Nat.le_refl _) kf.lt)
                  have hsz2 := kf2.lt
                  have rP2 := oP2.rd
                  clear hg3 o1f oPf b1f oP2
                  have HGN : Hid (GoodJ L k) := Lib.hid (HYES.out ⟨by rw [HGe.out]; exact hgg, by rw [← HMe.out]; exact hpp, fun h => absurd h hl⟩)
                  have hw1 : genJ L = g := by rw [HGe.out, hgg]
                  have hw2 : (((posJ L + (k + 1)) % 4294967296 : Nat) : Int) = (p : Int) + 1 := by have := HMe.out; omega
                  have HW : Hid (wantC L (k + 1) = #[.int .u64 (g : Nat), .int .u32 ((p : Int) + 1), .int .i64 0]) := Lib.hid (by rw [wantC_succ, hw1, hw2])
                  clear hw1 hw2
                  have HPN : Hid (k + 1 < n → posJ L + (k + 1) < 4294967296) := Lib.hid (by
                    intro h
                    have := HMe.out; omega)
                  clear fp fg hpm hgg hpp
                  go_upto_region 17 with fail
                  generalize ((((W4.setCell ⟨w.heap.size, 2, none⟩ (.int .i64 (f : Nat))).setCell ⟨w.heap.size, 0, none⟩ (.int .u64 (g : Nat))).setCell ⟨w.heap.size, 1, none⟩ (.int .u32 ((p : Int) + 1))).setCell ⟨w.heap.size, 2, none⟩ (.int .i64 0)) = W7 at kf2 o2 b2 hsz2 rP2 ⊢
                  go_wp2_with (at_builtin; refine wpList_app8 _ rfl _ _ rfl (w.heap.size + 1) A1 N c1 _ rfl o2 _ P f cP _ rfl rP2 (by omega) (by omega) ?_)
                  intro A9 c9 w9 o9 b9
                  have b10 := b2.trans (b9.mono (Nat.le_succ _))
                  have kw9 : Blk w9 w.heap.size _ _ := (b9.block _ (Nat.lt_succ_self _)).trans kf2
                  rw [← HJ.out] at o9
                  clear b9 b2 rP2 o2 kf2
                  go_wp2_with fail
                  go_roundw
                  case rel => exact ⟨k + 1, A9, N + f, c9, by rw [HL.out]; omega, by go_num, rfl, o9, by omega, all_step HG.out HGN.out, by rw [HW.out]; exact kw9, b10, by rw [HL.out]; exact fun _ => HPN.out⟩
                  case measure => simp [intOf]; omega
              · have epm : ((p : Int) == (m : Int)) = false := by rw [beq_eq_false_iff_ne]; omega
                have HNN : Hid (¬ GoodJ L k) := Lib.hid (HNO.out (fun h => hpp (by rw [h.2.2.1, HMe.out])))
                clear hgg hpp
                go_wp2_with fail
                go_ret2
                exact Or.inr ⟨⟨k, by rw [HL.out]; exact hlt, HNN.out⟩, rfl, b1f⟩
            · have eg : ((g : Int) == (G : Int)) = false := by rw [beq_eq_false_iff_ne]; omega
              have HNN : Hid (¬ GoodJ L k) := Lib.hid (HNO.out (fun h => hgg (by rw [h.2.1, HGe.out])))
              clear hgg
              go_wp2_with fail
              go_ret2
              exact Or.inr ⟨⟨k, by rw [HL.out]; exact hlt, HNN.out⟩, rfl, b1f⟩
      · have hR := fun W => read_no x HX64.out W hok
        unfold ReadNo at hR
        have HR := Lib.hid hR
        clear hR
        go_wp2_with (refine wpl_loadA _ rfl _ rfl wr.heap.size x rfl k7' HX64.out ?_)
        refine (HR.out _).mono ?_
        rintro e w3 ⟨rfl, b3⟩
        replace b1 := below_step b1 b3
        replace b1 := below_a1' b1 (.cells #[.int .u64 0, .int .u32 0, .int .i64 0] 49)
        clear b3 HR kw o1 k7' HG
        go_wp2_with fail
        go_ret2
        exact Or.inr ⟨⟨k, by rw [HL.out]; exact hlt, goodJ_no HX.out fun h => hok h.1⟩, rfl, b1⟩
    · obtain rfl : k = n := by omega
      go_wp2_with fail
      go_ret2
      have hjl : (joinB L k).length = N := o1.len
      refine Or.inl ⟨by rw [HL.out]; exact HG.out, ?_⟩
      rw [HL.out]
      refine ⟨A1, c1, by rw [hjl]; rfl, by rw [hjl]; exact o1.more (Nat.le_succ _), b1⟩
end Go.Proofs.Ytkemlpcfijfaeaa

/- icehouselaw20.all: all requests that bytes tell, in whatever pieces. Conditions: typed in each theorem. -/
import Derived.Test.YtnghmgbmflcngaaArq
import Derived.Test.YtnghmgbmflcngaaSlc
import Derived.Deep.DeepCutAuto
namespace Go.Proofs.Ytnghmgbmflcngaa
set_option linter.unusedVariables false
open Go.RowKit

/-- What 'all' answers. -/
def AllQ (l : List UInt8) (w : World) (e : Ending) (w' : World) : Prop :=
  ∃ (OA : Option Addr) (oc : Nat), e = .returned (.tuple #[.slice OA (tell l).1.length oc, .int .i64 ((tell l).2.1.length : Nat), .int .i64 (if (tell l).2.2 = true then 300 else 0)]) ∧ AllE w (tell l).1 OA (tell l).1.length oc w'
def lenV : Value → Nat
  | .slice _ n _ => n
  | _ => 0
/-- Next, written out. -/
def NxY (g N n : Nat) (A : Option Addr) (l : List UInt8) (q : RQ) (w : World) (e : Ending) (w' : World) : Prop :=
  ∃ (K2 V2 : Option Addr) (nk2 ck2 nv2 cv2 : Nat) (X3 : Option Addr) (cx3 : Nat), e = .returned (.tuple #[.agg #[.int .i64 q.op, .bool q.qt, .bool q.fu, .int .i64 q.bd, .int .u32 (q.oq : Nat), .slice K2 nk2 ck2, .slice V2 nv2 cv2, .int .u32 (q.fl : Nat), .int .u32 (q.ex : Nat), .int .u64 (q.cs : Nat), .int .u64 (q.dl : Nat), .int .u64 (q.ni : Nat)], .bool true, .int .i64 0]) ∧ PrsA w' g X3 (n - N) cx3 (l.drop N) false ∧
    Own w' w.heap.size K2 nk2 ck2 q.lk ∧ Own w' w.heap.size V2 nv2 cv2 q.lv ∧ w.grownBy w' (some g) ∧ (Value.slice X3 0 0).ownBlock = (Value.slice A 0 0).ownBlock
/-- The outer state, and the inner one: the bytes fed so far are la. -/
def AllO (l la : List UInt8) (g : Nat) (w : World) (OA : Option Addr) (on oc : Nat) (wr : World) : Prop := ∃ (u : List UInt8) (qs : List RQ) (A : Option Addr) (cq : Nat) (L : List (List Value)), tell la = (qs, u, false) ∧ AllJ g w u qs A cq OA on oc L wr
def AllN (la : List UInt8) (g : Nat) (w : World) (OA : Option Addr) (on oc : Nat) (wr : World) : Prop := ∃ (u : List UInt8) (qs : List RQ) (A : Option Addr) (cq : Nat) (L : List (List Value)), tell la = (qs ++ (tell u).1, (tell u).2) ∧ AllJ g w u qs A cq OA on oc L wr
theorem take_more {l : List UInt8} {a k : Nat} : l.take a ++ (l.drop a).take k = l.take (a + k) := (List.take_add ..).symm
theorem allN_start {la p u : List UInt8} {qs : List RQ} (h : tell la = (qs, u, false)) : tell (la ++ p) = (qs ++ (tell (u ++ p)).1, (tell (u ++ p)).2) := by
  have := tell_app (l := la) (by rw [h]) p
  rw [h] at this
  exact this
theorem allN_bad {l la u : List UInt8} {qs : List RQ} {k : Nat} (hl : la = l.take k) (h : tell la = (qs ++ (tell u).1, (tell u).2)) (hx : nxt u = none) : tell l = (qs, [], true) := by
  rw [tell_bad hx, List.append_nil] at h
  have h2 := tell_app_bad (l := la) (by rw [h]) (l.drop k)
  rw [hl, List.take_append_drop, ← hl, h] at h2
  exact h2
theorem allN_no {la u : List UInt8} {qs : List RQ} (h : tell la = (qs ++ (tell u).1, (tell u).2)) (hx : nxt u = some none) : tell la = (qs, u, false) := by
  rw [tell_no hx, List.append_nil] at h
  exact h
theorem allN_yes {la u : List UInt8} {qs : List RQ} {q : RQ} {N : Nat} (h : tell la = (qs ++ (tell u).1, (tell u).2)) (hx : nxt u = some (some (q, N))) : tell la = ((qs ++ [q]) ++ (tell (u.drop N)).1, (tell (u.drop N)).2) ∧ qs.length + 1 ≤ (tell la).1.length := by
  rw [tell_yes hx] at h
  refine ⟨by rw [h, List.append_assoc]; rfl, ?_⟩
  rw [h]
  simp only [List.length_append, List.length_cons]
  omega
set_option maxRecDepth 100000 in
set_option maxHeartbeats 8000000 in
theorem all_any (A : Option Addr) (n c : Nat) (l : List UInt8) (AC : Option Addr) (nc cc : Nat) (lc : List UInt8) (w : World) (rb : Rd w w.heap.size A n c l) (rc : Rd w w.heap.size AC nc cc lc) (hn : n ≤ 65536) (hnc : nc ≤ 9223372036854775800) :
    Calls Try.prog 50 #[.slice A n c, .slice AC nc cc] w (AllQ l w) := by
  have HB := Lib.hid rb
  have HC := Lib.hid rc
  have HL := Lib.hid rb.len
  have HN := Lib.hid hn
  have HNC := Lib.hid hnc
  have HNB : Hid (∀ W g n c A u, PrsA W g A n c u false → nxt u = none → Calls Try.prog 49 #[.pointer (some ⟨g, 0, none⟩)] W fun e w' => e = .returned (.tuple #[.agg #[.int .i64 0, .bool false, .bool false, .int .i64 0, .int .u32 0, .slice none 0 0, .slice none 0 0, .int .u32 0, .int .u32 0, .int .u64 0, .int .u64 0, .int .u64 0], .bool false, .int .i64 300]) ∧ PrsA w' g none 0 0 [] true ∧ W.grownBy w' (some g)) := Lib.hid (fun W g n c A u h hx => next_bad' g n c A u W h hx)
  have HNW : Hid (∀ W g n c A u, PrsA W g A n c u false → nxt u = some none → Calls Try.prog 49 #[.pointer (some ⟨g, 0, none⟩)] W fun e w' => e = .returned (.tuple #[.agg #[.int .i64 0, .bool false, .bool false, .int .i64 0, .int .u32 0, .slice none 0 0, .slice none 0 0, .int .u32 0, .int .u32 0, .int .u64 0, .int .u64 0, .int .u64 0], .bool false, .int .i64 0]) ∧ Below W.heap.size W w') := Lib.hid (fun W g n c A u h hx => next_wait' g n c A u W h hx)
  have HNY : Hid (∀ W g n c A u q N, PrsA W g A n c u false → nxt u = some (some (q, N)) → Calls Try.prog 49 #[.pointer (some ⟨g, 0, none⟩)] W (NxY g N n A u q W)) := Lib.hid (fun W g n c A u q N h hx => next_yes' g n c A u W h q N hx)
  clear rb rc hn hnc
  go_enter Try.func50, Try.ntmps50
  go_wp2_with fail
  refine (new_any w).mono ?_
  rintro e w1 ⟨rfl, hp, b⟩
  have HJ := AllJ.start hp b
  clear hp b
  generalize hgg : w.heap.size = g at HJ ⊢
  go_wp2_with fail
  go_loopw [8, 9, 10, 11, 12, 13, 14] (fun s at_ i x1 x2 x3 x4 wr => ∃ (a j on oc : Nat) (OA : Option Addr), s = .slice OA on oc ∧ at_ = .int .i64 (a : Nat) ∧ i = .int .i64 (j : Nat) ∧ a ≤ n ∧ j ≤ nc ∧ AllO l (l.take a) g w OA on oc wr) (fun _ _ i _ _ _ _ _ => nc + 1 - (intOf i).toNat)
  case atStart => exact ⟨0, 0, 0, 0, none, rfl, rfl, rfl, Nat.zero_le _, Nat.zero_le _, [], [], none, 0, [], by rw [List.take_zero, tell_no nxt_nil], HJ⟩
  case round =>
    obtain ⟨a, j, on, oc, OA, rfl, rfl, rfl, ha, hj, hO⟩ := hrel
    have hge : Hid (w.heap.size ≤ g) := Lib.hid (by omega)
    obtain ⟨u, qs, A1, cq, L, hT, HJ⟩ := hO
    have HS : IntKind.i64.wrap ((n : Int) - (a : Int)) = (n : Int) - (a : Int) := IntWalk.i64_in _ (by have := HN.out; omega)
    go_upto_if 25 with fail
    go_cut [11] (fun v wx => ∃ k : Nat, v = .int .i64 (k : Nat) ∧ a + k ≤ n ∧ (¬ j < nc → a + k = n) ∧ wx = wr)
    case first =>
      by_cases hlt : j < nc
      · have hlt' : ((j : Int) < (nc : Int)) = True := eq_true (by omega)
        obtain ⟨ad, x, hAD, _, _, hcell⟩ := (HC.out.below HJ.bel).at_ hlt
        subst hAD
        have WX : IntKind.i64.wrap (x.toNat : Int) = (x.toNat : Int) := IntWalk.i64_in _ (by have := x.toNat_lt; omega)
        have HLT := Lib.hid hlt
        clear hlt
        go_wp2_with fail
        all_goals
          go_meet
          first
          | exact ⟨x.toNat, rfl, by omega, fun h => absurd HLT.out h, rfl⟩
          | exact ⟨n - a, by rw [show (n : Int) - (a : Int) = ((n - a : Nat) : Int) from by omega], by omega, fun _ => by omega, rfl⟩
      · have hlt' : ((j : Int) < (nc : Int)) = False := eq_false (by omega)
        go_wp2_with fail
        go_meet
        exact ⟨n - a, by rw [show (n : Int) - (a : Int) = ((n - a : Nat) : Int) from by omega], by omega, fun _ => by omega, rfl⟩
    case rest =>
      obtain ⟨k, rfl, hk, hkn, rfl⟩ := hcut
      clear HS
      have HK : IntKind.i64.wrap ((a : Int) + (k : Int)) = (a : Int) + (k : Int) := IntWalk.i64_in _ (by have := HN.out; omega)
      obtain ⟨X, cx, HX, hX2⟩ := slc_lh HB.out a (a + k) (a : Int) ((a : Int) + (k : Int)) rfl (by omega) (by omega) hk
      have rX := hX2 _ _ (HB.out.below HJ.bel)
      rw [Nat.add_sub_cancel_left] at rX
      simp only [Nat.add_sub_cancel_left] at HX
      clear hX2
      obtain ⟨p, hp⟩ : ∃ p, p = (l.take (a + k)).drop a := ⟨_, rfl⟩
      rw [← hp] at rX
      obtain ⟨la, hla⟩ : ∃ la, la = l.take (a + k) := ⟨_, rfl⟩
      have happ : l.take a ++ p = la := by
        have h1 := List.take_append_drop a (l.take (a + k))
        rw [List.take_take, Nat.min_eq_left (by omega)] at h1
        rw [hp, hla]
        exact h1
      have hul : u.length ≤ a := by
        have := @tell_len (l.take a)
        rw [hT, List.length_take] at this
        exact Nat.le_trans this (by omega)
      have hT2 := allN_start (p := p) hT
      rw [happ] at hT2
      have HLA := Lib.hid hla
      clear hp hla happ hT
      go_wp2_with fail
      refine (feed_ok g u.length cq A1 u X k cx p _ HJ.prs (rX.more HJ.bel.size) (by have := HN.out; omega)).mono ?_
      rintro e w2 ⟨A2, c2, rfl, hp2, tk, hA2⟩
      have HJ2 := HJ.feed rX.len hp2 tk hA2
      clear HJ hp2 tk hA2 rX hul HX
      generalize u ++ p = u2 at hT2 HJ2
      have hTT : qs.length ≤ (tell la).1.length := by rw [hT2, List.length_append]; omega
      have hTN : Hid ((tell la).1.length ≤ 65536) := Lib.hid (by
        have h1 := @tell_few la
        have h2 := HLA.out
        have h3 : la.length ≤ n := by rw [h2, List.length_take]; omega
        have := HN.out; omega)
      obtain ⟨TT, hTe⟩ : ∃ TT, TT = (tell la).1.length := ⟨_, rfl⟩
      have HTE := Lib.hid hTe
      rw [← hTe] at hTT hTN
      clear hTe
      have honT : Hid (on ≤ TT) := Lib.hid (by have := HJ2.len; omega)
      clear hTT
      go_wp2_with fail
      go_loopw [8, 12, 13, 14] (fun s x2 x3 x4 wr => ∃ (on oc : Nat) (OA : Option Addr), s = .slice OA on oc ∧ on ≤ TT ∧ AllN la g w OA on oc wr) (fun s _ _ _ _ => TT - lenV s)
      case atStart => exact ⟨on, oc, OA, rfl, honT.out, u2, qs, A2, c2, L, hT2, HJ2⟩
      case round =>
        clear HJ2 hT2 honT
        obtain ⟨on', oc', OA', rfl, hon, u3, qs3, A3, c3, L3, hT3, HJ3⟩ := hrel
        cases hx : nxt u3 with
        | none =>
          have hTl := allN_bad HLA.out hT3 hx
          go_wp2_with fail
          refine (HNB.out _ _ u3.length c3 A3 u3 HJ3.prs hx).mono ?_
          rintro e w3 ⟨rfl, hp3, gg⟩
          have HE := HJ3.bad gg
          have HL3 := Lib.hid HJ3.len
          clear gg HJ3 hT3 hx
          go_upto_region 12 with fail
          have ba := below_a1' (Below.refl w3.heap.size w3) (.cells #[.int .i64 0, .bool false, .bool false, .int .i64 0, .int .u32 0, .slice none 0 0, .slice none 0 0, .int .u32 0, .int .u32 0, .int .u64 0, .int .u64 0, .int .u64 0] 26)
          replace hp3 := hp3.step ba
          replace HE := HE.below ba
          clear ba
          generalize w3.alloc (.cells #[.int .i64 0, .bool false, .bool false, .int .i64 0, .int .u32 0, .slice none 0 0, .slice none 0 0, .int .u32 0, .int .u32 0, .int .u64 0, .int .u64 0, .int .u64 0] 26) = W3 at hp3 HE ⊢
          go_wp2_with fail
          refine (held_any g 0 0 none [] true W3 hp3).mono ?_
          rintro e w4 ⟨rfl, rfl⟩
          go_wp2_with fail
          refine bodyPost_ret (v := .tuple #[.slice OA' on' oc', .int .i64 0, .int .i64 300]) (by simp [results, Try.results50, go_sem]) rfl ?_
          have e1 : on' = (tell l).1.length := by rw [hTl]; exact HL3.out
          refine ⟨OA', oc', ?_, ?_⟩
          · rw [← e1, hTl]; rfl
          · rw [← e1, hTl]; exact HE
        | some o =>
          cases o with
          | none =>
            have hTl := allN_no hT3 hx
            go_wp2_with fail
            refine (HNW.out _ _ u3.length c3 A3 u3 HJ3.prs hx).mono ?_
            rintro e w3 ⟨rfl, b3⟩
            replace HJ3 := HJ3.below b3
            have HL3 := Lib.hid HJ3.len
            clear b3 hT3 hx
            go_upto_region 12 with fail
            have ba := below_a1' (Below.refl w3.heap.size w3) (.cells #[.int .i64 0, .bool false, .bool false, .int .i64 0, .int .u32 0, .slice none 0 0, .slice none 0 0, .int .u32 0, .int .u32 0, .int .u64 0, .int .u64 0, .int .u64 0] 26)
            replace HJ3 := HJ3.below ba
            clear ba
            generalize w3.alloc (.cells #[.int .i64 0, .bool false, .bool false, .int .i64 0, .int .u32 0, .slice none 0 0, .slice none 0 0, .int .u32 0, .int .u32 0, .int .u64 0, .int .u64 0, .int .u64 0] 26) = W3 at HJ3 ⊢
            have HTL := Lib.hid hTl
            clear hTl
            by_cases hend : a + k = n ∧ nc ≤ j
            · have h1 : (((a : Int) + (k : Int)) == (n : Int)) = true := beq_iff_eq.2 (by omega)
              have h2 : ((a : Int) + (k : Int) = (n : Int)) = True := eq_true (by omega)
              have h3 : ((nc : Int) ≤ (j : Int)) = True := eq_true (by omega)
              have HE := Lib.hid hend
              clear hend
              go_wp2_with fail
              refine (held_any g u3.length c3 A3 u3 false W3 HJ3.prs).mono ?_
              rintro e w4 ⟨rfl, rfl⟩
              go_wp2_with fail
              refine bodyPost_ret (v := .tuple #[.slice OA' on' oc', .int .i64 (u3.length : Nat), .int .i64 0]) (by simp [results, Try.results50, go_sem]) rfl ?_
              have e0 : la = l := by rw [HLA.out, HE.out.1, ← HL.out]; exact List.take_length
              have hTl := HTL.out
              rw [e0] at hTl
              have e1 : on' = (tell l).1.length := by rw [hTl]; exact HL3.out
              refine ⟨OA', oc', ?_, ?_⟩
              · rw [← e1, hTl]; rfl
              · rw [← e1, hTl]; exact HJ3.done
            · have HJP : IntKind.i64.wrap ((j : Int) + 1) = (j : Int) + 1 := IntWalk.i64_in _ (by have := HNC.out; omega)
              have HJL : Hid (j + 1 ≤ nc) := Lib.hid (by
                by_cases e : a + k = n
                · omega
                · by_cases e2 : j < nc
                  · omega
                  · exact absurd (hkn e2) e)
              by_cases e : a + k = n
              · have h1 : (((a : Int) + (k : Int)) == (n : Int)) = true := beq_iff_eq.2 (by omega)
                have h2 : ((a : Int) + (k : Int) = (n : Int)) = True := eq_true (by omega)
                have h3 : ((nc : Int) ≤ (j : Int)) = False := eq_false (by have := HJL.out; omega)
                clear e hend hkn
                go_wp2_with fail
                go_roundw
                case rel => exact ⟨a + k, j + 1, on', oc', OA', rfl, by first | rfl | go_num, by first | rfl | go_num, hk, HJL.out, u3, qs3, A3, c3, L3, by rw [← HLA.out]; exact HTL.out, HJ3⟩
                case measure => have := HJL.out; simp [intOf]; omega
              · have h1 : (((a : Int) + (k : Int)) == (n : Int)) = false := by rw [beq_eq_false_iff_ne]; omega
                have h2 : ((a : Int) + (k : Int) = (n : Int)) = False := eq_false (by omega)
                clear e hend hkn
                go_wp2_with fail
                go_roundw
                case rel => exact ⟨a + k, j + 1, on', oc', OA', rfl, by first | rfl | go_num, by first | rfl | go_num, hk, HJL.out, u3, qs3, A3, c3, L3, by rw [← HLA.out]; exact HTL.out, HJ3⟩
                case measure => have := HJL.out; simp [intOf]; omega
          | some pr =>
            obtain ⟨q, N⟩ := pr
            obtain ⟨hTy, hTq⟩ := allN_yes hT3 hx
            have hNs := nxt_step hx
            go_wp2_with fail
            refine (HNY.out _ _ u3.length c3 A3 u3 q N HJ3.prs hx).mono ?_
            rintro e w3 ⟨K2, V2, nk2, ck2, nv2, cv2, X3, cx3, rfl, hp3, oK, oV, gg, hX⟩
            have HT := HJ3.told hNs.2 hp3 oK oV gg hX
            have HL3 := Lib.hid (show on' + 1 ≤ TT by rw [HTE.out, HJ3.len]; exact hTq)
            have HCL := Lib.hid HJ3.len
            have HTY := Lib.hid hTy
            clear hTy hTq hNs
            clear hp3 oK oV gg hX hT3 hx HJ3
            go_upto_region 12 with fail
            have kq := Blk.new w3 #[.int .i64 q.op, .bool q.qt, .bool q.fu, .int .i64 q.bd, .int .u32 (q.oq : Nat), .slice K2 nk2 ck2, .slice V2 nv2 cv2, .int .u32 (q.fl : Nat), .int .u32 (q.ex : Nat), .int .u64 (q.cs : Nat), .int .u64 (q.dl : Nat), .int .u64 (q.ni : Nat)] 26
            have ba := below_a1' (Below.refl w3.heap.size w3) (.cells #[.int .i64 q.op, .bool q.qt, .bool q.fu, .int .i64 q.bd, .int .u32 (q.oq : Nat), .slice K2 nk2 ck2, .slice V2 nv2 cv2, .int .u32 (q.fl : Nat), .int .u32 (q.ex : Nat), .int .u64 (q.cs : Nat), .int .u64 (q.dl : Nat), .int .u64 (q.ni : Nat)] 26)
            replace HT := HT.below ba
            clear ba
            generalize w3.alloc (.cells #[.int .i64 q.op, .bool q.qt, .bool q.fu, .int .i64 q.bd, .int .u32 (q.oq : Nat), .slice K2 nk2 ck2, .slice V2 nv2 cv2, .int .u32 (q.fl : Nat), .int .u32 (q.ex : Nat), .int .u64 (q.cs : Nat), .int .u64 (q.dl : Nat), .int .u64 (q.ni : Nat)] 26) = W3 at HT kq ⊢
            generalize w3.heap.size = gq at kq ⊢
            obtain ⟨z0, z1, z2, z3, z4, z5, z6, z7, z8, z9, z10, z11⟩ := box12 kq
            have HTN2 := hTN.out
            have rn := Rz.new1 W3 #[.int .i64 q.op, .bool q.qt, .bool q.fu, .int .i64 q.bd, .int .u32 (q.oq : Nat), .slice K2 nk2 ck2, .slice V2 nv2 cv2, .int .u32 (q.fl : Nat), .int .u32 (q.ex : Nat), .int .u64 (q.cs : Nat), .int .u64 (q.dl : Nat), .int .u64 (q.ni : Nat)] 26 12 rfl
            have HT4 := HT.below (below_a1' (Below.refl W3.heap.size W3) (.cells #[.int .i64 q.op, .bool q.qt, .bool q.fu, .int .i64 q.bd, .int .u32 (q.oq : Nat), .slice K2 nk2 ck2, .slice V2 nv2 cv2, .int .u32 (q.fl : Nat), .int .u32 (q.ex : Nat), .int .u64 (q.cs : Nat), .int .u64 (q.dl : Nat), .int .u64 (q.ni : Nat)] 26))
            have hsz4 : g + 1 ≤ (W3.alloc (.cells #[.int .i64 q.op, .bool q.qt, .bool q.fu, .int .i64 q.bd, .int .u32 (q.oq : Nat), .slice K2 nk2 ck2, .slice V2 nv2 cv2, .int .u32 (q.fl : Nat), .int .u32 (q.ex : Nat), .int .u64 (q.cs : Nat), .int .u64 (q.dl : Nat), .int .u64 (q.ni : Nat)] 26)).heap.size := HT4.1.lt
            have h1c := TRow.ones HT4.2
            go_wp2_with (first | refine wpl_bsR _ rfl _ rfl #[.int .i64 q.op, .bool q.qt, .bool q.fu, .int .i64 q.bd, .int .u32 (q.oq : Nat), .slice K2 nk2 ck2, .slice V2 nv2 cv2, .int .u32 (q.fl : Nat), .int .u32 (q.ex : Nat), .int .u64 (q.cs : Nat), .int .u64 (q.dl : Nat), .int .u64 (q.ni : Nat)] rfl rfl ?_ | (at_builtin; refine wpl_appR _ rfl _ _ rfl (g + 1) OA' on' oc' L3.flatten rfl HT4.1.oz _ _ 1 1 _ rfl rn h1c (by have := HL3.out; omega) hsz4 ?_))
            intro OA5 oc5 w5 ho5 gg5 hA5
            have HJ5 := HT4.snoc ho5 gg5 (by rw [World.size_alloc]; exact hA5)
            clear HT HT4 ho5 gg5 hA5 rn h1c hsz4 kq z0 z1 z2 z3 z4 z5 z6 z7 z8 z9 z10 z11 HTN2
            go_wp2_with fail
            go_roundw
            case rel => exact ⟨on' + 1, oc5, OA5, rfl, HL3.out, u3.drop N, qs3 ++ [q], X3, cx3, L3 ++ [_], HTY.out, HJ5⟩
            case measure => have := HL3.out; simp [lenV]; omega
end Go.Proofs.Ytnghmgbmflcngaa

/- FrameAgain: what is got, put, is the bytes that it had, whatever bytes. Conditions: those of the given row alone. -/
import Derived.Test.YtbmlpeomcagcjaaFru
namespace Go.Proofs.Ytbmlpeomcagcjaa
set_option linter.unusedVariables false
open Go.RowKit Go.ChangeShapes Go.WideShapes Go.ChangeAt

theorem high_fld {l : List UInt8} {o k : Nat} (h : o + k ≤ l.length) : highB (fld l o k) k = (l.drop o).take k :=
  highB_numB k _ (by rw [List.length_take, List.length_drop]; omega)
theorem one_fld {l : List UInt8} {o : Nat} (h : o + 1 ≤ l.length) : [UInt8.ofNat (fld l o 1)] = (l.drop o).take 1 := by
  rw [← high_fld h]; rfl
theorem take_on (l : List UInt8) (o k : Nat) : l.take o ++ (l.drop o).take k = l.take (o + k) := (List.take_add ..).symm
theorem hd_take {l : List UInt8} (h : 24 ≤ l.length) : hdB (fld l 0 1) (fld l 1 1) (fld l 2 2) (fld l 4 1) (fld l 5 1) (fld l 6 2) (fld l 8 4) (fld l 12 4) (fld l 16 8) = l.take 24 := by
  unfold hdB
  have e2 : ∀ a b : UInt8, [a, b] = [a] ++ [b] := fun _ _ => rfl
  rw [e2, e2, one_fld (o := 0) (by omega), one_fld (o := 1) (by omega), one_fld (o := 4) (by omega), one_fld (o := 5) (by omega), high_fld (by omega), high_fld (by omega), high_fld (by omega), high_fld (by omega), high_fld (by omega)]
  have e0 : (l.drop 0).take 1 = l.take 1 := rfl
  simp only [← List.append_assoc, e0, take_on]
theorem all_take (l : List UInt8) (el kl bl : Nat) (h : kl + el ≤ bl) : l.take 24 ++ (l.drop 24).take el ++ ((l.drop 24).drop el).take kl ++ ((l.drop 24).take bl).drop (el + kl) = l.take (24 + bl) := by
  rw [List.append_assoc (l.take 24), take_on, List.append_assoc]
  have e : (l.drop 24).take (el + kl) = ((l.drop 24).take bl).take (el + kl) := by rw [List.take_take, Nat.min_eq_left (by omega)]
  rw [e, List.take_append_drop, take_on]
def AgainQ (w : World) (e : Ending) (w' : World) : Prop := e = .returned (.bool true) ∧ Below w.heap.size w w'
set_option maxRecDepth 20000 in
set_option maxHeartbeats 4000000 in
theorem again_no (A : Option Addr) (n c : Nat) (l : List UInt8) (w : World) (r : Rd w w.heap.size A n c l) (err : Int) (he : err ≠ 0)
    (hG : ∀ w, Rd w w.heap.size A n c l → Calls Try.prog 40 #[.slice A n c] w (GetNo err w)) :
    Calls Try.prog 14 #[.slice A n c] w (AgainQ w) := by
  have HG := Lib.hid hG
  have tn := neInt' he
  clear hG he
  go_enter Try.func14, Try.ntmps14
  go_wp2_with fail
  refine (wakes19 _).mono ?_
  rintro e w1 ⟨rfl, b⟩
  go_wp2_with fail
  refine (HG.out _ ((r.below b).more b.size)).mono ?_
  rintro e w2 ⟨rfl, b2⟩
  replace b := below_step b b2
  unfold zeroFr
  go_wp2_with fail
  go_ret
  exact ⟨rfl, below_a1' b _⟩
set_option maxRecDepth 20000 in
set_option maxHeartbeats 4000000 in
theorem again_ok (A : Option Addr) (n c : Nat) (l : List UInt8) (w : World) (r : Rd w w.heap.size A n c l) (he : needE l = 0) (hs : needN l ≤ n) :
    Calls Try.prog 14 #[.slice A n c] w (AgainQ w) := by
  obtain ⟨hn, hm, hb⟩ := need_0 he
  have e2 : needN l = 24 + fld l 8 4 := by unfold needN; rw [if_pos he]
  have hle := mayB_le hm
  have hln := r.len
  have hG := fun w (r : Rd w w.heap.size A n c l) => get_ok A n c l w r he hs
  unfold GetOk at hG
  have hP := fun (X K V : Option Addr) (cx ck cv : Nat) (w : World) (rx : Rd w w.heap.size X (fld l 4 1) cx ((l.drop 24).take (fld l 4 1))) (rk : Rd w w.heap.size K (fld l 2 2) ck (((l.drop 24).drop (fld l 4 1)).take (fld l 2 2))) (rv : Rd w w.heap.size V (fld l 8 4 - (fld l 4 1 + fld l 2 2)) cv (((l.drop 24).take (fld l 8 4)).drop (fld l 4 1 + fld l 2 2))) =>
    put_O (fld l 0 1) (fld l 1 1) (fld l 2 2) (fld l 4 1) (fld l 5 1) (fld l 6 2) (fld l 8 4) (fld l 12 4) (fld l 16 8) (hdF_of l) X K V (fld l 4 1) cx (fld l 2 2) ck (fld l 8 4 - (fld l 4 1 + fld l 2 2)) cv (by omega) hm rfl rfl (by omega) hb _ _ _ w rx rk rv
  rw [hd_take hn, all_take l _ _ _ hle, show 24 + fld l 4 1 + fld l 2 2 + (fld l 8 4 - (fld l 4 1 + fld l 2 2)) = 24 + fld l 8 4 from by omega] at hP
  rw [e2] at hs
  clear he hm hb e2 hle hn hln
  generalize fld l 0 1 = mg at hG hP
  generalize fld l 1 1 = op at hG hP
  generalize fld l 2 2 = kl at hG hP
  generalize fld l 4 1 = el at hG hP
  generalize fld l 5 1 = ty at hG hP
  generalize fld l 6 2 = st at hG hP
  generalize fld l 8 4 = bl at hG hP hs
  generalize fld l 12 4 = oq at hG hP
  generalize fld l 16 8 = cas at hG hP
  obtain ⟨S, cs, HS, hS⟩ := slc_h r (24 + bl) (24 + (bl : Int)) (by omega) hs
  generalize hLX : (l.drop 24).take el = LX at hG hP
  generalize hLK : ((l.drop 24).drop el).take kl = LK at hG hP
  generalize hLV : ((l.drop 24).take bl).drop (el + kl) = LV at hG hP
  clear hLX hLK hLV
  generalize l.take (24 + bl) = LT at hP hS
  have HG := Lib.hid hG
  have HP := Lib.hid hP
  have HR := Lib.hid hS
  have hs' : 24 + (bl : Int) ≤ (n : Int) := by omega
  have E24 : ((24 + bl : Nat) : Int) = 24 + (bl : Int) := by omega
  clear hG hP hS
  go_enter Try.func14, Try.ntmps14
  go_wp2_with fail
  refine (wakes19 _).mono ?_
  rintro e w1 ⟨rfl, b⟩
  go_wp2_with fail
  refine (HG.out _ ((r.below b).more b.size)).mono ?_
  rintro e w2 ⟨X, cx, K, ck, V, cv, rfl, rX, rK, rV, b2⟩
  replace b := below_step b b2
  rw [E24]
  have ba := below_a1' (Below.refl w2.heap.size w2) (.cells (frC mg op kl el ty st bl oq cas (.slice X el cx) (.slice K kl ck) (.slice V (bl - (el + kl)) cv)) 29)
  replace b := below_step b ba
  have HPW := Lib.hid (HP.out X K V cx ck cv _ ((rX.below ba).more ba.size) ((rK.below ba).more ba.size) ((rV.below ba).more ba.size))
  clear ba rX rK rV HP HG b2
  unfold frV frC at *
  go_wp2_with fail
  refine HPW.out.mono ?_
  rintro e w3 ⟨C, cc, rfl, oC, b3⟩
  replace b := below_step b b3
  have rS := HR.out _ _ (r.below b)
  have HE := Lib.hid (equal_any C S (24 + bl) cc (24 + bl) cs _ LT LT _ oC.rd (rS.more b.size))
  rw [eqB_rfl] at HE
  clear HPW HR oC rS b3
  go_wp2_with fail
  refine HE.out.mono ?_
  rintro e w4 ⟨rfl, hq⟩
  have bq := quiet_self hq
  replace b := below_step b bq
  clear hq
  go_wp2_with fail
  go_ret
  exact ⟨rfl, b⟩
theorem walk_frameAgain (A : Option Addr) (n c : Nat) (l : List UInt8) (w : World) (r : Rd w w.heap.size A n c l) (hc : c ≤ 140737488351232) :
    Calls Try.prog 14 #[.slice A n c] w fun e w' => e = .returned (.bool true) ∧ Below w.heap.size w w' := by
  by_cases he : needE l = 0
  · by_cases hs : needN l ≤ n
    · exact again_ok A n c l w r he hs
    · exact again_no A n c l w r 9 (by decide) fun w r => get_short A n c l w r he (by omega)
  · exact again_no A n c l w r (needE l) he fun w r => get_no A n c l w r he


set_option maxRecDepth 100000 in
theorem lifted_frameAgain (os : Os) (started : os.Started) (H : Type) (enc : TypeId × Value → H) :
    ReturnsInHanded {} Try.checked os 14 .any (Rows.frameAgainSpec.pre6 enc Try.prog Try.f14 Rows.frameAgainRow.domain false) (Rows.frameAgainSpec.post enc Try.prog Try.f14 false true false false) := by
  refine returnsInHanded_of_change_sized (C := Try.checked) own started (by kernel_rfl) Try.func14
    (ChangeSpec.witness6 (enc := enc) (C := Try.checked) false ⟨#[], #[.slice none 0 0], []⟩ 8 (by kernel_rfl) (by kernel_rfl) (by kernel_rfl) (by kernel_rfl)) ?_
  intro W base args ds gs before hval0 hW hcnd hsz0 _
  have hval : ∀ (j : Nat) t v, Try.f14.params[j]? = some t → args[j]? = some v → Value.okWide Try.prog W .any base t v := hval0
  have hsz : (DataW.weightsEach Try.prog (Try.f14.params.toList ++ Rows.frameAgainSpec.plain.varTypes Try.prog) (ds ++ gs)).all (· ≤ reachBytes) = true := hsz0
  have hW' := hW
  obtain ⟨p, q, hA0, hV, rfl, hfz, hnd⟩ := hW
  have hA : DataW.TrodAll enc Try.prog W 0 (fun _ => true) true Try.f14.params.toList args.toList ds p := hA0
  rw [Try.params14] at hA hval hsz
  obtain ⟨v0, vs0, d0, ds0, p0, q0, hargs, rfl, rfl, h0, t0⟩ := trodAll_cons hA
  obtain ⟨rfl, rfl, rfl⟩ := trodAll_nil t0
  obtain rfl : args = #[v0] := by cases args; simp_all
  obtain ⟨rfl, rfl⟩ := trodVars_none hV
  have k0 := h0
  obtain ⟨A0, n0, c0, l0, rfl, r0, y0⟩ := open_bytes (hval 0 27 v0 rfl rfl) h0
  have s0 := y0 (weights_of hsz (j := 0) rfl rfl)
  clear hA0 hval0
  refine (walk_frameAgain A0 n0 c0 l0 W r0 s0).mono fun e W' ⟨he, bel⟩ => ?_
  subst he
  exact ⟨_, rfl, _, _, _, [], _, [], hW', trodAll_mk1 (shut_bool Try.underlying4 _), (trodAll_cons_mk (Below.trod laidOut (by kernel_rfl) (of_decide_eq_true (by kernel_rfl)) k0 bel (trod_places k0)) trodAll_mk0), rfl, bel.frame _, fun h => by cases h⟩

theorem over_frameAgain : Rows.frameAgainRow.holds Try.pinned (OpenSpec.ofChange Rows.frameAgainSpec) :=
  OpenClaim.holds_of_wide 14 Try.f14 rfl rfl rfl rfl rfl rfl rfl ⟨rfl, rfl, rfl, rfl, rfl⟩ rfl rfl rfl rfl rfl (by kernel_rfl) Try.func14 (by kernel_rfl)
    (of_decide_eq_true (by kernel_rfl)) (by unfold Func.isWrapper; first | (rw [if_pos (by decide +kernel)]; kernel_rfl) | (rw [if_neg (by decide +kernel)]; exact ⟨rfl, rfl⟩))
    (fun os started H enc _ => lifted_frameAgain os started H enc)

/-- The statement. -/
theorem frameAgain_holds : Rows.FrameAgainSaid := over_frameAgain
#print axioms frameAgain_holds

end Go.Proofs.Ytbmlpeomcagcjaa

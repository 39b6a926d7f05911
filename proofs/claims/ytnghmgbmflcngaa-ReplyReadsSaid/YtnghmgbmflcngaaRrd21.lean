/- icehouseref21.Read. Conditions: typed in each theorem. -/
import Derived.Test.YtnghmgbmflcngaaRdh
import Derived.Test.YtnghmgbmflcngaaStra
import Derived.Test.YtnghmgbmflcngaaRbs
import Derived.Test.YtnghmgbmflcngaaRrt
import Derived.Deep.CutBlock
import Derived.Deep.DeepCutAuto
namespace Go.Proofs.Ytnghmgbmflcngaa
set_option linter.unusedVariables false
open Go.RowKit

theorem lastV_y {op : Int} {lv : List UInt8} {st : Int} (h : st = 0) (h2 : isRead op = true ∨ op = 11) : lastV op lv st = lv := by unfold lastV; rw [if_pos ⟨h, h2⟩]
theorem lastV_n {op : Int} {lv : List UInt8} {st : Int} (h : st ≠ 0 ∨ (isRead op = false ∧ op ≠ 11)) : lastV op lv st = [] := by
  unfold lastV
  rw [if_neg]
  rintro ⟨h1, h2⟩
  rcases h with h | ⟨h3, h4⟩
  · exact h h1
  · rcases h2 with h2 | h2
    · rw [h2] at h3; cases h3
    · exact h4 h2
theorem lastF_y {op : Int} {lx : List UInt8} {st : Int} (h : st = 0) (h2 : isRead op = true) (h3 : lx.length = 4) : lastF' op lx st = numQ lx % 4294967296 := by unfold lastF'; rw [if_pos ⟨h, h2, h3⟩]
theorem lastF_n {op : Int} {lx : List UInt8} {st : Int} (h : lx.length ≠ 4) : lastF' op lx st = 0 := by unfold lastF'; rw [if_neg (fun hh => h hh.2.2)]
theorem lastF_s {op : Int} {lx : List UInt8} {st : Int} (h : st ≠ 0) : lastF' op lx st = 0 := by unfold lastF'; rw [if_neg (fun hh => h hh.1)]
theorem lastF_r {op : Int} {lx : List UInt8} {st : Int} (h : isRead op = false) : lastF' op lx st = 0 := by unfold lastF'; rw [if_neg (fun hh => by rw [hh.2.1] at h; cases h)]
theorem lastN_y {op : Int} {lv : List UInt8} {st : Int} (h : st = 0) (h2 : isCount op = true) (h3 : lv.length = 8) : lastN' op lv st = numQ lv := by unfold lastN'; rw [if_pos ⟨h, h2, h3⟩]
theorem lastN_n {op : Int} {lv : List UInt8} {st : Int} (h : lv.length ≠ 8) : lastN' op lv st = 0 := by unfold lastN'; rw [if_neg (fun hh => h hh.2.2)]
theorem lastN_s {op : Int} {lv : List UInt8} {st : Int} (h : st ≠ 0) : lastN' op lv st = 0 := by unfold lastN'; rw [if_neg (fun hh => h hh.1)]
theorem lastN_c {op : Int} {lv : List UInt8} {st : Int} (h : isCount op = false) : lastN' op lv st = 0 := by unfold lastN'; rw [if_neg (fun hh => by rw [hh.2.1] at h; cases h)]
theorem lastN_r {op : Int} {lv : List UInt8} {st : Int} (h : isRead op = true) : lastN' op lv st = 0 := lastN_c (by cases hc : isCount op with | false => rfl | true => rw [isCount_read hc] at h; cases h)
set_option maxRecDepth 100000 in
set_option maxHeartbeats 4000000 in
theorem rread_any (op : Int) (qt fu : Bool) (bd : Int) (oq fl ex cs dl ni : Nat) (KA : Option Addr) (nk ck : Nat) (lk : List UInt8) (VQ : Value) (A : Option Addr) (n c : Nat) (l : List UInt8) (w : World) (rK : Rd w w.heap.size KA nk ck lk) (rb : Rd w w.heap.size A n c l) (hn : n ≤ 1000000) (hnk : nk ≤ 1000000) (hoq : oq < 4294967296) :
    Calls Try.prog 60 #[.agg #[.int .i64 op, .bool qt, .bool fu, .int .i64 bd, .int .u32 (oq : Nat), .slice KA nk ck, VQ, .int .u32 (fl : Nat), .int .u32 (ex : Nat), .int .u64 (cs : Nat), .int .u64 (dl : Nat), .int .u64 (ni : Nat)], .slice A n c] w (RfP op qt fu oq lk l w) := by
  have k1 := (Blk.new w #[.int .i64 op, .bool qt, .bool fu, .int .i64 bd, .int .u32 (oq : Nat), .slice KA nk ck, VQ, .int .u32 (fl : Nat), .int .u32 (ex : Nat), .int .u64 (cs : Nat), .int .u64 (dl : Nat), .int .u64 (ni : Nat)] 26).alloc (.cells #[.int .i64 0, .slice none 0 0, .int .u32 0, .int .u64 0, .int .u64 0, .slice none 0 0, .bool false] 29)
  have k2 := Blk.new (w.alloc (.cells #[.int .i64 op, .bool qt, .bool fu, .int .i64 bd, .int .u32 (oq : Nat), .slice KA nk ck, VQ, .int .u32 (fl : Nat), .int .u32 (ex : Nat), .int .u64 (cs : Nat), .int .u64 (dl : Nat), .int .u64 (ni : Nat)] 26)) #[.int .i64 0, .slice none 0 0, .int .u32 0, .int .u64 0, .int .u64 0, .slice none 0 0, .bool false] 29
  have b := below_a1' (below_a1' (Below.refl w.heap.size w) (.cells #[.int .i64 op, .bool qt, .bool fu, .int .i64 bd, .int .u32 (oq : Nat), .slice KA nk ck, VQ, .int .u32 (fl : Nat), .int .u32 (ex : Nat), .int .u64 (cs : Nat), .int .u64 (dl : Nat), .int .u64 (ni : Nat)] 26)) (.cells #[.int .i64 0, .slice none 0 0, .int .u32 0, .int .u64 0, .int .u64 0, .slice none 0 0, .bool false] 29)
  rw [World.size_alloc] at k2
  have HRB := Lib.hid rb
  have HN := Lib.hid hn
  have HL := Lib.hid rb.len
  have HRK := Lib.hid rK
  have HNK := Lib.hid hnk
  have HOQ := Lib.hid hoq
  clear rb hn rK hnk hoq
  go_enter Try.func60, Try.ntmps60
  go_upto_region 1 with fail
  generalize (w.alloc (.cells #[.int .i64 op, .bool qt, .bool fu, .int .i64 bd, .int .u32 (oq : Nat), .slice KA nk ck, VQ, .int .u32 (fl : Nat), .int .u32 (ex : Nat), .int .u64 (cs : Nat), .int .u64 (dl : Nat), .int .u64 (ni : Nat)] 26)).alloc (.cells #[.int .i64 0, .slice none 0 0, .int .u32 0, .int .u64 0, .int .u64 0, .slice none 0 0, .bool false] 29) = W0 at k1 k2 b ⊢
  go_upto_region 2 with fail
  have k7 := Blk.new W0 #[.int .i64 0, .slice none 0 0, .int .u32 0, .int .u64 0, .int .u64 0, .slice none 0 0, .bool false] 29
  have ba := below_a1' (Below.refl W0.heap.size W0) (.cells #[.int .i64 0, .slice none 0 0, .int .u32 0, .int .u64 0, .int .u64 0, .slice none 0 0, .bool false] 29)
  have hg7 := k2.lt
  replace k1 := k1.step ba
  replace k2 := k2.step ba
  replace b := below_step b ba
  clear ba
  generalize W0.alloc (.cells #[.int .i64 0, .slice none 0 0, .int .u32 0, .int .u64 0, .int .u64 0, .slice none 0 0, .bool false] 29) = W1 at k1 k2 k7 b ⊢
  generalize W0.heap.size = g7 at k7 hg7 ⊢
  have hG := GthI.start op l
  go_upto_block 0 with fail
  go_cut [8] (fun s8 wx => ∃ (N : Nat) (SL : List (ByteArray × ByteArray)) (f : List UInt8), s8 = .int .i64 (N : Nat) ∧ gather op 17 l = .done N SL f ∧ RdFA op f SL g7 wx ∧ Blk wx w.heap.size #[.int .i64 op, .bool qt, .bool fu, .int .i64 bd, .int .u32 (oq : Nat), .slice KA nk ck, VQ, .int .u32 (fl : Nat), .int .u32 (ex : Nat), .int .u64 (cs : Nat), .int .u64 (dl : Nat), .int .u64 (ni : Nat)] 26 ∧ Blk wx (w.heap.size + 1) #[.int .i64 0, .slice none 0 0, .int .u32 0, .int .u64 0, .int .u64 0, .slice none 0 0, .bool false] 29 ∧ Below w.heap.size w wx)
  case first =>
    go_wp2_with fail
    go_loopw [8, 9, 10, 11, 12] (fun s8 s9 _ _ _ wr => ∃ (n' at_ : Nat) (SL : List (ByteArray × ByteArray)) (SA : Option Addr) (sc : Nat), s8 = .int .i64 (at_ : Nat) ∧ s9 = .int .i64 (n' : Nat) ∧ GthI op l n' at_ SL ∧ Blk wr g7 #[.int .i64 0, .slice none 0 0, .int .u32 0, .int .u64 0, .int .u64 0, .slice SA n' sc, .bool false] 29 ∧ Oz wr (g7 + 1) 96 2 SA n' sc (SL.map stCells).flatten ∧ Blk wr w.heap.size #[.int .i64 op, .bool qt, .bool fu, .int .i64 bd, .int .u32 (oq : Nat), .slice KA nk ck, VQ, .int .u32 (fl : Nat), .int .u32 (ex : Nat), .int .u64 (cs : Nat), .int .u64 (dl : Nat), .int .u64 (ni : Nat)] 26 ∧ Blk wr (w.heap.size + 1) #[.int .i64 0, .slice none 0 0, .int .u32 0, .int .u64 0, .int .u64 0, .slice none 0 0, .bool false] 29 ∧ Below w.heap.size w wr) (fun _ s9 _ _ _ _ => 18 - (intOf s9).toNat)
    case atStart => exact ⟨0, 0, [], none, 0, rfl, rfl, hG, k7, Oz.nil _ _ _ _, k1, k2, b⟩
    case round =>
      clear hG k7 k1 k2 b
      obtain ⟨n', at_, SL, SA, sc, rfl, rfl, hG, k7, oS, k1, k2, b⟩ := hrel
      have hat : at_ ≤ n := by rw [← HL.out]; exact hG.2.1
      obtain ⟨X, cx, HX, hX⟩ := slc_l HRB.out at_ (at_ : Int) rfl hat
      by_cases h9 : getEr (l.drop at_) = 9
      · have he : getEr (l.drop at_) ≠ 0 := by rw [h9]; decide
        have H9 := Lib.hid h9
        clear h9
        have HGE : Hid (Calls Try.prog 106 #[.slice X (n - at_) cx] wr (GetNo 9 wr)) := Lib.hid (by have h := rget_gno X (n - at_) cx _ wr (hX _ _ (HRB.out.step b)) he; first | (rw [H9.out] at h; exact h) | (rw [← HER.out] at h; exact h))
        clear he
        go_wp2_with fail
        refine HGE.out.mono ?_
        rintro e w5 ⟨rfl, b5⟩
        unfold zeroFr
        clear HGE oS
        replace k1 := k1.step b5
        replace k2 := k2.step b5
        replace k7 := k7.step b5
        replace b := below_step b b5
        clear b5
        go_upto_region 6 with fail
        have ba := below_a1' (Below.refl w5.heap.size w5) (.cells #[.int .u8 0, .int .u8 0, .int .u16 0, .int .u8 0, .int .u8 0, .int .u16 0, .int .u32 0, .int .u32 0, .int .u64 0, .slice none 0 0, .slice none 0 0, .slice none 0 0] 61)
        replace k1 := k1.step ba
        replace k2 := k2.step ba
        replace k7 := k7.step ba
        replace b := below_step b ba
        clear ba
        generalize w5.alloc (.cells #[.int .u8 0, .int .u8 0, .int .u16 0, .int .u8 0, .int .u8 0, .int .u16 0, .int .u32 0, .int .u32 0, .int .u64 0, .slice none 0 0, .slice none 0 0, .slice none 0 0] 61) = W6 at k1 k2 k7 b ⊢
        have kf := blk_put7 k2 (.int .i64 0) (.slice none 0 0) (.int .u32 0) (.int .u64 0) (.int .u64 0) (.slice none 0 0) (.bool false)
        have gs := grown_put7 W6 (w.heap.size + 1) (.int .i64 0) (.slice none 0 0) (.int .u32 0) (.int .u64 0) (.int .u64 0) (.slice none 0 0) (.bool false)
        have bf := b.trans (below_grown gs (Nat.le_succ _) k2.lt)
        obtain ⟨q0, q1, q2, q3, q4, q5, q6⟩ := box7 k2
        have y0 := k2.frozen 0
        have y1 := k2.frozen 1
        have y2 := k2.frozen 2
        have y3 := k2.frozen 3
        have y4 := k2.frozen 4
        have y5 := k2.frozen 5
        have y6 := k2.frozen 6
        obtain ⟨t0, t1, t2, t3, t4, t5, t6⟩ := box7 kf
        have HBF := Lib.hid bf
        have HG := Lib.hid (hG.short H9.out)
        clear kf gs bf b k1 k2 k7 hG
        go_wp2_with fail
        refine bodyPost_ret (v := .tuple #[.agg #[.int .i64 0, .slice none 0 0, .int .u32 0, .int .u64 0, .int .u64 0, .slice none 0 0, .bool false], .int .i64 0, .int .i64 9]) (by simp [results, Try.results60, go_sem, t0, t1, t2, t3, t4, t5, t6]) rfl ?_
        exact rfp_short HG.out HBF.out
      · by_cases he : getEr (l.drop at_) ≠ 0
        · have H9 := Lib.hid h9
          have HE := Lib.hid he
          have e9 : (getEr (l.drop at_) == 9) = false := beq_eq_false_iff_ne.2 h9
          have e0 : (getEr (l.drop at_) != 0) = true := bne_iff_ne.2 he
          obtain ⟨er, her⟩ : ∃ x, x = getEr (l.drop at_) := ⟨_, rfl⟩
          rw [← her] at e9 e0
          have HER := Lib.hid her
          clear h9 her
          have HGE : Hid (Calls Try.prog 106 #[.slice X (n - at_) cx] wr (GetNo er wr)) := Lib.hid (by have h := rget_gno X (n - at_) cx _ wr (hX _ _ (HRB.out.step b)) he; first | (rw [H9.out] at h; exact h) | (rw [← HER.out] at h; exact h))
          clear he
          go_wp2_with fail
          refine HGE.out.mono ?_
          rintro e w5 ⟨rfl, b5⟩
          unfold zeroFr
          clear HGE oS
          replace k1 := k1.step b5
          replace k2 := k2.step b5
          replace k7 := k7.step b5
          replace b := below_step b b5
          clear b5
          go_upto_region 6 with fail
          have ba := below_a1' (Below.refl w5.heap.size w5) (.cells #[.int .u8 0, .int .u8 0, .int .u16 0, .int .u8 0, .int .u8 0, .int .u16 0, .int .u32 0, .int .u32 0, .int .u64 0, .slice none 0 0, .slice none 0 0, .slice none 0 0] 61)
          replace k1 := k1.step ba
          replace k2 := k2.step ba
          replace k7 := k7.step ba
          replace b := below_step b ba
          clear ba
          generalize w5.alloc (.cells #[.int .u8 0, .int .u8 0, .int .u16 0, .int .u8 0, .int .u8 0, .int .u16 0, .int .u32 0, .int .u32 0, .int .u64 0, .slice none 0 0, .slice none 0 0, .slice none 0 0] 61) = W6 at k1 k2 k7 b ⊢
          have kf := blk_put7 k2 (.int .i64 0) (.slice none 0 0) (.int .u32 0) (.int .u64 0) (.int .u64 0) (.slice none 0 0) (.bool false)
          have gs := grown_put7 W6 (w.heap.size + 1) (.int .i64 0) (.slice none 0 0) (.int .u32 0) (.int .u64 0) (.int .u64 0) (.slice none 0 0) (.bool false)
          have bf := b.trans (below_grown gs (Nat.le_succ _) k2.lt)
          obtain ⟨q0, q1, q2, q3, q4, q5, q6⟩ := box7 k2
          have y0 := k2.frozen 0
          have y1 := k2.frozen 1
          have y2 := k2.frozen 2
          have y3 := k2.frozen 3
          have y4 := k2.frozen 4
          have y5 := k2.frozen 5
          have y6 := k2.frozen 6
          obtain ⟨t0, t1, t2, t3, t4, t5, t6⟩ := box7 kf
          have HBF := Lib.hid bf
          have HG := Lib.hid (hG.bad H9.out (Or.inl HE.out))
          clear kf gs bf b k1 k2 k7 hG
          go_wp2_with fail
          refine bodyPost_ret (v := .tuple #[.agg #[.int .i64 0, .slice none 0 0, .int .u32 0, .int .u64 0, .int .u64 0, .slice none 0 0, .bool false], .int .i64 0, .int .i64 310]) (by simp [results, Try.results60, go_sem, t0, t1, t2, t3, t4, t5, t6]) rfl ?_
          exact rfp_bad HG.out HBF.out
        · have he0 : getEr (l.drop at_) = 0 := Classical.byContradiction he
          obtain ⟨mg, fop, kl, el, ty, st, bl, foq, fc, fnv, NF, hGN, -, hget⟩ := get_go (l.drop at_) he0
          have HE0 := Lib.hid he0
          have H9 := Lib.hid h9
          have HGN := Lib.hid hGN
          have HGE := Lib.hid (hget X (n - at_) cx wr (hX _ _ (HRB.out.step b)))
          clear he0 h9 he hGN hget hX
          go_wp2_with fail
          refine HGE.out.mono ?_
          rintro e w5 ⟨FX, fcx, FK, fck, FV, fcv, rfl, rFX, rFK, rFV, b5⟩
          clear HGE
          replace k1 := k1.step b5
          replace k2 := k2.step b5
          replace k7 := k7.step b5
          replace oS := oS.step b5
          replace b := below_step b b5
          clear b5
          have h7F := k7.lt
          go_upto_region 6 with fail
          have kF := Blk.new w5 #[.int .u8 (mg : Nat), .int .u8 (fop : Nat), .int .u16 (kl : Nat), .int .u8 (el : Nat), .int .u8 (ty : Nat), .int .u16 (st : Nat), .int .u32 (bl : Nat), .int .u32 (foq : Nat), .int .u64 (fc : Nat), .slice FX el fcx, .slice FK kl fck, .slice FV fnv fcv] 61
          have ba := below_a1' (Below.refl w5.heap.size w5) (.cells #[.int .u8 (mg : Nat), .int .u8 (fop : Nat), .int .u16 (kl : Nat), .int .u8 (el : Nat), .int .u8 (ty : Nat), .int .u16 (st : Nat), .int .u32 (bl : Nat), .int .u32 (foq : Nat), .int .u64 (fc : Nat), .slice FX el fcx, .slice FK kl fck, .slice FV fnv fcv] 61)
          replace k1 := k1.step ba
          replace k2 := k2.step ba
          replace k7 := k7.step ba
          replace oS := oS.step ba
          replace rFX := rFX.step ba
          replace rFK := rFK.step ba
          replace rFV := rFV.step ba
          replace b := below_step b ba
          clear ba
          generalize w5.alloc (.cells #[.int .u8 (mg : Nat), .int .u8 (fop : Nat), .int .u16 (kl : Nat), .int .u8 (el : Nat), .int .u8 (ty : Nat), .int .u16 (st : Nat), .int .u32 (bl : Nat), .int .u32 (foq : Nat), .int .u64 (fc : Nat), .slice FX el fcx, .slice FK kl fck, .slice FV fnv fcv] 61) = W6 at k1 k2 k7 oS rFX rFK rFV kF b ⊢
          generalize w5.heap.size = gF at kF h7F ⊢
          by_cases h17 : n' = 17
          · have e17 : ((n' : Int) == 17) = true := beq_iff_eq.2 (by omega)
            have H17 := Lib.hid h17
            clear h17 kF rFX rFK rFV oS
            have kf := blk_put7 k2 (.int .i64 0) (.slice none 0 0) (.int .u32 0) (.int .u64 0) (.int .u64 0) (.slice none 0 0) (.bool false)
            have gs := grown_put7 W6 (w.heap.size + 1) (.int .i64 0) (.slice none 0 0) (.int .u32 0) (.int .u64 0) (.int .u64 0) (.slice none 0 0) (.bool false)
            have bf := b.trans (below_grown gs (Nat.le_succ _) k2.lt)
            obtain ⟨q0, q1, q2, q3, q4, q5, q6⟩ := box7 k2
            have y0 := k2.frozen 0
            have y1 := k2.frozen 1
            have y2 := k2.frozen 2
            have y3 := k2.frozen 3
            have y4 := k2.frozen 4
            have y5 := k2.frozen 5
            have y6 := k2.frozen 6
            obtain ⟨t0, t1, t2, t3, t4, t5, t6⟩ := box7 kf
            have HBF := Lib.hid bf
            have HG := Lib.hid (hG.bad H9.out (Or.inr H17.out))
            clear kf gs bf b k1 k2 k7 hG
            go_wp2_with fail
            refine bodyPost_ret (v := .tuple #[.agg #[.int .i64 0, .slice none 0 0, .int .u32 0, .int .u64 0, .int .u64 0, .slice none 0 0, .bool false], .int .i64 0, .int .i64 310]) (by simp [results, Try.results60, go_sem, t0, t1, t2, t3, t4, t5, t6]) rfl ?_
            exact rfp_bad HG.out HBF.out
          · have e17 : ((n' : Int) == 17) = false := beq_eq_false_iff_ne.2 (by omega)
            have H17 := Lib.hid h17
            have hNL := HGN.out.hle
            rw [List.length_drop] at hNL
            have HNB : Hid (at_ + NF ≤ n) := Lib.hid (by have h1 := HL.out; have h2 := hat; omega)
            have w1 : IntKind.i64.wrap ((at_ : Int) + (NF : Int)) = (at_ : Int) + (NF : Int) := IntWalk.i64_in _ (by have h1 := HNB.out; have h2 := HN.out; omega)
            have w1' : wrap64 ((at_ : Int) + (NF : Int)) = (at_ : Int) + (NF : Int) := IntWalk.wrap64_in _ (by have h1 := HNB.out; have h2 := HN.out; omega)
            clear h17 hNL hat
            have hst5 : st < 65536 := by rw [HGN.out.hst]; exact fld_lt _ _ _
            have w2 : IntKind.i64.wrap (st : Int) = (st : Int) := IntWalk.i64_in _ (by omega)
            clear hst5
            by_cases hs : isStatF op (l.drop at_) = true
            · obtain ⟨h16, hst0, hkl⟩ := isStat_is hs
              have es : ((st : Int) == 0) = true := by rw [beq_iff_eq, HGN.out.hst, hst0]; rfl
              have ek : (0 < kl) = True := eq_true (by rw [HGN.out.hkl]; exact hkl)
              have e16 : (op == 16) = true := beq_iff_eq.2 h16
              have HS0 := Lib.hid (And.intro hs (show st = 0 by rw [HGN.out.hst]; exact hst0))
              clear hs h16 hst0 hkl
              have c1 := run_strA rFK
              have c2 := run_strA rFV
              have ba := below_a1' (Below.refl W6.heap.size W6) (.cells #[.string ⟨(gK (l.drop at_)).toArray⟩, .string ⟨(gV (l.drop at_)).toArray⟩] 96)
              have rn := Rz.new1 W6 #[.string ⟨(gK (l.drop at_)).toArray⟩, .string ⟨(gV (l.drop at_)).toArray⟩] 96 2 rfl
              have oS9 := oS.step ba
              have k1b := k1.step ba
              have k2b := k2.step ba
              have k7b := k7.step ba
              have b9 := below_step b ba
              have hsz9 : g7 + 1 ≤ (W6.alloc (.cells #[.string ⟨(gK (l.drop at_)).toArray⟩, .string ⟨(gV (l.drop at_)).toArray⟩] 96)).heap.size := k7b.lt
              have hnn : n' + 1 ≤ 200000000000 := by have := hG.1; omega
              clear ba oS k2 b rFX rFK rFV
              obtain ⟨p0, p1, p2, p3, p4, p5, p6⟩ := box7 k7
              obtain ⟨q0, q1, q2, q3, q4, q5, q6, q7, q8, q9, q10, q11⟩ := box12 k1
              obtain ⟨c0, c1, c2, c3, c4, c5, c6, c7, c8, c9, c10, c11⟩ := box12 kF
              go_wp2_with (first | refine wpl_bsSt _ rfl _ rfl #[.string ⟨(gK (l.drop at_)).toArray⟩, .string ⟨(gV (l.drop at_)).toArray⟩] rfl rfl ?_ | (at_builtin; refine wpl_appSt _ rfl _ _ rfl (g7 + 1) SA n' sc _ rfl oS9 _ _ 1 1 _ rfl rn ?_ hnn hsz9 ?_))
              · exact ⟨rfl, rfl⟩
              · intro SA2 sc2 w9 o9 gg9 hA9
                have b99 := (Below.refl (g7 + 1) _).grown gg9 hsz9 (fun k hk => (World.ownsRow.lt oS9 k hk).1)
                have k79 : Blk w9 g7 #[.int .i64 0, .slice none 0 0, .int .u32 0, .int .u64 0, .int .u64 0, .slice SA n' sc, .bool false] 29 := (b99.block g7 (Nat.lt_succ_self _)).trans k7b
                have k19 := Eq.trans (b99.block _ (Nat.lt_succ_of_lt (Nat.lt_of_succ_lt hg7))) k1b
                have k29 := Eq.trans (b99.block _ (Nat.lt_succ_of_lt hg7)) k2b
                have bw9 := b9.trans (b99.mono (Nat.le_succ_of_le (Nat.le_of_lt (Nat.lt_of_succ_lt hg7))))
                have hfl : (SL.map stCells).flatten ++ [.string ⟨(gK (l.drop at_)).toArray⟩, .string ⟨(gV (l.drop at_)).toArray⟩] = ((SL ++ [statP (l.drop at_)]).map stCells).flatten := by rw [List.map_append, List.flatten_append]; rfl
                rw [hfl] at o9
                have kS := k79.set_ 5 (.slice SA2 (n' + 1) sc2)
                have gS := rdr_grown_set w9 g7 5 (.slice SA2 (n' + 1) sc2)
                have hGn := hG.next HE0.out H17.out HS0.out.1 (needN_ok HE0.out)
                rw [← HGN.out.hN] at hGn
                have HR := Lib.hid (And.intro hGn (And.intro kS (And.intro (ozk o9 gS (Nat.lt_succ_self _)) (And.intro (Blk.left k19 gS (Nat.ne_of_lt (Nat.lt_of_succ_lt hg7))) (And.intro (Blk.left k29 gS (Nat.ne_of_lt hg7)) (bw9.trans (below_grown gS (Nat.le_of_lt (Nat.lt_of_succ_lt hg7)) k79.lt)))))))
                have y5 := k79.frozen 5
                clear p0 p1 p2 p3 p4 p5 p6 q0 q1 q2 q3 q4 q5 q6 q7 q8 q9 q10 q11 c0 c1 c2 c3 c4 c5 c6 c7 c8 c9 c10 c11
                obtain ⟨p0, p1, p2, p3, p4, p5, p6⟩ := box7 k79
                have hn17 : n' ≤ 17 := hG.1
                have HNN := Lib.hid hn17
                have wj : IntKind.i64.wrap ((n' : Int) + 1) = (n' : Int) + 1 := IntWalk.i64_in _ (by omega)
                clear hGn kS gS k79 k19 k29 bw9 hfl o9 b99 gg9 hA9 hn17
                go_wp2_with fail
                go_roundw
                case rel => exact ⟨n' + 1, at_ + NF, SL ++ [statP (l.drop at_)], SA2, sc2, by first | rfl | go_num, by first | rfl | go_num, HR.out.1, HR.out.2.1, HR.out.2.2.1, HR.out.2.2.2.1, HR.out.2.2.2.2.1, HR.out.2.2.2.2.2⟩
                case measure => have h1 := HNN.out; have h2 := H17.out; simp [intOf]; omega
            · have hs0 : isStatF op (l.drop at_) = false := by cases h : isStatF op (l.drop at_) with | false => rfl | true => exact absurd h hs
              have hdone := hG.last HE0.out H17.out hs0
              rw [← HGN.out.hN] at hdone
              have hln := hG.2.2.1
              have HDN := Lib.hid (And.intro hdone hln)
              clear hs0 hdone hln hG rFK
              by_cases hst0 : st = 0
              · have HST : Hid ((st : Int) = 0) := Lib.hid (by omega)
                have es : ((st : Int) == 0) = true := beq_iff_eq.2 (by omega)
                by_cases h16 : op = 16
                · have e16 : (op == 16) = true := beq_iff_eq.2 h16
                  have ek : (0 < kl) = False := eq_false (fun h => hs (by unfold isStatF; rw [← HGN.out.hst, ← HGN.out.hkl]; simp [h16, hst0, h]))
                  have HNR : Hid (isRead op = false) := Lib.hid (by unfold isRead; rw [Bool.or_eq_false_iff]; exact ⟨beq_eq_false_iff_ne.2 (by omega), beq_eq_false_iff_ne.2 (by omega)⟩)
                  have HNC : Hid (isCount op = false) := Lib.hid (by unfold isCount; rw [Bool.or_eq_false_iff]; exact ⟨beq_eq_false_iff_ne.2 (by omega), beq_eq_false_iff_ne.2 (by omega)⟩)
                  have HCV : Hid (isRead op = false ∧ op ≠ 11) := Lib.hid ⟨by unfold isRead; rw [Bool.or_eq_false_iff]; exact ⟨beq_eq_false_iff_ne.2 (by omega), beq_eq_false_iff_ne.2 (by omega)⟩, by omega⟩
                  have e0 : (op == 0) = false := beq_eq_false_iff_ne.2 (by omega)
                  have e29 : (op == 29) = false := beq_eq_false_iff_ne.2 (by omega)
                  have e5 : (op == 5) = false := beq_eq_false_iff_ne.2 (by omega)
                  have e6 : (op == 6) = false := beq_eq_false_iff_ne.2 (by omega)
                  have e11 : (op == 11) = false := beq_eq_false_iff_ne.2 (by omega)
                  clear h16 hst0 hs
                  obtain ⟨p0, p1, p2, p3, p4, p5, p6⟩ := box7 k7
                  obtain ⟨q0, q1, q2, q3, q4, q5, q6, q7, q8, q9, q10, q11⟩ := box12 k1
                  obtain ⟨c0, c1, c2, c3, c4, c5, c6, c7, c8, c9, c10, c11⟩ := box12 kF
                  have y0 := k7.frozen 0
                  have y3 := k7.frozen 3
                  go_upto_region 15 with fail
                  clear p0 p1 p2 p3 p4 p5 p6 q0 q1 q2 q3 q4 q5 q6 q7 q8 q9 q10 q11 c0 c1 c2 c3 c4 c5 c6 c7 c8 c9 c10 c11
                  clear y0 y3
                  have gS := grown_trans (rdr_grown_set W6 g7 0 (.int .i64 (st : Nat))) (rdr_grown_set _ g7 3 (.int .u64 (fc : Nat)))
                  have kS := (k7.set_ 0 (.int .i64 (st : Nat))).set_ 3 (.int .u64 (fc : Nat))
                  replace oS := ozk oS gS (Nat.lt_succ_self _)
                  replace k1 := k1.left gS (Nat.ne_of_lt (Nat.lt_of_succ_lt hg7))
                  replace k2 := k2.left gS (Nat.ne_of_lt hg7)
                  replace kF := kF.left gS (Nat.ne_of_gt h7F)
                  replace rFX := (rd_ans rFX k7 gS (Nat.le_refl _)).more gS.size
                  replace rFV := (rd_ans rFV k7 gS (Nat.le_refl _)).more gS.size
                  replace b := b.trans (below_grown gS (Nat.le_of_lt (Nat.lt_of_succ_lt hg7)) k7.lt)
                  clear k7 gS
                  have k7 := kS
                  clear kS
                  generalize ((W6.setCell ⟨g7, 0, none⟩ (.int .i64 (st : Nat))).setCell ⟨g7, 3, none⟩ (.int .u64 (fc : Nat))) = W7 at oS k1 k2 kF rFX rFV b k7 ⊢
                  generalize W7 = W9 at oS k1 k2 kF rFX rFV b k7 ⊢
                  have HR : Hid (∃ (N : Nat) (SL' : List (ByteArray × ByteArray)) (f : List UInt8), (.int .i64 ((at_ : Int) + (NF : Int)) : Value) = .int .i64 (N : Nat) ∧ gather op 17 l = .done N SL' f ∧ RdFA op f SL' g7 W9 ∧ Blk W9 w.heap.size #[.int .i64 op, .bool qt, .bool fu, .int .i64 bd, .int .u32 (oq : Nat), .slice KA nk ck, VQ, .int .u32 (fl : Nat), .int .u32 (ex : Nat), .int .u64 (cs : Nat), .int .u64 (dl : Nat), .int .u64 (ni : Nat)] 26 ∧ Blk W9 (w.heap.size + 1) #[.int .i64 0, .slice none 0 0, .int .u32 0, .int .u64 0, .int .u64 0, .slice none 0 0, .bool false] 29 ∧ Below w.heap.size w W9) := Lib.hid ⟨at_ + NF, SL, l.drop at_, by go_num, HDN.out.1, rdf_mk k7 (Rd.nil _ _) oS.rz HGN.out.hst HGN.out.hcas HDN.out.2 (lastF_r HNR.out) (lastN_c HNC.out) (lastV_n (Or.inr HCV.out)), k1, k2, b⟩
                  obtain ⟨p0, p1, p2, p3, p4, p5, p6⟩ := box7 k7
                  obtain ⟨q0, q1, q2, q3, q4, q5, q6, q7, q8, q9, q10, q11⟩ := box12 k1
                  obtain ⟨c0, c1, c2, c3, c4, c5, c6, c7, c8, c9, c10, c11⟩ := box12 kF
                  go_wp2_with fail
                  go_meet
                  exact HR.out
                · by_cases o0 : op = 0
                  · have hop := o0
                    clear o0 h16 hst0 hs
                    have e16 : (op == 16) = false := beq_eq_false_iff_ne.2 (by omega)
                    have HRD : Hid (isRead op = true) := Lib.hid (by rw [hop]; decide)
                    have e0 : (op == 0) = true := beq_iff_eq.2 hop
                    have e29 : (op == 29) = false := beq_eq_false_iff_ne.2 (by omega)
                    have e5 : (op == 5) = false := beq_eq_false_iff_ne.2 (by omega)
                    have e6 : (op == 6) = false := beq_eq_false_iff_ne.2 (by omega)
                    have e11 : (op == 11) = false := beq_eq_false_iff_ne.2 (by omega)
                    obtain ⟨F, hF⟩ : ∃ F : Nat, F = numQ (gX (l.drop at_)) % 4294967296 := ⟨_, rfl⟩
                    have wF : IntKind.u32.wrap ((numQ (gX (l.drop at_)) : Nat) : Int) = (F : Int) := by rw [hF]; exact wrapu32 _
                    have HFE := Lib.hid hF
                    clear hF
                    clear hop
                    by_cases hel4 : el = 4
                    · have e4 : ((el : Int) == 4) = true := beq_iff_eq.2 (by omega)
                      have HEL : Hid ((gX (l.drop at_)).length = 4) := Lib.hid (by rw [rFX.len]; exact hel4)
                      clear hel4
                      obtain ⟨p0, p1, p2, p3, p4, p5, p6⟩ := box7 k7
                      obtain ⟨q0, q1, q2, q3, q4, q5, q6, q7, q8, q9, q10, q11⟩ := box12 k1
                      obtain ⟨c0, c1, c2, c3, c4, c5, c6, c7, c8, c9, c10, c11⟩ := box12 kF
                      have y0 := k7.frozen 0
                      have y3 := k7.frozen 3
                      go_upto_region 15 with fail
                      clear p0 p1 p2 p3 p4 p5 p6 q0 q1 q2 q3 q4 q5 q6 q7 q8 q9 q10 q11 c0 c1 c2 c3 c4 c5 c6 c7 c8 c9 c10 c11
                      clear y0 y3
                      have gS := grown_trans (rdr_grown_set W6 g7 0 (.int .i64 (st : Nat))) (rdr_grown_set _ g7 3 (.int .u64 (fc : Nat)))
                      have kS := (k7.set_ 0 (.int .i64 (st : Nat))).set_ 3 (.int .u64 (fc : Nat))
                      replace oS := ozk oS gS (Nat.lt_succ_self _)
                      replace k1 := k1.left gS (Nat.ne_of_lt (Nat.lt_of_succ_lt hg7))
                      replace k2 := k2.left gS (Nat.ne_of_lt hg7)
                      replace kF := kF.left gS (Nat.ne_of_gt h7F)
                      replace rFX := (rd_ans rFX k7 gS (Nat.le_refl _)).more gS.size
                      replace rFV := (rd_ans rFV k7 gS (Nat.le_refl _)).more gS.size
                      replace b := b.trans (below_grown gS (Nat.le_of_lt (Nat.lt_of_succ_lt hg7)) k7.lt)
                      clear k7 gS
                      have k7 := kS
                      clear kS
                      generalize ((W6.setCell ⟨g7, 0, none⟩ (.int .i64 (st : Nat))).setCell ⟨g7, 3, none⟩ (.int .u64 (fc : Nat))) = W7 at oS k1 k2 kF rFX rFV b k7 ⊢
                      obtain ⟨p0, p1, p2, p3, p4, p5, p6⟩ := box7 k7
                      obtain ⟨q0, q1, q2, q3, q4, q5, q6, q7, q8, q9, q10, q11⟩ := box12 k1
                      obtain ⟨c0, c1, c2, c3, c4, c5, c6, c7, c8, c9, c10, c11⟩ := box12 kF
                      have y1 := k7.frozen 1
                      go_upto_region 17 with fail
                      clear p0 p1 p2 p3 p4 p5 p6 q0 q1 q2 q3 q4 q5 q6 q7 q8 q9 q10 q11 c0 c1 c2 c3 c4 c5 c6 c7 c8 c9 c10 c11
                      clear y1
                      have gS := rdr_grown_set W7 g7 1 (.slice FV fnv fcv)
                      have kS := k7.set_ 1 (.slice FV fnv fcv)
                      replace oS := ozk oS gS (Nat.lt_succ_self _)
                      replace k1 := k1.left gS (Nat.ne_of_lt (Nat.lt_of_succ_lt hg7))
                      replace k2 := k2.left gS (Nat.ne_of_lt hg7)
                      replace kF := kF.left gS (Nat.ne_of_gt h7F)
                      replace rFX := (rd_ans rFX k7 gS (Nat.le_refl _)).more gS.size
                      replace rFV := (rd_ans rFV k7 gS (Nat.le_refl _)).more gS.size
                      replace b := b.trans (below_grown gS (Nat.le_of_lt (Nat.lt_of_succ_lt hg7)) k7.lt)
                      clear k7 gS
                      have k7 := kS
                      clear kS
                      generalize (W7.setCell ⟨g7, 1, none⟩ (.slice FV fnv fcv)) = W8 at oS k1 k2 kF rFX rFV b k7 ⊢
                      obtain ⟨p0, p1, p2, p3, p4, p5, p6⟩ := box7 k7
                      obtain ⟨q0, q1, q2, q3, q4, q5, q6, q7, q8, q9, q10, q11⟩ := box12 k1
                      obtain ⟨c0, c1, c2, c3, c4, c5, c6, c7, c8, c9, c10, c11⟩ := box12 kF
                      have y2 := k7.frozen 2
                      have HNM := Lib.hid (number_any FX el fcx W8.heap.size (gX (l.drop at_)) W8 rFX)
                      go_wp2_with fail
                      refine HNM.out.mono ?_
                      rintro e W8b ⟨rfl, rfl⟩
                      clear HNM
                      go_upto_region 19 with fail
                      clear p0 p1 p2 p3 p4 p5 p6 q0 q1 q2 q3 q4 q5 q6 q7 q8 q9 q10 q11 c0 c1 c2 c3 c4 c5 c6 c7 c8 c9 c10 c11
                      clear y2
                      have gS := rdr_grown_set W8 g7 2 (.int .u32 (F : Int))
                      have kS := k7.set_ 2 (.int .u32 (F : Int))
                      replace oS := ozk oS gS (Nat.lt_succ_self _)
                      replace k1 := k1.left gS (Nat.ne_of_lt (Nat.lt_of_succ_lt hg7))
                      replace k2 := k2.left gS (Nat.ne_of_lt hg7)
                      replace kF := kF.left gS (Nat.ne_of_gt h7F)
                      replace rFX := (rd_ans rFX k7 gS (Nat.le_refl _)).more gS.size
                      replace rFV := (rd_ans rFV k7 gS (Nat.le_refl _)).more gS.size
                      replace b := b.trans (below_grown gS (Nat.le_of_lt (Nat.lt_of_succ_lt hg7)) k7.lt)
                      clear k7 gS
                      have k7 := kS
                      clear kS
                      generalize (W8.setCell ⟨g7, 2, none⟩ (.int .u32 (F : Int))) = W9 at oS k1 k2 kF rFX rFV b k7 ⊢
                      have HR : Hid (∃ (N : Nat) (SL' : List (ByteArray × ByteArray)) (f : List UInt8), (.int .i64 ((at_ : Int) + (NF : Int)) : Value) = .int .i64 (N : Nat) ∧ gather op 17 l = .done N SL' f ∧ RdFA op f SL' g7 W9 ∧ Blk W9 w.heap.size #[.int .i64 op, .bool qt, .bool fu, .int .i64 bd, .int .u32 (oq : Nat), .slice KA nk ck, VQ, .int .u32 (fl : Nat), .int .u32 (ex : Nat), .int .u64 (cs : Nat), .int .u64 (dl : Nat), .int .u64 (ni : Nat)] 26 ∧ Blk W9 (w.heap.size + 1) #[.int .i64 0, .slice none 0 0, .int .u32 0, .int .u64 0, .int .u64 0, .slice none 0 0, .bool false] 29 ∧ Below w.heap.size w W9) := Lib.hid ⟨at_ + NF, SL, l.drop at_, by go_num, HDN.out.1, rdf_mk k7 rFV oS.rz HGN.out.hst HGN.out.hcas HDN.out.2 ((lastF_y (show (fld (l.drop at_) 6 2 : Int) = 0 by rw [← HGN.out.hst]; exact HST.out) HRD.out HEL.out).trans HFE.out.symm) (lastN_r HRD.out) (lastV_y (show (fld (l.drop at_) 6 2 : Int) = 0 by rw [← HGN.out.hst]; exact HST.out) (Or.inl HRD.out)), k1, k2, b⟩
                      obtain ⟨p0, p1, p2, p3, p4, p5, p6⟩ := box7 k7
                      obtain ⟨q0, q1, q2, q3, q4, q5, q6, q7, q8, q9, q10, q11⟩ := box12 k1
                      obtain ⟨c0, c1, c2, c3, c4, c5, c6, c7, c8, c9, c10, c11⟩ := box12 kF
                      go_wp2_with fail
                      go_meet
                      exact HR.out
                    · have e4 : ((el : Int) == 4) = false := beq_eq_false_iff_ne.2 (by omega)
                      have HEL : Hid ((gX (l.drop at_)).length ≠ 4) := Lib.hid (by rw [rFX.len]; exact hel4)
                      clear hel4
                      obtain ⟨p0, p1, p2, p3, p4, p5, p6⟩ := box7 k7
                      obtain ⟨q0, q1, q2, q3, q4, q5, q6, q7, q8, q9, q10, q11⟩ := box12 k1
                      obtain ⟨c0, c1, c2, c3, c4, c5, c6, c7, c8, c9, c10, c11⟩ := box12 kF
                      have y0 := k7.frozen 0
                      have y3 := k7.frozen 3
                      go_upto_region 15 with fail
                      clear p0 p1 p2 p3 p4 p5 p6 q0 q1 q2 q3 q4 q5 q6 q7 q8 q9 q10 q11 c0 c1 c2 c3 c4 c5 c6 c7 c8 c9 c10 c11
                      clear y0 y3
                      have gS := grown_trans (rdr_grown_set W6 g7 0 (.int .i64 (st : Nat))) (rdr_grown_set _ g7 3 (.int .u64 (fc : Nat)))
                      have kS := (k7.set_ 0 (.int .i64 (st : Nat))).set_ 3 (.int .u64 (fc : Nat))
                      replace oS := ozk oS gS (Nat.lt_succ_self _)
                      replace k1 := k1.left gS (Nat.ne_of_lt (Nat.lt_of_succ_lt hg7))
                      replace k2 := k2.left gS (Nat.ne_of_lt hg7)
                      replace kF := kF.left gS (Nat.ne_of_gt h7F)
                      replace rFX := (rd_ans rFX k7 gS (Nat.le_refl _)).more gS.size
                      replace rFV := (rd_ans rFV k7 gS (Nat.le_refl _)).more gS.size
                      replace b := b.trans (below_grown gS (Nat.le_of_lt (Nat.lt_of_succ_lt hg7)) k7.lt)
                      clear k7 gS
                      have k7 := kS
                      clear kS
                      generalize ((W6.setCell ⟨g7, 0, none⟩ (.int .i64 (st : Nat))).setCell ⟨g7, 3, none⟩ (.int .u64 (fc : Nat))) = W7 at oS k1 k2 kF rFX rFV b k7 ⊢
                      obtain ⟨p0, p1, p2, p3, p4, p5, p6⟩ := box7 k7
                      obtain ⟨q0, q1, q2, q3, q4, q5, q6, q7, q8, q9, q10, q11⟩ := box12 k1
                      obtain ⟨c0, c1, c2, c3, c4, c5, c6, c7, c8, c9, c10, c11⟩ := box12 kF
                      have y1 := k7.frozen 1
                      go_upto_region 17 with fail
                      clear p0 p1 p2 p3 p4 p5 p6 q0 q1 q2 q3 q4 q5 q6 q7 q8 q9 q10 q11 c0 c1 c2 c3 c4 c5 c6 c7 c8 c9 c10 c11
                      clear y1
                      have gS := rdr_grown_set W7 g7 1 (.slice FV fnv fcv)
                      have kS := k7.set_ 1 (.slice FV fnv fcv)
                      replace oS := ozk oS gS (Nat.lt_succ_self _)
                      replace k1 := k1.left gS (Nat.ne_of_lt (Nat.lt_of_succ_lt hg7))
                      replace k2 := k2.left gS (Nat.ne_of_lt hg7)
                      replace kF := kF.left gS (Nat.ne_of_gt h7F)
                      replace rFX := (rd_ans rFX k7 gS (Nat.le_refl _)).more gS.size
                      replace rFV := (rd_ans rFV k7 gS (Nat.le_refl _)).more gS.size
                      replace b := b.trans (below_grown gS (Nat.le_of_lt (Nat.lt_of_succ_lt hg7)) k7.lt)
                      clear k7 gS
                      have k7 := kS
                      clear kS
                      generalize (W7.setCell ⟨g7, 1, none⟩ (.slice FV fnv fcv)) = W8 at oS k1 k2 kF rFX rFV b k7 ⊢
                      generalize W8 = W9 at oS k1 k2 kF rFX rFV b k7 ⊢
                      have HR : Hid (∃ (N : Nat) (SL' : List (ByteArray × ByteArray)) (f : List UInt8), (.int .i64 ((at_ : Int) + (NF : Int)) : Value) = .int .i64 (N : Nat) ∧ gather op 17 l = .done N SL' f ∧ RdFA op f SL' g7 W9 ∧ Blk W9 w.heap.size #[.int .i64 op, .bool qt, .bool fu, .int .i64 bd, .int .u32 (oq : Nat), .slice KA nk ck, VQ, .int .u32 (fl : Nat), .int .u32 (ex : Nat), .int .u64 (cs : Nat), .int .u64 (dl : Nat), .int .u64 (ni : Nat)] 26 ∧ Blk W9 (w.heap.size + 1) #[.int .i64 0, .slice none 0 0, .int .u32 0, .int .u64 0, .int .u64 0, .slice none 0 0, .bool false] 29 ∧ Below w.heap.size w W9) := Lib.hid ⟨at_ + NF, SL, l.drop at_, by go_num, HDN.out.1, rdf_mk k7 rFV oS.rz HGN.out.hst HGN.out.hcas HDN.out.2 (lastF_n HEL.out) (lastN_r HRD.out) (lastV_y (show (fld (l.drop at_) 6 2 : Int) = 0 by rw [← HGN.out.hst]; exact HST.out) (Or.inl HRD.out)), k1, k2, b⟩
                      obtain ⟨p0, p1, p2, p3, p4, p5, p6⟩ := box7 k7
                      obtain ⟨q0, q1, q2, q3, q4, q5, q6, q7, q8, q9, q10, q11⟩ := box12 k1
                      obtain ⟨c0, c1, c2, c3, c4, c5, c6, c7, c8, c9, c10, c11⟩ := box12 kF
                      go_wp2_with fail
                      go_meet
                      exact HR.out
                  · by_cases o29 : op = 29
                    · have hop := o29
                      clear o29 o0 h16 hst0 hs
                      have e16 : (op == 16) = false := beq_eq_false_iff_ne.2 (by omega)
                      have HRD : Hid (isRead op = true) := Lib.hid (by rw [hop]; decide)
                      have e0 : (op == 0) = false := beq_eq_false_iff_ne.2 (by omega)
                      have e29 : (op == 29) = true := beq_iff_eq.2 hop
                      have e5 : (op == 5) = false := beq_eq_false_iff_ne.2 (by omega)
                      have e6 : (op == 6) = false := beq_eq_false_iff_ne.2 (by omega)
                      have e11 : (op == 11) = false := beq_eq_false_iff_ne.2 (by omega)
                      obtain ⟨F, hF⟩ : ∃ F : Nat, F = numQ (gX (l.drop at_)) % 4294967296 := ⟨_, rfl⟩
                      have wF : IntKind.u32.wrap ((numQ (gX (l.drop at_)) : Nat) : Int) = (F : Int) := by rw [hF]; exact wrapu32 _
                      have HFE := Lib.hid hF
                      clear hF
                      clear hop
                      by_cases hel4 : el = 4
                      · have e4 : ((el : Int) == 4) = true := beq_iff_eq.2 (by omega)
                        have HEL : Hid ((gX (l.drop at_)).length = 4) := Lib.hid (by rw [rFX.len]; exact hel4)
                        clear hel4
                        obtain ⟨p0, p1, p2, p3, p4, p5, p6⟩ := box7 k7
                        obtain ⟨q0, q1, q2, q3, q4, q5, q6, q7, q8, q9, q10, q11⟩ := box12 k1
                        obtain ⟨c0, c1, c2, c3, c4, c5, c6, c7, c8, c9, c10, c11⟩ := box12 kF
                        have y0 := k7.frozen 0
                        have y3 := k7.frozen 3
                        go_upto_region 15 with fail
                        clear p0 p1 p2 p3 p4 p5 p6 q0 q1 q2 q3 q4 q5 q6 q7 q8 q9 q10 q11 c0 c1 c2 c3 c4 c5 c6 c7 c8 c9 c10 c11
                        clear y0 y3
                        have gS := grown_trans (rdr_grown_set W6 g7 0 (.int .i64 (st : Nat))) (rdr_grown_set _ g7 3 (.int .u64 (fc : Nat)))
                        have kS := (k7.set_ 0 (.int .i64 (st : Nat))).set_ 3 (.int .u64 (fc : Nat))
                        replace oS := ozk oS gS (Nat.lt_succ_self _)
                        replace k1 := k1.left gS (Nat.ne_of_lt (Nat.lt_of_succ_lt hg7))
                        replace k2 := k2.left gS (Nat.ne_of_lt hg7)
                        replace kF := kF.left gS (Nat.ne_of_gt h7F)
                        replace rFX := (rd_ans rFX k7 gS (Nat.le_refl _)).more gS.size
                        replace rFV := (rd_ans rFV k7 gS (Nat.le_refl _)).more gS.size
                        replace b := b.trans (below_grown gS (Nat.le_of_lt (Nat.lt_of_succ_lt hg7)) k7.lt)
                        clear k7 gS
                        have k7 := kS
                        clear kS
                        generalize ((W6.setCell ⟨g7, 0, none⟩ (.int .i64 (st : Nat))).setCell ⟨g7, 3, none⟩ (.int .u64 (fc : Nat))) = W7 at oS k1 k2 kF rFX rFV b k7 ⊢
                        obtain ⟨p0, p1, p2, p3, p4, p5, p6⟩ := box7 k7
                        obtain ⟨q0, q1, q2, q3, q4, q5, q6, q7, q8, q9, q10, q11⟩ := box12 k1
                        obtain ⟨c0, c1, c2, c3, c4, c5, c6, c7, c8, c9, c10, c11⟩ := box12 kF
                        have y1 := k7.frozen 1
                        go_upto_region 17 with fail
                        clear p0 p1 p2 p3 p4 p5 p6 q0 q1 q2 q3 q4 q5 q6 q7 q8 q9 q10 q11 c0 c1 c2 c3 c4 c5 c6 c7 c8 c9 c10 c11
                        clear y1
                        have gS := rdr_grown_set W7 g7 1 (.slice FV fnv fcv)
                        have kS := k7.set_ 1 (.slice FV fnv fcv)
                        replace oS := ozk oS gS (Nat.lt_succ_self _)
                        replace k1 := k1.left gS (Nat.ne_of_lt (Nat.lt_of_succ_lt hg7))
                        replace k2 := k2.left gS (Nat.ne_of_lt hg7)
                        replace kF := kF.left gS (Nat.ne_of_gt h7F)
                        replace rFX := (rd_ans rFX k7 gS (Nat.le_refl _)).more gS.size
                        replace rFV := (rd_ans rFV k7 gS (Nat.le_refl _)).more gS.size
                        replace b := b.trans (below_grown gS (Nat.le_of_lt (Nat.lt_of_succ_lt hg7)) k7.lt)
                        clear k7 gS
                        have k7 := kS
                        clear kS
                        generalize (W7.setCell ⟨g7, 1, none⟩ (.slice FV fnv fcv)) = W8 at oS k1 k2 kF rFX rFV b k7 ⊢
                        obtain ⟨p0, p1, p2, p3, p4, p5, p6⟩ := box7 k7
                        obtain ⟨q0, q1, q2, q3, q4, q5, q6, q7, q8, q9, q10, q11⟩ := box12 k1
                        obtain ⟨c0, c1, c2, c3, c4, c5, c6, c7, c8, c9, c10, c11⟩ := box12 kF
                        have y2 := k7.frozen 2
                        have HNM := Lib.hid (number_any FX el fcx W8.heap.size (gX (l.drop at_)) W8 rFX)
                        go_wp2_with fail
                        refine HNM.out.mono ?_
                        rintro e W8b ⟨rfl, rfl⟩
                        clear HNM
                        go_upto_region 19 with fail
                        clear p0 p1 p2 p3 p4 p5 p6 q0 q1 q2 q3 q4 q5 q6 q7 q8 q9 q10 q11 c0 c1 c2 c3 c4 c5 c6 c7 c8 c9 c10 c11
                        clear y2
                        have gS := rdr_grown_set W8 g7 2 (.int .u32 (F : Int))
                        have kS := k7.set_ 2 (.int .u32 (F : Int))
                        replace oS := ozk oS gS (Nat.lt_succ_self _)
                        replace k1 := k1.left gS (Nat.ne_of_lt (Nat.lt_of_succ_lt hg7))
                        replace k2 := k2.left gS (Nat.ne_of_lt hg7)
                        replace kF := kF.left gS (Nat.ne_of_gt h7F)
                        replace rFX := (rd_ans rFX k7 gS (Nat.le_refl _)).more gS.size
                        replace rFV := (rd_ans rFV k7 gS (Nat.le_refl _)).more gS.size
                        replace b := b.trans (below_grown gS (Nat.le_of_lt (Nat.lt_of_succ_lt hg7)) k7.lt)
                        clear k7 gS
                        have k7 := kS
                        clear kS
                        generalize (W8.setCell ⟨g7, 2, none⟩ (.int .u32 (F : Int))) = W9 at oS k1 k2 kF rFX rFV b k7 ⊢
                        have HR : Hid (∃ (N : Nat) (SL' : List (ByteArray × ByteArray)) (f : List UInt8), (.int .i64 ((at_ : Int) + (NF : Int)) : Value) = .int .i64 (N : Nat) ∧ gather op 17 l = .done N SL' f ∧ RdFA op f SL' g7 W9 ∧ Blk W9 w.heap.size #[.int .i64 op, .bool qt, .bool fu, .int .i64 bd, .int .u32 (oq : Nat), .slice KA nk ck, VQ, .int .u32 (fl : Nat), .int .u32 (ex : Nat), .int .u64 (cs : Nat), .int .u64 (dl : Nat), .int .u64 (ni : Nat)] 26 ∧ Blk W9 (w.heap.size + 1) #[.int .i64 0, .slice none 0 0, .int .u32 0, .int .u64 0, .int .u64 0, .slice none 0 0, .bool false] 29 ∧ Below w.heap.size w W9) := Lib.hid ⟨at_ + NF, SL, l.drop at_, by go_num, HDN.out.1, rdf_mk k7 rFV oS.rz HGN.out.hst HGN.out.hcas HDN.out.2 ((lastF_y (show (fld (l.drop at_) 6 2 : Int) = 0 by rw [← HGN.out.hst]; exact HST.out) HRD.out HEL.out).trans HFE.out.symm) (lastN_r HRD.out) (lastV_y (show (fld (l.drop at_) 6 2 : Int) = 0 by rw [← HGN.out.hst]; exact HST.out) (Or.inl HRD.out)), k1, k2, b⟩
                        obtain ⟨p0, p1, p2, p3, p4, p5, p6⟩ := box7 k7
                        obtain ⟨q0, q1, q2, q3, q4, q5, q6, q7, q8, q9, q10, q11⟩ := box12 k1
                        obtain ⟨c0, c1, c2, c3, c4, c5, c6, c7, c8, c9, c10, c11⟩ := box12 kF
                        go_wp2_with fail
                        go_meet
                        exact HR.out
                      · have e4 : ((el : Int) == 4) = false := beq_eq_false_iff_ne.2 (by omega)
                        have HEL : Hid ((gX (l.drop at_)).length ≠ 4) := Lib.hid (by rw [rFX.len]; exact hel4)
                        clear hel4
                        obtain ⟨p0, p1, p2, p3, p4, p5, p6⟩ := box7 k7
                        obtain ⟨q0, q1, q2, q3, q4, q5, q6, q7, q8, q9, q10, q11⟩ := box12 k1
                        obtain ⟨c0, c1, c2, c3, c4, c5, c6, c7, c8, c9, c10, c11⟩ := box12 kF
                        have y0 := k7.frozen 0
                        have y3 := k7.frozen 3
                        go_upto_region 15 with fail
                        clear p0 p1 p2 p3 p4 p5 p6 q0 q1 q2 q3 q4 q5 q6 q7 q8 q9 q10 q11 c0 c1 c2 c3 c4 c5 c6 c7 c8 c9 c10 c11
                        clear y0 y3
                        have gS := grown_trans (rdr_grown_set W6 g7 0 (.int .i64 (st : Nat))) (rdr_grown_set _ g7 3 (.int .u64 (fc : Nat)))
                        have kS := (k7.set_ 0 (.int .i64 (st : Nat))).set_ 3 (.int .u64 (fc : Nat))
                        replace oS := ozk oS gS (Nat.lt_succ_self _)
                        replace k1 := k1.left gS (Nat.ne_of_lt (Nat.lt_of_succ_lt hg7))
                        replace k2 := k2.left gS (Nat.ne_of_lt hg7)
                        replace kF := kF.left gS (Nat.ne_of_gt h7F)
                        replace rFX := (rd_ans rFX k7 gS (Nat.le_refl _)).more gS.size
                        replace rFV := (rd_ans rFV k7 gS (Nat.le_refl _)).more gS.size
                        replace b := b.trans (below_grown gS (Nat.le_of_lt (Nat.lt_of_succ_lt hg7)) k7.lt)
                        clear k7 gS
                        have k7 := kS
                        clear kS
                        generalize ((W6.setCell ⟨g7, 0, none⟩ (.int .i64 (st : Nat))).setCell ⟨g7, 3, none⟩ (.int .u64 (fc : Nat))) = W7 at oS k1 k2 kF rFX rFV b k7 ⊢
                        obtain ⟨p0, p1, p2, p3, p4, p5, p6⟩ := box7 k7
                        obtain ⟨q0, q1, q2, q3, q4, q5, q6, q7, q8, q9, q10, q11⟩ := box12 k1
                        obtain ⟨c0, c1, c2, c3, c4, c5, c6, c7, c8, c9, c10, c11⟩ := box12 kF
                        have y1 := k7.frozen 1
                        go_upto_region 17 with fail
                        clear p0 p1 p2 p3 p4 p5 p6 q0 q1 q2 q3 q4 q5 q6 q7 q8 q9 q10 q11 c0 c1 c2 c3 c4 c5 c6 c7 c8 c9 c10 c11
                        clear y1
                        have gS := rdr_grown_set W7 g7 1 (.slice FV fnv fcv)
                        have kS := k7.set_ 1 (.slice FV fnv fcv)
                        replace oS := ozk oS gS (Nat.lt_succ_self _)
                        replace k1 := k1.left gS (Nat.ne_of_lt (Nat.lt_of_succ_lt hg7))
                        replace k2 := k2.left gS (Nat.ne_of_lt hg7)
                        replace kF := kF.left gS (Nat.ne_of_gt h7F)
                        replace rFX := (rd_ans rFX k7 gS (Nat.le_refl _)).more gS.size
                        replace rFV := (rd_ans rFV k7 gS (Nat.le_refl _)).more gS.size
                        replace b := b.trans (below_grown gS (Nat.le_of_lt (Nat.lt_of_succ_lt hg7)) k7.lt)
                        clear k7 gS
                        have k7 := kS
                        clear kS
                        generalize (W7.setCell ⟨g7, 1, none⟩ (.slice FV fnv fcv)) = W8 at oS k1 k2 kF rFX rFV b k7 ⊢
                        generalize W8 = W9 at oS k1 k2 kF rFX rFV b k7 ⊢
                        have HR : Hid (∃ (N : Nat) (SL' : List (ByteArray × ByteArray)) (f : List UInt8), (.int .i64 ((at_ : Int) + (NF : Int)) : Value) = .int .i64 (N : Nat) ∧ gather op 17 l = .done N SL' f ∧ RdFA op f SL' g7 W9 ∧ Blk W9 w.heap.size #[.int .i64 op, .bool qt, .bool fu, .int .i64 bd, .int .u32 (oq : Nat), .slice KA nk ck, VQ, .int .u32 (fl : Nat), .int .u32 (ex : Nat), .int .u64 (cs : Nat), .int .u64 (dl : Nat), .int .u64 (ni : Nat)] 26 ∧ Blk W9 (w.heap.size + 1) #[.int .i64 0, .slice none 0 0, .int .u32 0, .int .u64 0, .int .u64 0, .slice none 0 0, .bool false] 29 ∧ Below w.heap.size w W9) := Lib.hid ⟨at_ + NF, SL, l.drop at_, by go_num, HDN.out.1, rdf_mk k7 rFV oS.rz HGN.out.hst HGN.out.hcas HDN.out.2 (lastF_n HEL.out) (lastN_r HRD.out) (lastV_y (show (fld (l.drop at_) 6 2 : Int) = 0 by rw [← HGN.out.hst]; exact HST.out) (Or.inl HRD.out)), k1, k2, b⟩
                        obtain ⟨p0, p1, p2, p3, p4, p5, p6⟩ := box7 k7
                        obtain ⟨q0, q1, q2, q3, q4, q5, q6, q7, q8, q9, q10, q11⟩ := box12 k1
                        obtain ⟨c0, c1, c2, c3, c4, c5, c6, c7, c8, c9, c10, c11⟩ := box12 kF
                        go_wp2_with fail
                        go_meet
                        exact HR.out
                    · by_cases o5 : op = 5
                      · have hop := o5
                        clear o5 o29 o0 h16 hst0 hs
                        have e16 : (op == 16) = false := beq_eq_false_iff_ne.2 (by omega)
                        have HNR : Hid (isRead op = false) := Lib.hid (by unfold isRead; rw [Bool.or_eq_false_iff]; exact ⟨beq_eq_false_iff_ne.2 (by omega), beq_eq_false_iff_ne.2 (by omega)⟩)
                        have HCV : Hid (isRead op = false ∧ op ≠ 11) := Lib.hid ⟨by unfold isRead; rw [Bool.or_eq_false_iff]; exact ⟨beq_eq_false_iff_ne.2 (by omega), beq_eq_false_iff_ne.2 (by omega)⟩, by omega⟩
                        have HCT : Hid (isCount op = true) := Lib.hid (by rw [hop]; decide)
                        have e0 : (op == 0) = false := beq_eq_false_iff_ne.2 (by omega)
                        have e29 : (op == 29) = false := beq_eq_false_iff_ne.2 (by omega)
                        have e5 : (op == 5) = true := beq_iff_eq.2 hop
                        have e6 : (op == 6) = false := beq_eq_false_iff_ne.2 (by omega)
                        have e11 : (op == 11) = false := beq_eq_false_iff_ne.2 (by omega)
                        clear hop
                        by_cases hel4 : fnv = 8
                        · have e8 : ((fnv : Int) == 8) = true := beq_iff_eq.2 (by omega)
                          have HVL : Hid ((gV (l.drop at_)).length = 8) := Lib.hid (by rw [rFV.len]; exact hel4)
                          clear hel4
                          obtain ⟨p0, p1, p2, p3, p4, p5, p6⟩ := box7 k7
                          obtain ⟨q0, q1, q2, q3, q4, q5, q6, q7, q8, q9, q10, q11⟩ := box12 k1
                          obtain ⟨c0, c1, c2, c3, c4, c5, c6, c7, c8, c9, c10, c11⟩ := box12 kF
                          have y0 := k7.frozen 0
                          have y3 := k7.frozen 3
                          go_upto_region 15 with fail
                          clear p0 p1 p2 p3 p4 p5 p6 q0 q1 q2 q3 q4 q5 q6 q7 q8 q9 q10 q11 c0 c1 c2 c3 c4 c5 c6 c7 c8 c9 c10 c11
                          clear y0 y3
                          have gS := grown_trans (rdr_grown_set W6 g7 0 (.int .i64 (st : Nat))) (rdr_grown_set _ g7 3 (.int .u64 (fc : Nat)))
                          have kS := (k7.set_ 0 (.int .i64 (st : Nat))).set_ 3 (.int .u64 (fc : Nat))
                          replace oS := ozk oS gS (Nat.lt_succ_self _)
                          replace k1 := k1.left gS (Nat.ne_of_lt (Nat.lt_of_succ_lt hg7))
                          replace k2 := k2.left gS (Nat.ne_of_lt hg7)
                          replace kF := kF.left gS (Nat.ne_of_gt h7F)
                          replace rFX := (rd_ans rFX k7 gS (Nat.le_refl _)).more gS.size
                          replace rFV := (rd_ans rFV k7 gS (Nat.le_refl _)).more gS.size
                          replace b := b.trans (below_grown gS (Nat.le_of_lt (Nat.lt_of_succ_lt hg7)) k7.lt)
                          clear k7 gS
                          have k7 := kS
                          clear kS
                          generalize ((W6.setCell ⟨g7, 0, none⟩ (.int .i64 (st : Nat))).setCell ⟨g7, 3, none⟩ (.int .u64 (fc : Nat))) = W7 at oS k1 k2 kF rFX rFV b k7 ⊢
                          obtain ⟨p0, p1, p2, p3, p4, p5, p6⟩ := box7 k7
                          obtain ⟨q0, q1, q2, q3, q4, q5, q6, q7, q8, q9, q10, q11⟩ := box12 k1
                          obtain ⟨c0, c1, c2, c3, c4, c5, c6, c7, c8, c9, c10, c11⟩ := box12 kF
                          have y4 := k7.frozen 4
                          have HNM := Lib.hid (number_any FV fnv fcv W7.heap.size (gV (l.drop at_)) W7 rFV)
                          go_wp2_with fail
                          refine HNM.out.mono ?_
                          rintro e W7b ⟨rfl, rfl⟩
                          clear HNM
                          go_upto_region 21 with fail
                          clear p0 p1 p2 p3 p4 p5 p6 q0 q1 q2 q3 q4 q5 q6 q7 q8 q9 q10 q11 c0 c1 c2 c3 c4 c5 c6 c7 c8 c9 c10 c11
                          clear y4
                          have gS := rdr_grown_set W7 g7 4 (.int .u64 ((numQ (gV (l.drop at_)) : Nat) : Int))
                          have kS := k7.set_ 4 (.int .u64 ((numQ (gV (l.drop at_)) : Nat) : Int))
                          replace oS := ozk oS gS (Nat.lt_succ_self _)
                          replace k1 := k1.left gS (Nat.ne_of_lt (Nat.lt_of_succ_lt hg7))
                          replace k2 := k2.left gS (Nat.ne_of_lt hg7)
                          replace kF := kF.left gS (Nat.ne_of_gt h7F)
                          replace rFX := (rd_ans rFX k7 gS (Nat.le_refl _)).more gS.size
                          replace rFV := (rd_ans rFV k7 gS (Nat.le_refl _)).more gS.size
                          replace b := b.trans (below_grown gS (Nat.le_of_lt (Nat.lt_of_succ_lt hg7)) k7.lt)
                          clear k7 gS
                          have k7 := kS
                          clear kS
                          generalize (W7.setCell ⟨g7, 4, none⟩ (.int .u64 ((numQ (gV (l.drop at_)) : Nat) : Int))) = W9 at oS k1 k2 kF rFX rFV b k7 ⊢
                          have HR : Hid (∃ (N : Nat) (SL' : List (ByteArray × ByteArray)) (f : List UInt8), (.int .i64 ((at_ : Int) + (NF : Int)) : Value) = .int .i64 (N : Nat) ∧ gather op 17 l = .done N SL' f ∧ RdFA op f SL' g7 W9 ∧ Blk W9 w.heap.size #[.int .i64 op, .bool qt, .bool fu, .int .i64 bd, .int .u32 (oq : Nat), .slice KA nk ck, VQ, .int .u32 (fl : Nat), .int .u32 (ex : Nat), .int .u64 (cs : Nat), .int .u64 (dl : Nat), .int .u64 (ni : Nat)] 26 ∧ Blk W9 (w.heap.size + 1) #[.int .i64 0, .slice none 0 0, .int .u32 0, .int .u64 0, .int .u64 0, .slice none 0 0, .bool false] 29 ∧ Below w.heap.size w W9) := Lib.hid ⟨at_ + NF, SL, l.drop at_, by go_num, HDN.out.1, rdf_mk k7 (Rd.nil _ _) oS.rz HGN.out.hst HGN.out.hcas HDN.out.2 (lastF_r HNR.out) (lastN_y (show (fld (l.drop at_) 6 2 : Int) = 0 by rw [← HGN.out.hst]; exact HST.out) HCT.out HVL.out) (lastV_n (Or.inr HCV.out)), k1, k2, b⟩
                          obtain ⟨p0, p1, p2, p3, p4, p5, p6⟩ := box7 k7
                          obtain ⟨q0, q1, q2, q3, q4, q5, q6, q7, q8, q9, q10, q11⟩ := box12 k1
                          obtain ⟨c0, c1, c2, c3, c4, c5, c6, c7, c8, c9, c10, c11⟩ := box12 kF
                          go_wp2_with fail
                          go_meet
                          exact HR.out
                        · have e8 : ((fnv : Int) == 8) = false := beq_eq_false_iff_ne.2 (by omega)
                          have HVL : Hid ((gV (l.drop at_)).length ≠ 8) := Lib.hid (by rw [rFV.len]; exact hel4)
                          clear hel4
                          obtain ⟨p0, p1, p2, p3, p4, p5, p6⟩ := box7 k7
                          obtain ⟨q0, q1, q2, q3, q4, q5, q6, q7, q8, q9, q10, q11⟩ := box12 k1
                          obtain ⟨c0, c1, c2, c3, c4, c5, c6, c7, c8, c9, c10, c11⟩ := box12 kF
                          have y0 := k7.frozen 0
                          have y3 := k7.frozen 3
                          go_upto_region 15 with fail
                          clear p0 p1 p2 p3 p4 p5 p6 q0 q1 q2 q3 q4 q5 q6 q7 q8 q9 q10 q11 c0 c1 c2 c3 c4 c5 c6 c7 c8 c9 c10 c11
                          clear y0 y3
                          have gS := grown_trans (rdr_grown_set W6 g7 0 (.int .i64 (st : Nat))) (rdr_grown_set _ g7 3 (.int .u64 (fc : Nat)))
                          have kS := (k7.set_ 0 (.int .i64 (st : Nat))).set_ 3 (.int .u64 (fc : Nat))
                          replace oS := ozk oS gS (Nat.lt_succ_self _)
                          replace k1 := k1.left gS (Nat.ne_of_lt (Nat.lt_of_succ_lt hg7))
                          replace k2 := k2.left gS (Nat.ne_of_lt hg7)
                          replace kF := kF.left gS (Nat.ne_of_gt h7F)
                          replace rFX := (rd_ans rFX k7 gS (Nat.le_refl _)).more gS.size
                          replace rFV := (rd_ans rFV k7 gS (Nat.le_refl _)).more gS.size
                          replace b := b.trans (below_grown gS (Nat.le_of_lt (Nat.lt_of_succ_lt hg7)) k7.lt)
                          clear k7 gS
                          have k7 := kS
                          clear kS
                          generalize ((W6.setCell ⟨g7, 0, none⟩ (.int .i64 (st : Nat))).setCell ⟨g7, 3, none⟩ (.int .u64 (fc : Nat))) = W7 at oS k1 k2 kF rFX rFV b k7 ⊢
                          generalize W7 = W9 at oS k1 k2 kF rFX rFV b k7 ⊢
                          have HR : Hid (∃ (N : Nat) (SL' : List (ByteArray × ByteArray)) (f : List UInt8), (.int .i64 ((at_ : Int) + (NF : Int)) : Value) = .int .i64 (N : Nat) ∧ gather op 17 l = .done N SL' f ∧ RdFA op f SL' g7 W9 ∧ Blk W9 w.heap.size #[.int .i64 op, .bool qt, .bool fu, .int .i64 bd, .int .u32 (oq : Nat), .slice KA nk ck, VQ, .int .u32 (fl : Nat), .int .u32 (ex : Nat), .int .u64 (cs : Nat), .int .u64 (dl : Nat), .int .u64 (ni : Nat)] 26 ∧ Blk W9 (w.heap.size + 1) #[.int .i64 0, .slice none 0 0, .int .u32 0, .int .u64 0, .int .u64 0, .slice none 0 0, .bool false] 29 ∧ Below w.heap.size w W9) := Lib.hid ⟨at_ + NF, SL, l.drop at_, by go_num, HDN.out.1, rdf_mk k7 (Rd.nil _ _) oS.rz HGN.out.hst HGN.out.hcas HDN.out.2 (lastF_r HNR.out) (lastN_n HVL.out) (lastV_n (Or.inr HCV.out)), k1, k2, b⟩
                          obtain ⟨p0, p1, p2, p3, p4, p5, p6⟩ := box7 k7
                          obtain ⟨q0, q1, q2, q3, q4, q5, q6, q7, q8, q9, q10, q11⟩ := box12 k1
                          obtain ⟨c0, c1, c2, c3, c4, c5, c6, c7, c8, c9, c10, c11⟩ := box12 kF
                          go_wp2_with fail
                          go_meet
                          exact HR.out
                      · by_cases o6 : op = 6
                        · have hop := o6
                          clear o6 o5 o29 o0 h16 hst0 hs
                          have e16 : (op == 16) = false := beq_eq_false_iff_ne.2 (by omega)
                          have HNR : Hid (isRead op = false) := Lib.hid (by unfold isRead; rw [Bool.or_eq_false_iff]; exact ⟨beq_eq_false_iff_ne.2 (by omega), beq_eq_false_iff_ne.2 (by omega)⟩)
                          have HCV : Hid (isRead op = false ∧ op ≠ 11) := Lib.hid ⟨by unfold isRead; rw [Bool.or_eq_false_iff]; exact ⟨beq_eq_false_iff_ne.2 (by omega), beq_eq_false_iff_ne.2 (by omega)⟩, by omega⟩
                          have HCT : Hid (isCount op = true) := Lib.hid (by rw [hop]; decide)
                          have e0 : (op == 0) = false := beq_eq_false_iff_ne.2 (by omega)
                          have e29 : (op == 29) = false := beq_eq_false_iff_ne.2 (by omega)
                          have e5 : (op == 5) = false := beq_eq_false_iff_ne.2 (by omega)
                          have e6 : (op == 6) = true := beq_iff_eq.2 hop
                          have e11 : (op == 11) = false := beq_eq_false_iff_ne.2 (by omega)
                          clear hop
                          by_cases hel4 : fnv = 8
                          · have e8 : ((fnv : Int) == 8) = true := beq_iff_eq.2 (by omega)
                            have HVL : Hid ((gV (l.drop at_)).length = 8) := Lib.hid (by rw [rFV.len]; exact hel4)
                            clear hel4
                            obtain ⟨p0, p1, p2, p3, p4, p5, p6⟩ := box7 k7
                            obtain ⟨q0, q1, q2, q3, q4, q5, q6, q7, q8, q9, q10, q11⟩ := box12 k1
                            obtain ⟨c0, c1, c2, c3, c4, c5, c6, c7, c8, c9, c10, c11⟩ := box12 kF
                            have y0 := k7.frozen 0
                            have y3 := k7.frozen 3
                            go_upto_region 15 with fail
                            clear p0 p1 p2 p3 p4 p5 p6 q0 q1 q2 q3 q4 q5 q6 q7 q8 q9 q10 q11 c0 c1 c2 c3 c4 c5 c6 c7 c8 c9 c10 c11
                            clear y0 y3
                            have gS := grown_trans (rdr_grown_set W6 g7 0 (.int .i64 (st : Nat))) (rdr_grown_set _ g7 3 (.int .u64 (fc : Nat)))
                            have kS := (k7.set_ 0 (.int .i64 (st : Nat))).set_ 3 (.int .u64 (fc : Nat))
                            replace oS := ozk oS gS (Nat.lt_succ_self _)
                            replace k1 := k1.left gS (Nat.ne_of_lt (Nat.lt_of_succ_lt hg7))
                            replace k2 := k2.left gS (Nat.ne_of_lt hg7)
                            replace kF := kF.left gS (Nat.ne_of_gt h7F)
                            replace rFX := (rd_ans rFX k7 gS (Nat.le_refl _)).more gS.size
                            replace rFV := (rd_ans rFV k7 gS (Nat.le_refl _)).more gS.size
                            replace b := b.trans (below_grown gS (Nat.le_of_lt (Nat.lt_of_succ_lt hg7)) k7.lt)
                            clear k7 gS
                            have k7 := kS
                            clear kS
                            generalize ((W6.setCell ⟨g7, 0, none⟩ (.int .i64 (st : Nat))).setCell ⟨g7, 3, none⟩ (.int .u64 (fc : Nat))) = W7 at oS k1 k2 kF rFX rFV b k7 ⊢
                            obtain ⟨p0, p1, p2, p3, p4, p5, p6⟩ := box7 k7
                            obtain ⟨q0, q1, q2, q3, q4, q5, q6, q7, q8, q9, q10, q11⟩ := box12 k1
                            obtain ⟨c0, c1, c2, c3, c4, c5, c6, c7, c8, c9, c10, c11⟩ := box12 kF
                            have y4 := k7.frozen 4
                            have HNM := Lib.hid (number_any FV fnv fcv W7.heap.size (gV (l.drop at_)) W7 rFV)
                            go_wp2_with fail
                            refine HNM.out.mono ?_
                            rintro e W7b ⟨rfl, rfl⟩
                            clear HNM
                            go_upto_region 21 with fail
                            clear p0 p1 p2 p3 p4 p5 p6 q0 q1 q2 q3 q4 q5 q6 q7 q8 q9 q10 q11 c0 c1 c2 c3 c4 c5 c6 c7 c8 c9 c10 c11
                            clear y4
                            have gS := rdr_grown_set W7 g7 4 (.int .u64 ((numQ (gV (l.drop at_)) : Nat) : Int))
                            have kS := k7.set_ 4 (.int .u64 ((numQ (gV (l.drop at_)) : Nat) : Int))
                            replace oS := ozk oS gS (Nat.lt_succ_self _)
                            replace k1 := k1.left gS (Nat.ne_of_lt (Nat.lt_of_succ_lt hg7))
                            replace k2 := k2.left gS (Nat.ne_of_lt hg7)
                            replace kF := kF.left gS (Nat.ne_of_gt h7F)
                            replace rFX := (rd_ans rFX k7 gS (Nat.le_refl _)).more gS.size
                            replace rFV := (rd_ans rFV k7 gS (Nat.le_refl _)).more gS.size
                            replace b := b.trans (below_grown gS (Nat.le_of_lt (Nat.lt_of_succ_lt hg7)) k7.lt)
                            clear k7 gS
                            have k7 := kS
                            clear kS
                            generalize (W7.setCell ⟨g7, 4, none⟩ (.int .u64 ((numQ (gV (l.drop at_)) : Nat) : Int))) = W9 at oS k1 k2 kF rFX rFV b k7 ⊢
                            have HR : Hid (∃ (N : Nat) (SL' : List (ByteArray × ByteArray)) (f : List UInt8), (.int .i64 ((at_ : Int) + (NF : Int)) : Value) = .int .i64 (N : Nat) ∧ gather op 17 l = .done N SL' f ∧ RdFA op f SL' g7 W9 ∧ Blk W9 w.heap.size #[.int .i64 op, .bool qt, .bool fu, .int .i64 bd, .int .u32 (oq : Nat), .slice KA nk ck, VQ, .int .u32 (fl : Nat), .int .u32 (ex : Nat), .int .u64 (cs : Nat), .int .u64 (dl : Nat), .int .u64 (ni : Nat)] 26 ∧ Blk W9 (w.heap.size + 1) #[.int .i64 0, .slice none 0 0, .int .u32 0, .int .u64 0, .int .u64 0, .slice none 0 0, .bool false] 29 ∧ Below w.heap.size w W9) := Lib.hid ⟨at_ + NF, SL, l.drop at_, by go_num, HDN.out.1, rdf_mk k7 (Rd.nil _ _) oS.rz HGN.out.hst HGN.out.hcas HDN.out.2 (lastF_r HNR.out) (lastN_y (show (fld (l.drop at_) 6 2 : Int) = 0 by rw [← HGN.out.hst]; exact HST.out) HCT.out HVL.out) (lastV_n (Or.inr HCV.out)), k1, k2, b⟩
                            obtain ⟨p0, p1, p2, p3, p4, p5, p6⟩ := box7 k7
                            obtain ⟨q0, q1, q2, q3, q4, q5, q6, q7, q8, q9, q10, q11⟩ := box12 k1
                            obtain ⟨c0, c1, c2, c3, c4, c5, c6, c7, c8, c9, c10, c11⟩ := box12 kF
                            go_wp2_with fail
                            go_meet
                            exact HR.out
                          · have e8 : ((fnv : Int) == 8) = false := beq_eq_false_iff_ne.2 (by omega)
                            have HVL : Hid ((gV (l.drop at_)).length ≠ 8) := Lib.hid (by rw [rFV.len]; exact hel4)
                            clear hel4
                            obtain ⟨p0, p1, p2, p3, p4, p5, p6⟩ := box7 k7
                            obtain ⟨q0, q1, q2, q3, q4, q5, q6, q7, q8, q9, q10, q11⟩ := box12 k1
                            obtain ⟨c0, c1, c2, c3, c4, c5, c6, c7, c8, c9, c10, c11⟩ := box12 kF
                            have y0 := k7.frozen 0
                            have y3 := k7.frozen 3
                            go_upto_region 15 with fail
                            clear p0 p1 p2 p3 p4 p5 p6 q0 q1 q2 q3 q4 q5 q6 q7 q8 q9 q10 q11 c0 c1 c2 c3 c4 c5 c6 c7 c8 c9 c10 c11
                            clear y0 y3
                            have gS := grown_trans (rdr_grown_set W6 g7 0 (.int .i64 (st : Nat))) (rdr_grown_set _ g7 3 (.int .u64 (fc : Nat)))
                            have kS := (k7.set_ 0 (.int .i64 (st : Nat))).set_ 3 (.int .u64 (fc : Nat))
                            replace oS := ozk oS gS (Nat.lt_succ_self _)
                            replace k1 := k1.left gS (Nat.ne_of_lt (Nat.lt_of_succ_lt hg7))
                            replace k2 := k2.left gS (Nat.ne_of_lt hg7)
                            replace kF := kF.left gS (Nat.ne_of_gt h7F)
                            replace rFX := (rd_ans rFX k7 gS (Nat.le_refl _)).more gS.size
                            replace rFV := (rd_ans rFV k7 gS (Nat.le_refl _)).more gS.size
                            replace b := b.trans (below_grown gS (Nat.le_of_lt (Nat.lt_of_succ_lt hg7)) k7.lt)
                            clear k7 gS
                            have k7 := kS
                            clear kS
                            generalize ((W6.setCell ⟨g7, 0, none⟩ (.int .i64 (st : Nat))).setCell ⟨g7, 3, none⟩ (.int .u64 (fc : Nat))) = W7 at oS k1 k2 kF rFX rFV b k7 ⊢
                            generalize W7 = W9 at oS k1 k2 kF rFX rFV b k7 ⊢
                            have HR : Hid (∃ (N : Nat) (SL' : List (ByteArray × ByteArray)) (f : List UInt8), (.int .i64 ((at_ : Int) + (NF : Int)) : Value) = .int .i64 (N : Nat) ∧ gather op 17 l = .done N SL' f ∧ RdFA op f SL' g7 W9 ∧ Blk W9 w.heap.size #[.int .i64 op, .bool qt, .bool fu, .int .i64 bd, .int .u32 (oq : Nat), .slice KA nk ck, VQ, .int .u32 (fl : Nat), .int .u32 (ex : Nat), .int .u64 (cs : Nat), .int .u64 (dl : Nat), .int .u64 (ni : Nat)] 26 ∧ Blk W9 (w.heap.size + 1) #[.int .i64 0, .slice none 0 0, .int .u32 0, .int .u64 0, .int .u64 0, .slice none 0 0, .bool false] 29 ∧ Below w.heap.size w W9) := Lib.hid ⟨at_ + NF, SL, l.drop at_, by go_num, HDN.out.1, rdf_mk k7 (Rd.nil _ _) oS.rz HGN.out.hst HGN.out.hcas HDN.out.2 (lastF_r HNR.out) (lastN_n HVL.out) (lastV_n (Or.inr HCV.out)), k1, k2, b⟩
                            obtain ⟨p0, p1, p2, p3, p4, p5, p6⟩ := box7 k7
                            obtain ⟨q0, q1, q2, q3, q4, q5, q6, q7, q8, q9, q10, q11⟩ := box12 k1
                            obtain ⟨c0, c1, c2, c3, c4, c5, c6, c7, c8, c9, c10, c11⟩ := box12 kF
                            go_wp2_with fail
                            go_meet
                            exact HR.out
                        · by_cases o11 : op = 11
                          · have hop := o11
                            clear o11 o6 o5 o29 o0 h16 hst0 hs
                            have e16 : (op == 16) = false := beq_eq_false_iff_ne.2 (by omega)
                            have HNR : Hid (isRead op = false) := Lib.hid (by unfold isRead; rw [Bool.or_eq_false_iff]; exact ⟨beq_eq_false_iff_ne.2 (by omega), beq_eq_false_iff_ne.2 (by omega)⟩)
                            have HNC : Hid (isCount op = false) := Lib.hid (by unfold isCount; rw [Bool.or_eq_false_iff]; exact ⟨beq_eq_false_iff_ne.2 (by omega), beq_eq_false_iff_ne.2 (by omega)⟩)
                            have HOP : Hid (op = 11) := Lib.hid hop
                            have e0 : (op == 0) = false := beq_eq_false_iff_ne.2 (by omega)
                            have e29 : (op == 29) = false := beq_eq_false_iff_ne.2 (by omega)
                            have e5 : (op == 5) = false := beq_eq_false_iff_ne.2 (by omega)
                            have e6 : (op == 6) = false := beq_eq_false_iff_ne.2 (by omega)
                            have e11 : (op == 11) = true := beq_iff_eq.2 hop
                            clear hop
                            obtain ⟨p0, p1, p2, p3, p4, p5, p6⟩ := box7 k7
                            obtain ⟨q0, q1, q2, q3, q4, q5, q6, q7, q8, q9, q10, q11⟩ := box12 k1
                            obtain ⟨c0, c1, c2, c3, c4, c5, c6, c7, c8, c9, c10, c11⟩ := box12 kF
                            have y0 := k7.frozen 0
                            have y3 := k7.frozen 3
                            go_upto_region 15 with fail
                            clear p0 p1 p2 p3 p4 p5 p6 q0 q1 q2 q3 q4 q5 q6 q7 q8 q9 q10 q11 c0 c1 c2 c3 c4 c5 c6 c7 c8 c9 c10 c11
                            clear y0 y3
                            have gS := grown_trans (rdr_grown_set W6 g7 0 (.int .i64 (st : Nat))) (rdr_grown_set _ g7 3 (.int .u64 (fc : Nat)))
                            have kS := (k7.set_ 0 (.int .i64 (st : Nat))).set_ 3 (.int .u64 (fc : Nat))
                            replace oS := ozk oS gS (Nat.lt_succ_self _)
                            replace k1 := k1.left gS (Nat.ne_of_lt (Nat.lt_of_succ_lt hg7))
                            replace k2 := k2.left gS (Nat.ne_of_lt hg7)
                            replace kF := kF.left gS (Nat.ne_of_gt h7F)
                            replace rFX := (rd_ans rFX k7 gS (Nat.le_refl _)).more gS.size
                            replace rFV := (rd_ans rFV k7 gS (Nat.le_refl _)).more gS.size
                            replace b := b.trans (below_grown gS (Nat.le_of_lt (Nat.lt_of_succ_lt hg7)) k7.lt)
                            clear k7 gS
                            have k7 := kS
                            clear kS
                            generalize ((W6.setCell ⟨g7, 0, none⟩ (.int .i64 (st : Nat))).setCell ⟨g7, 3, none⟩ (.int .u64 (fc : Nat))) = W7 at oS k1 k2 kF rFX rFV b k7 ⊢
                            obtain ⟨p0, p1, p2, p3, p4, p5, p6⟩ := box7 k7
                            obtain ⟨q0, q1, q2, q3, q4, q5, q6, q7, q8, q9, q10, q11⟩ := box12 k1
                            obtain ⟨c0, c1, c2, c3, c4, c5, c6, c7, c8, c9, c10, c11⟩ := box12 kF
                            have y1 := k7.frozen 1
                            have gS := rdr_grown_set W7 g7 1 (.slice FV fnv fcv)
                            have kS := k7.set_ 1 (.slice FV fnv fcv)
                            have HR : Hid (∃ (N : Nat) (SL' : List (ByteArray × ByteArray)) (f : List UInt8), (.int .i64 ((at_ : Int) + (NF : Int)) : Value) = .int .i64 (N : Nat) ∧ gather op 17 l = .done N SL' f ∧ RdFA op f SL' g7 (W7.setCell ⟨g7, 1, none⟩ (.slice FV fnv fcv)) ∧ Blk (W7.setCell ⟨g7, 1, none⟩ (.slice FV fnv fcv)) w.heap.size #[.int .i64 op, .bool qt, .bool fu, .int .i64 bd, .int .u32 (oq : Nat), .slice KA nk ck, VQ, .int .u32 (fl : Nat), .int .u32 (ex : Nat), .int .u64 (cs : Nat), .int .u64 (dl : Nat), .int .u64 (ni : Nat)] 26 ∧ Blk (W7.setCell ⟨g7, 1, none⟩ (.slice FV fnv fcv)) (w.heap.size + 1) #[.int .i64 0, .slice none 0 0, .int .u32 0, .int .u64 0, .int .u64 0, .slice none 0 0, .bool false] 29 ∧ Below w.heap.size w (W7.setCell ⟨g7, 1, none⟩ (.slice FV fnv fcv))) := Lib.hid ⟨at_ + NF, SL, l.drop at_, by go_num, HDN.out.1, rdf_mk kS ((rd_ans rFV k7 gS (Nat.le_refl _)).more gS.size) (ozk oS gS (Nat.lt_succ_self _)).rz HGN.out.hst HGN.out.hcas HDN.out.2 (lastF_r HNR.out) (lastN_c HNC.out) (lastV_y (show (fld (l.drop at_) 6 2 : Int) = 0 by rw [← HGN.out.hst]; exact HST.out) (Or.inr HOP.out)), k1.left gS (Nat.ne_of_lt (Nat.lt_of_succ_lt hg7)), k2.left gS (Nat.ne_of_lt hg7), b.trans (below_grown gS (Nat.le_of_lt (Nat.lt_of_succ_lt hg7)) k7.lt)⟩
                            clear gS kS
                            go_wp2_with fail
                            go_meet
                            exact HR.out
                          · have e16 : (op == 16) = false := beq_eq_false_iff_ne.2 h16
                            have HNR : Hid (isRead op = false) := Lib.hid (by unfold isRead; rw [Bool.or_eq_false_iff]; exact ⟨beq_eq_false_iff_ne.2 (by omega), beq_eq_false_iff_ne.2 (by omega)⟩)
                            have HNC : Hid (isCount op = false) := Lib.hid (by unfold isCount; rw [Bool.or_eq_false_iff]; exact ⟨beq_eq_false_iff_ne.2 (by omega), beq_eq_false_iff_ne.2 (by omega)⟩)
                            have HCV : Hid (isRead op = false ∧ op ≠ 11) := Lib.hid ⟨by unfold isRead; rw [Bool.or_eq_false_iff]; exact ⟨beq_eq_false_iff_ne.2 (by omega), beq_eq_false_iff_ne.2 (by omega)⟩, by omega⟩
                            have e0 : (op == 0) = false := beq_eq_false_iff_ne.2 (by omega)
                            have e29 : (op == 29) = false := beq_eq_false_iff_ne.2 (by omega)
                            have e5 : (op == 5) = false := beq_eq_false_iff_ne.2 (by omega)
                            have e6 : (op == 6) = false := beq_eq_false_iff_ne.2 (by omega)
                            have e11 : (op == 11) = false := beq_eq_false_iff_ne.2 (by omega)
                            clear h16 hst0 hs o0 o29 o5 o6 o11
                            obtain ⟨p0, p1, p2, p3, p4, p5, p6⟩ := box7 k7
                            obtain ⟨q0, q1, q2, q3, q4, q5, q6, q7, q8, q9, q10, q11⟩ := box12 k1
                            obtain ⟨c0, c1, c2, c3, c4, c5, c6, c7, c8, c9, c10, c11⟩ := box12 kF
                            have y0 := k7.frozen 0
                            have y3 := k7.frozen 3
                            go_upto_region 15 with fail
                            clear p0 p1 p2 p3 p4 p5 p6 q0 q1 q2 q3 q4 q5 q6 q7 q8 q9 q10 q11 c0 c1 c2 c3 c4 c5 c6 c7 c8 c9 c10 c11
                            clear y0 y3
                            have gS := grown_trans (rdr_grown_set W6 g7 0 (.int .i64 (st : Nat))) (rdr_grown_set _ g7 3 (.int .u64 (fc : Nat)))
                            have kS := (k7.set_ 0 (.int .i64 (st : Nat))).set_ 3 (.int .u64 (fc : Nat))
                            replace oS := ozk oS gS (Nat.lt_succ_self _)
                            replace k1 := k1.left gS (Nat.ne_of_lt (Nat.lt_of_succ_lt hg7))
                            replace k2 := k2.left gS (Nat.ne_of_lt hg7)
                            replace kF := kF.left gS (Nat.ne_of_gt h7F)
                            replace rFX := (rd_ans rFX k7 gS (Nat.le_refl _)).more gS.size
                            replace rFV := (rd_ans rFV k7 gS (Nat.le_refl _)).more gS.size
                            replace b := b.trans (below_grown gS (Nat.le_of_lt (Nat.lt_of_succ_lt hg7)) k7.lt)
                            clear k7 gS
                            have k7 := kS
                            clear kS
                            generalize ((W6.setCell ⟨g7, 0, none⟩ (.int .i64 (st : Nat))).setCell ⟨g7, 3, none⟩ (.int .u64 (fc : Nat))) = W7 at oS k1 k2 kF rFX rFV b k7 ⊢
                            generalize W7 = W9 at oS k1 k2 kF rFX rFV b k7 ⊢
                            have HR : Hid (∃ (N : Nat) (SL' : List (ByteArray × ByteArray)) (f : List UInt8), (.int .i64 ((at_ : Int) + (NF : Int)) : Value) = .int .i64 (N : Nat) ∧ gather op 17 l = .done N SL' f ∧ RdFA op f SL' g7 W9 ∧ Blk W9 w.heap.size #[.int .i64 op, .bool qt, .bool fu, .int .i64 bd, .int .u32 (oq : Nat), .slice KA nk ck, VQ, .int .u32 (fl : Nat), .int .u32 (ex : Nat), .int .u64 (cs : Nat), .int .u64 (dl : Nat), .int .u64 (ni : Nat)] 26 ∧ Blk W9 (w.heap.size + 1) #[.int .i64 0, .slice none 0 0, .int .u32 0, .int .u64 0, .int .u64 0, .slice none 0 0, .bool false] 29 ∧ Below w.heap.size w W9) := Lib.hid ⟨at_ + NF, SL, l.drop at_, by go_num, HDN.out.1, rdf_mk k7 (Rd.nil _ _) oS.rz HGN.out.hst HGN.out.hcas HDN.out.2 (lastF_r HNR.out) (lastN_c HNC.out) (lastV_n (Or.inr HCV.out)), k1, k2, b⟩
                            obtain ⟨p0, p1, p2, p3, p4, p5, p6⟩ := box7 k7
                            obtain ⟨q0, q1, q2, q3, q4, q5, q6, q7, q8, q9, q10, q11⟩ := box12 k1
                            obtain ⟨c0, c1, c2, c3, c4, c5, c6, c7, c8, c9, c10, c11⟩ := box12 kF
                            go_wp2_with fail
                            go_meet
                            exact HR.out
              · by_cases h16 : op = 16
                · have e16 : (op == 16) = true := beq_iff_eq.2 h16
                  have HST : Hid ((st : Int) ≠ 0) := Lib.hid (by omega)
                  have es : ((st : Int) == 0) = false := beq_eq_false_iff_ne.2 (by omega)
                  clear h16 hst0 hs
                  obtain ⟨p0, p1, p2, p3, p4, p5, p6⟩ := box7 k7
                  obtain ⟨q0, q1, q2, q3, q4, q5, q6, q7, q8, q9, q10, q11⟩ := box12 k1
                  obtain ⟨c0, c1, c2, c3, c4, c5, c6, c7, c8, c9, c10, c11⟩ := box12 kF
                  have y0 := k7.frozen 0
                  have y3 := k7.frozen 3
                  go_upto_region 15 with fail
                  clear p0 p1 p2 p3 p4 p5 p6 q0 q1 q2 q3 q4 q5 q6 q7 q8 q9 q10 q11 c0 c1 c2 c3 c4 c5 c6 c7 c8 c9 c10 c11
                  clear y0 y3
                  have gS := grown_trans (rdr_grown_set W6 g7 0 (.int .i64 (st : Nat))) (rdr_grown_set _ g7 3 (.int .u64 (fc : Nat)))
                  have kS := (k7.set_ 0 (.int .i64 (st : Nat))).set_ 3 (.int .u64 (fc : Nat))
                  replace oS := ozk oS gS (Nat.lt_succ_self _)
                  replace k1 := k1.left gS (Nat.ne_of_lt (Nat.lt_of_succ_lt hg7))
                  replace k2 := k2.left gS (Nat.ne_of_lt hg7)
                  replace kF := kF.left gS (Nat.ne_of_gt h7F)
                  replace rFX := (rd_ans rFX k7 gS (Nat.le_refl _)).more gS.size
                  replace rFV := (rd_ans rFV k7 gS (Nat.le_refl _)).more gS.size
                  replace b := b.trans (below_grown gS (Nat.le_of_lt (Nat.lt_of_succ_lt hg7)) k7.lt)
                  clear k7 gS
                  have k7 := kS
                  clear kS
                  generalize ((W6.setCell ⟨g7, 0, none⟩ (.int .i64 (st : Nat))).setCell ⟨g7, 3, none⟩ (.int .u64 (fc : Nat))) = W7 at oS k1 k2 kF rFX rFV b k7 ⊢
                  generalize W7 = W9 at oS k1 k2 kF rFX rFV b k7 ⊢
                  have HR : Hid (∃ (N : Nat) (SL' : List (ByteArray × ByteArray)) (f : List UInt8), (.int .i64 ((at_ : Int) + (NF : Int)) : Value) = .int .i64 (N : Nat) ∧ gather op 17 l = .done N SL' f ∧ RdFA op f SL' g7 W9 ∧ Blk W9 w.heap.size #[.int .i64 op, .bool qt, .bool fu, .int .i64 bd, .int .u32 (oq : Nat), .slice KA nk ck, VQ, .int .u32 (fl : Nat), .int .u32 (ex : Nat), .int .u64 (cs : Nat), .int .u64 (dl : Nat), .int .u64 (ni : Nat)] 26 ∧ Blk W9 (w.heap.size + 1) #[.int .i64 0, .slice none 0 0, .int .u32 0, .int .u64 0, .int .u64 0, .slice none 0 0, .bool false] 29 ∧ Below w.heap.size w W9) := Lib.hid ⟨at_ + NF, SL, l.drop at_, by go_num, HDN.out.1, rdf_mk k7 (Rd.nil _ _) oS.rz HGN.out.hst HGN.out.hcas HDN.out.2 (lastF_s (show (fld (l.drop at_) 6 2 : Int) ≠ 0 by rw [← HGN.out.hst]; exact HST.out)) (lastN_s (show (fld (l.drop at_) 6 2 : Int) ≠ 0 by rw [← HGN.out.hst]; exact HST.out)) (lastV_n (Or.inl (show (fld (l.drop at_) 6 2 : Int) ≠ 0 by rw [← HGN.out.hst]; exact HST.out))), k1, k2, b⟩
                  obtain ⟨p0, p1, p2, p3, p4, p5, p6⟩ := box7 k7
                  obtain ⟨q0, q1, q2, q3, q4, q5, q6, q7, q8, q9, q10, q11⟩ := box12 k1
                  obtain ⟨c0, c1, c2, c3, c4, c5, c6, c7, c8, c9, c10, c11⟩ := box12 kF
                  go_wp2_with fail
                  go_meet
                  exact HR.out
                · have e16 : (op == 16) = false := beq_eq_false_iff_ne.2 h16
                  have HST : Hid ((st : Int) ≠ 0) := Lib.hid (by omega)
                  have es : ((st : Int) == 0) = false := beq_eq_false_iff_ne.2 (by omega)
                  clear h16 hst0 hs
                  obtain ⟨p0, p1, p2, p3, p4, p5, p6⟩ := box7 k7
                  obtain ⟨q0, q1, q2, q3, q4, q5, q6, q7, q8, q9, q10, q11⟩ := box12 k1
                  obtain ⟨c0, c1, c2, c3, c4, c5, c6, c7, c8, c9, c10, c11⟩ := box12 kF
                  have y0 := k7.frozen 0
                  have y3 := k7.frozen 3
                  go_upto_region 15 with fail
                  clear p0 p1 p2 p3 p4 p5 p6 q0 q1 q2 q3 q4 q5 q6 q7 q8 q9 q10 q11 c0 c1 c2 c3 c4 c5 c6 c7 c8 c9 c10 c11
                  clear y0 y3
                  have gS := grown_trans (rdr_grown_set W6 g7 0 (.int .i64 (st : Nat))) (rdr_grown_set _ g7 3 (.int .u64 (fc : Nat)))
                  have kS := (k7.set_ 0 (.int .i64 (st : Nat))).set_ 3 (.int .u64 (fc : Nat))
                  replace oS := ozk oS gS (Nat.lt_succ_self _)
                  replace k1 := k1.left gS (Nat.ne_of_lt (Nat.lt_of_succ_lt hg7))
                  replace k2 := k2.left gS (Nat.ne_of_lt hg7)
                  replace kF := kF.left gS (Nat.ne_of_gt h7F)
                  replace rFX := (rd_ans rFX k7 gS (Nat.le_refl _)).more gS.size
                  replace rFV := (rd_ans rFV k7 gS (Nat.le_refl _)).more gS.size
                  replace b := b.trans (below_grown gS (Nat.le_of_lt (Nat.lt_of_succ_lt hg7)) k7.lt)
                  clear k7 gS
                  have k7 := kS
                  clear kS
                  generalize ((W6.setCell ⟨g7, 0, none⟩ (.int .i64 (st : Nat))).setCell ⟨g7, 3, none⟩ (.int .u64 (fc : Nat))) = W7 at oS k1 k2 kF rFX rFV b k7 ⊢
                  generalize W7 = W9 at oS k1 k2 kF rFX rFV b k7 ⊢
                  have HR : Hid (∃ (N : Nat) (SL' : List (ByteArray × ByteArray)) (f : List UInt8), (.int .i64 ((at_ : Int) + (NF : Int)) : Value) = .int .i64 (N : Nat) ∧ gather op 17 l = .done N SL' f ∧ RdFA op f SL' g7 W9 ∧ Blk W9 w.heap.size #[.int .i64 op, .bool qt, .bool fu, .int .i64 bd, .int .u32 (oq : Nat), .slice KA nk ck, VQ, .int .u32 (fl : Nat), .int .u32 (ex : Nat), .int .u64 (cs : Nat), .int .u64 (dl : Nat), .int .u64 (ni : Nat)] 26 ∧ Blk W9 (w.heap.size + 1) #[.int .i64 0, .slice none 0 0, .int .u32 0, .int .u64 0, .int .u64 0, .slice none 0 0, .bool false] 29 ∧ Below w.heap.size w W9) := Lib.hid ⟨at_ + NF, SL, l.drop at_, by go_num, HDN.out.1, rdf_mk k7 (Rd.nil _ _) oS.rz HGN.out.hst HGN.out.hcas HDN.out.2 (lastF_s (show (fld (l.drop at_) 6 2 : Int) ≠ 0 by rw [← HGN.out.hst]; exact HST.out)) (lastN_s (show (fld (l.drop at_) 6 2 : Int) ≠ 0 by rw [← HGN.out.hst]; exact HST.out)) (lastV_n (Or.inl (show (fld (l.drop at_) 6 2 : Int) ≠ 0 by rw [← HGN.out.hst]; exact HST.out))), k1, k2, b⟩
                  obtain ⟨p0, p1, p2, p3, p4, p5, p6⟩ := box7 k7
                  obtain ⟨q0, q1, q2, q3, q4, q5, q6, q7, q8, q9, q10, q11⟩ := box12 k1
                  obtain ⟨c0, c1, c2, c3, c4, c5, c6, c7, c8, c9, c10, c11⟩ := box12 kF
                  go_wp2_with fail
                  go_meet
                  exact HR.out
  case rest =>
    have HRB2 := HRB.out
    clear hG
    obtain ⟨N, SL, f, rfl, hdone, hE, k1, k2, b⟩ := hcut
    obtain ⟨R, hR, VA, nv, cv, SA, sc, k7, rV, rS⟩ := hE.box N
    have hSm := gather_small hdone
    have hA : R.at_ = N ∧ R.SL = SL ∧ R.F < 4294967296 ∧ R.C < 18446744073709551616 ∧ R.N < 18446744073709551616 ∧ R.er = 0 ∧ R.V.length ≤ f.length := by rw [hR]; exact toldF_small op SL f N
    obtain ⟨a1, a2, a3, a4, a5, a6, a7⟩ := hA
    have hnv : nv ≤ 1000000 := by have h1 := rV.len; have h2 := hSm.2.2.2; have h3 := HL.out; have h4 := HN.out; omega
    have hns : R.SL.length ≤ 1000 := by rw [a2]; have := hSm.1; omega
    have hsz : ∀ p ∈ R.SL, p.1.size ≤ 2000000 ∧ p.2.size ≤ 2000000 := by rw [a2]; exact fun p hp => by have := hSm.2.1 p hp; omega
    have hNl : N ≤ n := by have h1 := hSm.2.2.1; have h2 := HL.out; omega
    have HRD : Hid (readF op qt fu oq lk l = if R.okF op qt fu oq lk l then R else .no 310) := Lib.hid (by rw [readF_done hdone, ← hR])
    have hlv := rV.len
    have hlk := HRK.out.len
    have HBY : Hid (∀ W, Below wc.heap.size wc W → Calls Try.prog 28 #[.agg #[.int .i64 op, .bool qt, .bool fu, .int .i64 bd, .int .u32 (oq : Nat), .slice KA nk ck, VQ, .int .u32 (fl : Nat), .int .u32 (ex : Nat), .int .u64 (cs : Nat), .int .u64 (dl : Nat), .int .u64 (ni : Nat)], .agg #[.int .i64 R.st, .slice VA nv cv, .int .u32 (R.F : Nat), .int .u64 (R.C : Nat), .int .u64 (R.N : Nat), .slice SA R.SL.length sc, .bool false]] W (RbQ (rspB (codeB op qt fu) oq (R.ps op fu lk)) (okB op fu R.st lk.length R.V.length) W)) := Lib.hid (fun W bW => by rw [hlv, hlk]; exact rbytes21_any op qt fu bd oq HOQ.out KA nk ck lk VQ fl ex cs dl ni R.st VA nv cv R.V R.F R.C R.N SA R.SL.length sc R.SL false W ((HRK.out.step b).step bW) (rV.step bW) ((rS.below bW).more bW.size) rfl (by have := HNK.out; omega) (by omega) a3 a4 a5 hns hsz)
    have HRT : Hid (∀ W, Below wc.heap.size wc W → Calls Try.prog 24 #[.agg #[.int .i64 op, .bool qt, .bool fu, .int .i64 bd, .int .u32 (oq : Nat), .slice KA nk ck, VQ, .int .u32 (fl : Nat), .int .u32 (ex : Nat), .int .u64 (cs : Nat), .int .u64 (dl : Nat), .int .u64 (ni : Nat)], .agg #[.int .i64 R.st, .slice VA nv cv, .int .u32 (R.F : Nat), .int .u64 (R.C : Nat), .int .u64 (R.N : Nat), .slice SA R.SL.length sc, .bool false]] W (fun e w' => e = .returned (.bool (!R.wrong op)) ∧ Below W.heap.size W w')) := Lib.hid (fun W bW => by have h := rright21_any op qt fu bd oq (.slice KA nk ck) VQ fl ex cs dl ni R.st VA nv cv R.F R.C R.N SA R.SL.length sc false R.SL W ((rS.below bW).more bW.size) (by omega) rfl; unfold AR.wrong; rw [hlv]; exact h)
    obtain ⟨XB, cxb, HXB, hXB⟩ := slc_h HRB2 N (N : Int) rfl hNl
    have HTK : Hid (R.at_ = N) := Lib.hid a1
    have HV := Lib.hid (And.intro rV (And.intro rS (And.intro a1 a6)))
    clear HRB2 hdone hE hR hSm a1 a2 a3 a4 a5 a6 a7 hns hsz hlv hlk hnv rV rS hNl
    obtain ⟨q0, q1, q2, q3, q4, q5, q6, q7, q8, q9, q10, q11⟩ := box12 k1
    obtain ⟨p0, p1, p2, p3, p4, p5, p6⟩ := box7 k7
    go_wp2_with fail
    refine (HBY.out wc (Below.refl _ _)).mono ?_
    rintro e Y2 ⟨A2, N2, c2, rfl, o2, bZ⟩
    clear q0 q1 q2 q3 q4 q5 q6 q7 q8 q9 q10 q11 p0 p1 p2 p3 p4 p5 p6
    have k1 := k1.step bZ
    have k2 := k2.step bZ
    have k7 := k7.step bZ
    have HO : Hid (Rd Y2 Y2.heap.size A2 N2 c2 (rspB (codeB op qt fu) oq (R.ps op fu lk))) := Lib.hid o2.rd
    clear o2
    cases hok : okB op fu R.st lk.length R.V.length with
    | false =>
      have HNO : Hid (¬ (R.okF op qt fu oq lk l)) := Lib.hid (fun h => by have h1 := h.1; rw [hok] at h1; cases h1)
      clear hok
      have bF := bZ
      generalize Y2 = WF at k1 k2 k7 bF bZ HO ⊢
      clear HO bZ
      have kf := blk_put7 k2 (.int .i64 0) (.slice none 0 0) (.int .u32 0) (.int .u64 0) (.int .u64 0) (.slice none 0 0) (.bool false)
      have gs := grown_put7 WF (w.heap.size + 1) (.int .i64 0) (.slice none 0 0) (.int .u32 0) (.int .u64 0) (.int .u64 0) (.slice none 0 0) (.bool false)
      have bf := (below_step b bF).trans (below_grown gs (Nat.le_succ _) k2.lt)
      obtain ⟨r0, r1, r2, r3, r4, r5, r6⟩ := box7 k2
      have y0 := k2.frozen 0
      have y1 := k2.frozen 1
      have y2 := k2.frozen 2
      have y3 := k2.frozen 3
      have y4 := k2.frozen 4
      have y5 := k2.frozen 5
      have y6 := k2.frozen 6
      obtain ⟨t0, t1, t2, t3, t4, t5, t6⟩ := box7 kf
      have HG : Hid (RfP op qt fu oq lk l w (.returned (.tuple #[.agg #[.int .i64 0, .slice none 0 0, .int .u32 0, .int .u64 0, .int .u64 0, .slice none 0 0, .bool false], .int .i64 0, .int .i64 310])) _) := Lib.hid (rfp_no HRD.out HNO.out bf)
      clear kf gs bf b bF k1 k2 k7
      go_wp2_with fail
      refine bodyPost_ret (v := .tuple #[.agg #[.int .i64 0, .slice none 0 0, .int .u32 0, .int .u64 0, .int .u64 0, .slice none 0 0, .bool false], .int .i64 0, .int .i64 310]) (by simp [results, Try.results60, go_sem, t0, t1, t2, t3, t4, t5, t6]) rfl ?_
      exact HG.out
    | true =>
      have HF2 := Lib.hid hok
      clear hok
      obtain ⟨q0, q1, q2, q3, q4, q5, q6, q7, q8, q9, q10, q11⟩ := box12 k1
      obtain ⟨p0, p1, p2, p3, p4, p5, p6⟩ := box7 k7
      go_wp2_with fail
      refine (HRT.out Y2 bZ).mono ?_
      rintro e Y3 ⟨rfl, b3⟩
      clear q0 q1 q2 q3 q4 q5 q6 q7 q8 q9 q10 q11 p0 p1 p2 p3 p4 p5 p6
      have k1 := k1.step b3
      have k2 := k2.step b3
      have k7 := k7.step b3
      have bF := below_step bZ b3
      have HB3 := Lib.hid b3
      clear b3 bZ
      cases hw : R.wrong op with
      | true =>
        have HNO : Hid (¬ (R.okF op qt fu oq lk l)) := Lib.hid (fun h => by have h1 := h.2.1; rw [hw] at h1; cases h1)
        clear hw
        generalize Y3 = WF at k1 k2 k7 bF HB3 ⊢
        clear HB3
        have kf := blk_put7 k2 (.int .i64 0) (.slice none 0 0) (.int .u32 0) (.int .u64 0) (.int .u64 0) (.slice none 0 0) (.bool false)
        have gs := grown_put7 WF (w.heap.size + 1) (.int .i64 0) (.slice none 0 0) (.int .u32 0) (.int .u64 0) (.int .u64 0) (.slice none 0 0) (.bool false)
        have bf := (below_step b bF).trans (below_grown gs (Nat.le_succ _) k2.lt)
        obtain ⟨r0, r1, r2, r3, r4, r5, r6⟩ := box7 k2
        have y0 := k2.frozen 0
        have y1 := k2.frozen 1
        have y2 := k2.frozen 2
        have y3 := k2.frozen 3
        have y4 := k2.frozen 4
        have y5 := k2.frozen 5
        have y6 := k2.frozen 6
        obtain ⟨t0, t1, t2, t3, t4, t5, t6⟩ := box7 kf
        have HG : Hid (RfP op qt fu oq lk l w (.returned (.tuple #[.agg #[.int .i64 0, .slice none 0 0, .int .u32 0, .int .u64 0, .int .u64 0, .slice none 0 0, .bool false], .int .i64 0, .int .i64 310])) _) := Lib.hid (rfp_no HRD.out HNO.out bf)
        clear kf gs bf b bF k1 k2 k7
        go_wp2_with fail
        refine bodyPost_ret (v := .tuple #[.agg #[.int .i64 0, .slice none 0 0, .int .u32 0, .int .u64 0, .int .u64 0, .slice none 0 0, .bool false], .int .i64 0, .int .i64 310]) (by simp [results, Try.results60, go_sem, t0, t1, t2, t3, t4, t5, t6]) rfl ?_
        exact HG.out
      | false =>
        have HW := Lib.hid hw
        clear hw
        have HE := Lib.hid (same_any A2 XB N2 c2 N cxb Y3.heap.size (rspB (codeB op qt fu) oq (R.ps op fu lk)) (l.take N) Y3 (HO.out.step HB3.out) (hXB _ _ (HRB.out.step (below_step b bF))))
        clear HB3
        go_wp2_with fail
        refine HE.out.mono ?_
        rintro e WF ⟨rfl, bE⟩
        replace bE := quiet_self bE
        have k1 := k1.step bE
        have k2 := k2.step bE
        have k7 := k7.step bE
        have bF := below_step bF bE
        clear bE
        cases he : eqB (rspB (codeB op qt fu) oq (R.ps op fu lk)) (l.take N) with
        | false =>
          have HNO : Hid (¬ (R.okF op qt fu oq lk l)) := Lib.hid (fun h => eqB_no he (by rw [← HTK.out]; exact h.2.2))
          clear he
          have kf := blk_put7 k2 (.int .i64 0) (.slice none 0 0) (.int .u32 0) (.int .u64 0) (.int .u64 0) (.slice none 0 0) (.bool false)
          have gs := grown_put7 WF (w.heap.size + 1) (.int .i64 0) (.slice none 0 0) (.int .u32 0) (.int .u64 0) (.int .u64 0) (.slice none 0 0) (.bool false)
          have bf := (below_step b bF).trans (below_grown gs (Nat.le_succ _) k2.lt)
          obtain ⟨r0, r1, r2, r3, r4, r5, r6⟩ := box7 k2
          have y0 := k2.frozen 0
          have y1 := k2.frozen 1
          have y2 := k2.frozen 2
          have y3 := k2.frozen 3
          have y4 := k2.frozen 4
          have y5 := k2.frozen 5
          have y6 := k2.frozen 6
          obtain ⟨t0, t1, t2, t3, t4, t5, t6⟩ := box7 kf
          have HG : Hid (RfP op qt fu oq lk l w (.returned (.tuple #[.agg #[.int .i64 0, .slice none 0 0, .int .u32 0, .int .u64 0, .int .u64 0, .slice none 0 0, .bool false], .int .i64 0, .int .i64 310])) _) := Lib.hid (rfp_no HRD.out HNO.out bf)
          clear kf gs bf b bF k1 k2 k7
          go_wp2_with fail
          refine bodyPost_ret (v := .tuple #[.agg #[.int .i64 0, .slice none 0 0, .int .u32 0, .int .u64 0, .int .u64 0, .slice none 0 0, .bool false], .int .i64 0, .int .i64 310]) (by simp [results, Try.results60, go_sem, t0, t1, t2, t3, t4, t5, t6]) rfl ?_
          exact HG.out
        | true =>
          have hok : R.okF op qt fu oq lk l := ⟨HF2.out, HW.out, by rw [HTK.out]; exact eqB_yes he⟩
          have hrd : readF op qt fu oq lk l = R := by rw [HRD.out, if_pos hok]
          clear he hok
          have kf := blk_put7 k2 (.int .i64 R.st) (.slice VA nv cv) (.int .u32 (R.F : Nat)) (.int .u64 (R.C : Nat)) (.int .u64 (R.N : Nat)) (.slice SA R.SL.length sc) (.bool false)
          have gs := grown_put7 WF (w.heap.size + 1) (.int .i64 R.st) (.slice VA nv cv) (.int .u32 (R.F : Nat)) (.int .u64 (R.C : Nat)) (.int .u64 (R.N : Nat)) (.slice SA R.SL.length sc) (.bool false)
          have bf := (below_step b bF).trans (below_grown gs (Nat.le_succ _) k2.lt)
          obtain ⟨r0, r1, r2, r3, r4, r5, r6⟩ := box7 k2
          have y0 := k2.frozen 0
          have y1 := k2.frozen 1
          have y2 := k2.frozen 2
          have y3 := k2.frozen 3
          have y4 := k2.frozen 4
          have y5 := k2.frozen 5
          have y6 := k2.frozen 6
          obtain ⟨p0, p1, p2, p3, p4, p5, p6⟩ := box7 k7
          obtain ⟨t0, t1, t2, t3, t4, t5, t6⟩ := box7 kf
          have HG : Hid (RfP op qt fu oq lk l w (.returned (.tuple #[.agg #[.int .i64 R.st, .slice VA nv cv, .int .u32 (R.F : Nat), .int .u64 (R.C : Nat), .int .u64 (R.N : Nat), .slice SA R.SL.length sc, .bool false], .int .i64 (N : Nat), .int .i64 0])) _) := Lib.hid (by obtain ⟨v1, v2, v3, v4⟩ := HV.out; exact rfp_yes hrd v3 v4 (rd_zero (v1.step bF) k2 gs) (rz_zero (v2.below bF |>.more bF.size) k2 gs) bf)
          clear kf gs bf b bF k1 k2 k7 hrd
          go_wp2_with fail
          refine bodyPost_ret (v := .tuple #[.agg #[.int .i64 R.st, .slice VA nv cv, .int .u32 (R.F : Nat), .int .u64 (R.C : Nat), .int .u64 (R.N : Nat), .slice SA R.SL.length sc, .bool false], .int .i64 (N : Nat), .int .i64 0]) (by simp [results, Try.results60, go_sem, t0, t1, t2, t3, t4, t5, t6]) rfl ?_
          exact HG.out
end Go.Proofs.Ytnghmgbmflcngaa

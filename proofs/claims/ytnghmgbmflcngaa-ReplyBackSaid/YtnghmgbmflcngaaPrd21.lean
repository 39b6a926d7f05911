/- reply.Read. Conditions: typed in each theorem. -/
import Derived.Test.YtnghmgbmflcngaaRdh
import Derived.Test.YtnghmgbmflcngaaStra
import Derived.Scope
import Derived.Deep.CutBlock
import Derived.Deep.DeepCutAuto
namespace Go.Proofs.Ytnghmgbmflcngaa
set_option linter.unusedVariables false
open Go.RowKit

theorem gather_er {op : Int} {k : Nat} : ∀ {l : List UInt8} {N : Nat} {SL : List (ByteArray × ByteArray)} {f : List UInt8}, gather op k l = .done N SL f → getEr f = 0 := by
  induction k with
  | zero =>
    intro l N SL f h
    rw [gather] at h
    split at h <;> cases h
  | succ k ih =>
    intro l N SL f h
    rw [gather] at h
    split at h
    · cases h
    · split at h
      · cases h
      · rename_i h1 h2
        split at h
        · cases hg : gather op k (l.drop (24 + fld l 8 4)) with
          | short => rw [hg] at h; cases h
          | bad => rw [hg] at h; cases h
          | done N1 SL1 f1 =>
            rw [hg] at h
            injection h with e1 e2 e3
            rw [← e3]
            exact ih hg
        · injection h with e1 e2 e3
          rw [← e3]
          exact Classical.byContradiction h2
theorem told_v (op : Int) (SL : List (ByteArray × ByteArray)) (f : List UInt8) (N : Nat) : (toldA op SL f N).V.length ≤ (gV f).length := by
  show (lastV _ _ _).length ≤ _
  unfold lastV
  split
  · exact Nat.le_refl _
  · simp
set_option maxRecDepth 100000 in
set_option maxHeartbeats 4000000 in
theorem pread_any (op : Int) (qt fu : Bool) (bd : Int) (oq fl ex cs dl ni : Nat) (KA : Option Addr) (nk ck : Nat) (lk : List UInt8) (VQ : Value) (A : Option Addr) (n c : Nat) (l : List UInt8) (w : World) (rK : Rd w w.heap.size KA nk ck lk) (rb : Rd w w.heap.size A n c l) (hn : n ≤ 200000000000000) (hnk : nk ≤ 1000000) (hoq : oq < 4294967296) :
    Calls Try.prog 59 #[.agg #[.int .i64 op, .bool qt, .bool fu, .int .i64 bd, .int .u32 (oq : Nat), .slice KA nk ck, VQ, .int .u32 (fl : Nat), .int .u32 (ex : Nat), .int .u64 (cs : Nat), .int .u64 (dl : Nat), .int .u64 (ni : Nat)], .slice A n c] w (RdP op qt fu oq lk l w) := by
  have k1 := (Blk.new w #[.int .i64 op, .bool qt, .bool fu, .int .i64 bd, .int .u32 (oq : Nat), .slice KA nk ck, VQ, .int .u32 (fl : Nat), .int .u32 (ex : Nat), .int .u64 (cs : Nat), .int .u64 (dl : Nat), .int .u64 (ni : Nat)] 26).alloc (.cells #[.int .i64 0, .slice none 0 0, .int .u32 0, .int .u64 0, .int .u64 0, .slice none 0 0, .bool false] 29)
  have k2 := Blk.new (w.alloc (.cells #[.int .i64 op, .bool qt, .bool fu, .int .i64 bd, .int .u32 (oq : Nat), .slice KA nk ck, VQ, .int .u32 (fl : Nat), .int .u32 (ex : Nat), .int .u64 (cs : Nat), .int .u64 (dl : Nat), .int .u64 (ni : Nat)] 26)) #[.int .i64 0, .slice none 0 0, .int .u32 0, .int .u64 0, .int .u64 0, .slice none 0 0, .bool false] 29
  have b := below_a1' (below_a1' (Below.refl w.heap.size w) (.cells #[.int .i64 op, .bool qt, .bool fu, .int .i64 bd, .int .u32 (oq : Nat), .slice KA nk ck, VQ, .int .u32 (fl : Nat), .int .u32 (ex : Nat), .int .u64 (cs : Nat), .int .u64 (dl : Nat), .int .u64 (ni : Nat)] 26)) (.cells #[.int .i64 0, .slice none 0 0, .int .u32 0, .int .u64 0, .int .u64 0, .slice none 0 0, .bool false] 29)
  rw [World.size_alloc] at k2
  have HRB := Lib.hid rb
  have HN := Lib.hid hn
  have HL := Lib.hid rb.len
  have HRK := Lib.hid rK
  have HNK := Lib.hid hnk
  have HOQ := Lib.hid hoq
  clear rb hn rK hnk hoq
  go_enter Try.func59, Try.ntmps59
  go_upto_region 1 with fail
  generalize (w.alloc (.cells #[.int .i64 op, .bool qt, .bool fu, .int .i64 bd, .int .u32 (oq : Nat), .slice KA nk ck, VQ, .int .u32 (fl : Nat), .int .u32 (ex : Nat), .int .u64 (cs : Nat), .int .u64 (dl : Nat), .int .u64 (ni : Nat)] 26)).alloc (.cells #[.int .i64 0, .slice none 0 0, .int .u32 0, .int .u64 0, .int .u64 0, .slice none 0 0, .bool false] 29) = W0 at k1 k2 b ⊢
  refine wp_scope_straight ?_
  go_upto_region 2 with fail
  have k7 := Blk.new W0 #[.int .i64 0, .slice none 0 0, .int .u32 0, .int .u64 0, .int .u64 0, .slice none 0 0, .bool false] 29
  have ba := below_a1' (Below.refl W0.heap.size W0) (.cells #[.int .i64 0, .slice none 0 0, .int .u32 0, .int .u64 0, .int .u64 0, .slice none 0 0, .bool false] 29)
  have hg7 := k2.lt
  replace k1 := k1.step ba
  replace k2 := k2.step ba
  replace b := below_step b ba
  clear ba
  generalize W0.alloc (.cells #[.int .i64 0, .slice none 0 0, .int .u32 0, .int .u64 0, .int .u64 0, .slice none 0 0, .bool false] 29) = W1 at k1 k2 k7 b ⊢
  generalize W0.heap.size = g7 at k7 hg7 ⊢
  go_wp2_with fail
  refine wp_label ?_
  have hG := GthI.start op l
  go_upto_block 0 with fail
  go_cut [8] (fun s8 wx => ∃ (N : Nat) (SL : List (ByteArray × ByteArray)) (f : List UInt8), s8 = .int .i64 (N : Nat) ∧ gather op 17 l = .done N SL f ∧ RdE op f SL g7 w wx ∧ Blk wx w.heap.size #[.int .i64 op, .bool qt, .bool fu, .int .i64 bd, .int .u32 (oq : Nat), .slice KA nk ck, VQ, .int .u32 (fl : Nat), .int .u32 (ex : Nat), .int .u64 (cs : Nat), .int .u64 (dl : Nat), .int .u64 (ni : Nat)] 26 ∧ Blk wx (w.heap.size + 1) #[.int .i64 0, .slice none 0 0, .int .u32 0, .int .u64 0, .int .u64 0, .slice none 0 0, .bool false] 29 ∧ Below w.heap.size w wx)
  case first =>
    go_wp2_with fail
    go_loopw [8, 9, 10, 11, 12] (fun s8 s9 _ _ _ wr => ∃ (n' at_ cas : Nat) (SL : List (ByteArray × ByteArray)) (SA : Option Addr) (sc : Nat), s8 = .int .i64 (at_ : Nat) ∧ s9 = .int .i64 (n' : Nat) ∧ GthI op l n' at_ SL ∧ Blk wr g7 #[.int .i64 0, .slice none 0 0, .int .u32 0, .int .u64 (cas : Nat), .int .u64 0, .slice SA n' sc, .bool false] 29 ∧ Oz wr (g7 + 1) 96 2 SA n' sc (SL.map stCells).flatten ∧ Blk wr w.heap.size #[.int .i64 op, .bool qt, .bool fu, .int .i64 bd, .int .u32 (oq : Nat), .slice KA nk ck, VQ, .int .u32 (fl : Nat), .int .u32 (ex : Nat), .int .u64 (cs : Nat), .int .u64 (dl : Nat), .int .u64 (ni : Nat)] 26 ∧ Blk wr (w.heap.size + 1) #[.int .i64 0, .slice none 0 0, .int .u32 0, .int .u64 0, .int .u64 0, .slice none 0 0, .bool false] 29 ∧ Below w.heap.size w wr) (fun _ s9 _ _ _ _ => 18 - (intOf s9).toNat)
    case atStart => exact ⟨0, 0, 0, [], none, 0, rfl, rfl, hG, k7, Oz.nil _ _ _ _, k1, k2, b⟩
    case round =>
      clear hG k7 k1 k2 b
      obtain ⟨n', at_, cas, SL, SA, sc, rfl, rfl, hG, k7, oS, k1, k2, b⟩ := hrel
      have hat : at_ ≤ n := by rw [← HL.out]; exact hG.2.1
      obtain ⟨X, cx, HX, hX⟩ := slc_l HRB.out at_ (at_ : Int) rfl hat
      by_cases h9 : getEr (l.drop at_) = 9
      · have he : getEr (l.drop at_) ≠ 0 := by rw [h9]; decide
        have H9 := Lib.hid h9
        clear h9
        have HGE : Hid (Calls Try.prog 51 #[.slice X (n - at_) cx] wr (GetNo 9 wr)) := Lib.hid (by have h := get_gno X (n - at_) cx _ wr (hX _ _ (HRB.out.step b)) he; first | (rw [H9.out] at h; exact h) | (rw [← HER.out] at h; exact h))
        clear he
        go_wp2_with fail
        refine HGE.out.mono ?_
        rintro e w5 ⟨rfl, b5⟩
        unfold zeroFr
        clear HGE oS
        replace k1 := k1.step b5
        replace k2 := k2.step b5
        replace k7 := k7.step b5
        replace b := below_step b b5
        clear b5
        go_upto_region 6 with fail
        have ba := below_a1' (Below.refl w5.heap.size w5) (.cells #[.int .u8 0, .int .u8 0, .int .u16 0, .int .u8 0, .int .u8 0, .int .u16 0, .int .u32 0, .int .u32 0, .int .u64 0, .slice none 0 0, .slice none 0 0, .slice none 0 0] 61)
        replace k1 := k1.step ba
        replace k2 := k2.step ba
        replace k7 := k7.step ba
        replace b := below_step b ba
        clear ba
        generalize w5.alloc (.cells #[.int .u8 0, .int .u8 0, .int .u16 0, .int .u8 0, .int .u8 0, .int .u16 0, .int .u32 0, .int .u32 0, .int .u64 0, .slice none 0 0, .slice none 0 0, .slice none 0 0] 61) = W6 at k1 k2 k7 b ⊢
        have kf := blk_put7 k2 (.int .i64 0) (.slice none 0 0) (.int .u32 0) (.int .u64 0) (.int .u64 0) (.slice none 0 0) (.bool false)
        have gs := grown_put7 W6 (w.heap.size + 1) (.int .i64 0) (.slice none 0 0) (.int .u32 0) (.int .u64 0) (.int .u64 0) (.slice none 0 0) (.bool false)
        have bf := b.trans (below_grown gs (Nat.le_succ _) k2.lt)
        obtain ⟨q0, q1, q2, q3, q4, q5, q6⟩ := box7 k2
        have y0 := k2.frozen 0
        have y1 := k2.frozen 1
        have y2 := k2.frozen 2
        have y3 := k2.frozen 3
        have y4 := k2.frozen 4
        have y5 := k2.frozen 5
        have y6 := k2.frozen 6
        obtain ⟨t0, t1, t2, t3, t4, t5, t6⟩ := box7 kf
        have HBF := Lib.hid bf
        have HG := Lib.hid (hG.short H9.out)
        clear kf gs bf b k1 k2 k7 hG
        go_wp2_with fail
        refine bodyPost_ret (v := .tuple #[.agg #[.int .i64 0, .slice none 0 0, .int .u32 0, .int .u64 0, .int .u64 0, .slice none 0 0, .bool false], .int .i64 0, .int .i64 9]) (by simp [results, Try.results59, go_sem, t0, t1, t2, t3, t4, t5, t6]) rfl ?_
        exact rdp_short HG.out HBF.out
      · by_cases he : getEr (l.drop at_) ≠ 0
        · have H9 := Lib.hid h9
          have HE := Lib.hid he
          have e9 : (getEr (l.drop at_) == 9) = false := beq_eq_false_iff_ne.2 h9
          have e0 : (getEr (l.drop at_) != 0) = true := bne_iff_ne.2 he
          obtain ⟨er, her⟩ : ∃ x, x = getEr (l.drop at_) := ⟨_, rfl⟩
          rw [← her] at e9 e0
          have HER := Lib.hid her
          clear h9 her
          have HGE : Hid (Calls Try.prog 51 #[.slice X (n - at_) cx] wr (GetNo er wr)) := Lib.hid (by have h := get_gno X (n - at_) cx _ wr (hX _ _ (HRB.out.step b)) he; first | (rw [H9.out] at h; exact h) | (rw [← HER.out] at h; exact h))
          clear he
          go_wp2_with fail
          refine HGE.out.mono ?_
          rintro e w5 ⟨rfl, b5⟩
          unfold zeroFr
          clear HGE oS
          replace k1 := k1.step b5
          replace k2 := k2.step b5
          replace k7 := k7.step b5
          replace b := below_step b b5
          clear b5
          go_upto_region 6 with fail
          have ba := below_a1' (Below.refl w5.heap.size w5) (.cells #[.int .u8 0, .int .u8 0, .int .u16 0, .int .u8 0, .int .u8 0, .int .u16 0, .int .u32 0, .int .u32 0, .int .u64 0, .slice none 0 0, .slice none 0 0, .slice none 0 0] 61)
          replace k1 := k1.step ba
          replace k2 := k2.step ba
          replace k7 := k7.step ba
          replace b := below_step b ba
          clear ba
          generalize w5.alloc (.cells #[.int .u8 0, .int .u8 0, .int .u16 0, .int .u8 0, .int .u8 0, .int .u16 0, .int .u32 0, .int .u32 0, .int .u64 0, .slice none 0 0, .slice none 0 0, .slice none 0 0] 61) = W6 at k1 k2 k7 b ⊢
          have kf := blk_put7 k2 (.int .i64 0) (.slice none 0 0) (.int .u32 0) (.int .u64 0) (.int .u64 0) (.slice none 0 0) (.bool false)
          have gs := grown_put7 W6 (w.heap.size + 1) (.int .i64 0) (.slice none 0 0) (.int .u32 0) (.int .u64 0) (.int .u64 0) (.slice none 0 0) (.bool false)
          have bf := b.trans (below_grown gs (Nat.le_succ _) k2.lt)
          obtain ⟨q0, q1, q2, q3, q4, q5, q6⟩ := box7 k2
          have y0 := k2.frozen 0
          have y1 := k2.frozen 1
          have y2 := k2.frozen 2
          have y3 := k2.frozen 3
          have y4 := k2.frozen 4
          have y5 := k2.frozen 5
          have y6 := k2.frozen 6
          obtain ⟨t0, t1, t2, t3, t4, t5, t6⟩ := box7 kf
          have HBF := Lib.hid bf
          have HG := Lib.hid (hG.bad H9.out (Or.inl HE.out))
          clear kf gs bf b k1 k2 k7 hG
          go_wp2_with fail
          refine bodyPost_ret (v := .tuple #[.agg #[.int .i64 0, .slice none 0 0, .int .u32 0, .int .u64 0, .int .u64 0, .slice none 0 0, .bool false], .int .i64 0, .int .i64 310]) (by simp [results, Try.results59, go_sem, t0, t1, t2, t3, t4, t5, t6]) rfl ?_
          exact rdp_bad HG.out HBF.out
        · have he0 : getEr (l.drop at_) = 0 := Classical.byContradiction he
          obtain ⟨mg, fop, kl, el, ty, st, bl, foq, fc, fnv, NF, hGN, hget, -⟩ := get_go (l.drop at_) he0
          have HE0 := Lib.hid he0
          have H9 := Lib.hid h9
          have HGN := Lib.hid hGN
          have HGE := Lib.hid (hget X (n - at_) cx wr (hX _ _ (HRB.out.step b)))
          clear he0 h9 he hGN hget hX
          go_wp2_with fail
          refine HGE.out.mono ?_
          rintro e w5 ⟨FX, fcx, FK, fck, FV, fcv, rfl, rFX, rFK, rFV, b5⟩
          clear HGE
          replace k1 := k1.step b5
          replace k2 := k2.step b5
          replace k7 := k7.step b5
          replace oS := oS.step b5
          replace b := below_step b b5
          clear b5
          have h7F := k7.lt
          go_upto_region 6 with fail
          have kF := Blk.new w5 #[.int .u8 (mg : Nat), .int .u8 (fop : Nat), .int .u16 (kl : Nat), .int .u8 (el : Nat), .int .u8 (ty : Nat), .int .u16 (st : Nat), .int .u32 (bl : Nat), .int .u32 (foq : Nat), .int .u64 (fc : Nat), .slice FX el fcx, .slice FK kl fck, .slice FV fnv fcv] 61
          have ba := below_a1' (Below.refl w5.heap.size w5) (.cells #[.int .u8 (mg : Nat), .int .u8 (fop : Nat), .int .u16 (kl : Nat), .int .u8 (el : Nat), .int .u8 (ty : Nat), .int .u16 (st : Nat), .int .u32 (bl : Nat), .int .u32 (foq : Nat), .int .u64 (fc : Nat), .slice FX el fcx, .slice FK kl fck, .slice FV fnv fcv] 61)
          replace k1 := k1.step ba
          replace k2 := k2.step ba
          replace k7 := k7.step ba
          replace oS := oS.step ba
          replace rFX := rFX.step ba
          replace rFK := rFK.step ba
          replace rFV := rFV.step ba
          replace b := below_step b ba
          clear ba
          generalize w5.alloc (.cells #[.int .u8 (mg : Nat), .int .u8 (fop : Nat), .int .u16 (kl : Nat), .int .u8 (el : Nat), .int .u8 (ty : Nat), .int .u16 (st : Nat), .int .u32 (bl : Nat), .int .u32 (foq : Nat), .int .u64 (fc : Nat), .slice FX el fcx, .slice FK kl fck, .slice FV fnv fcv] 61) = W6 at k1 k2 k7 oS rFX rFK rFV kF b ⊢
          generalize w5.heap.size = gF at kF h7F ⊢
          by_cases h17 : n' = 17
          · have e17 : ((16 : Int) < (n' : Int)) = True := eq_true (by omega)
            have H17 := Lib.hid h17
            clear h17 kF rFX rFK rFV oS
            have kf := blk_put7 k2 (.int .i64 0) (.slice none 0 0) (.int .u32 0) (.int .u64 0) (.int .u64 0) (.slice none 0 0) (.bool false)
            have gs := grown_put7 W6 (w.heap.size + 1) (.int .i64 0) (.slice none 0 0) (.int .u32 0) (.int .u64 0) (.int .u64 0) (.slice none 0 0) (.bool false)
            have bf := b.trans (below_grown gs (Nat.le_succ _) k2.lt)
            obtain ⟨q0, q1, q2, q3, q4, q5, q6⟩ := box7 k2
            have y0 := k2.frozen 0
            have y1 := k2.frozen 1
            have y2 := k2.frozen 2
            have y3 := k2.frozen 3
            have y4 := k2.frozen 4
            have y5 := k2.frozen 5
            have y6 := k2.frozen 6
            obtain ⟨t0, t1, t2, t3, t4, t5, t6⟩ := box7 kf
            have HBF := Lib.hid bf
            have HG := Lib.hid (hG.bad H9.out (Or.inr H17.out))
            clear kf gs bf b k1 k2 k7 hG
            go_wp2_with fail
            refine bodyPost_ret (v := .tuple #[.agg #[.int .i64 0, .slice none 0 0, .int .u32 0, .int .u64 0, .int .u64 0, .slice none 0 0, .bool false], .int .i64 0, .int .i64 310]) (by simp [results, Try.results59, go_sem, t0, t1, t2, t3, t4, t5, t6]) rfl ?_
            exact rdp_bad HG.out HBF.out
          · have e17 : ((16 : Int) < (n' : Int)) = False := eq_false (by have := hG.1; omega)
            have H17 := Lib.hid h17
            have hNL := HGN.out.hle
            rw [List.length_drop] at hNL
            have HNB : Hid (at_ + NF ≤ n) := Lib.hid (by have h1 := HL.out; have h2 := hat; omega)
            have w1 : IntKind.i64.wrap ((at_ : Int) + (NF : Int)) = (at_ : Int) + (NF : Int) := IntWalk.i64_in _ (by have h1 := HNB.out; have h2 := HN.out; omega)
            have w1' : wrap64 ((at_ : Int) + (NF : Int)) = (at_ : Int) + (NF : Int) := IntWalk.wrap64_in _ (by have h1 := HNB.out; have h2 := HN.out; omega)
            clear h17 hNL hat
            have hst5 : st < 65536 := by rw [HGN.out.hst]; exact fld_lt _ _ _
            have w2 : IntKind.i64.wrap (st : Int) = (st : Int) := IntWalk.i64_in _ (by omega)
            clear hst5
            go_upto_region 11 with fail
            go_cut [] (fun wx => Blk wx g7 #[.int .i64 (st : Nat), .slice none 0 0, .int .u32 0, .int .u64 (fc : Nat), .int .u64 0, .slice SA n' sc, .bool false] 29 ∧ Blk wx gF #[.int .u8 (mg : Nat), .int .u8 (fop : Nat), .int .u16 (kl : Nat), .int .u8 (el : Nat), .int .u8 (ty : Nat), .int .u16 (st : Nat), .int .u32 (bl : Nat), .int .u32 (foq : Nat), .int .u64 (fc : Nat), .slice FX el fcx, .slice FK kl fck, .slice FV fnv fcv] 61 ∧ Oz wx (g7 + 1) 96 2 SA n' sc (SL.map stCells).flatten ∧ Blk wx w.heap.size #[.int .i64 op, .bool qt, .bool fu, .int .i64 bd, .int .u32 (oq : Nat), .slice KA nk ck, VQ, .int .u32 (fl : Nat), .int .u32 (ex : Nat), .int .u64 (cs : Nat), .int .u64 (dl : Nat), .int .u64 (ni : Nat)] 26 ∧ Blk wx (w.heap.size + 1) #[.int .i64 0, .slice none 0 0, .int .u32 0, .int .u64 0, .int .u64 0, .slice none 0 0, .bool false] 29 ∧ Rd wx wx.heap.size FX el fcx (gX (l.drop at_)) ∧ Rd wx wx.heap.size FK kl fck (gK (l.drop at_)) ∧ Rd wx wx.heap.size FV fnv fcv (gV (l.drop at_)) ∧ Below w.heap.size w wx)
            case first =>
              refine wp_region_noPanic ?_
              refine region_T (fun wx => Blk wx gF #[.int .u8 (mg : Nat), .int .u8 (fop : Nat), .int .u16 (kl : Nat), .int .u8 (el : Nat), .int .u8 (ty : Nat), .int .u16 (st : Nat), .int .u32 (bl : Nat), .int .u32 (foq : Nat), .int .u64 (fc : Nat), .slice FX el fcx, .slice FK kl fck, .slice FV fnv fcv] 61) 10 (by kernel_rfl) ?_
              have bD : Below W6.heap.size W6 W6.drew := (Below.refl _ _).drew
              replace k1 := k1.step bD
              replace k2 := k2.step bD
              replace k7 := k7.step bD
              replace kF := kF.step bD
              replace oS := oS.step bD
              replace rFX := rFX.step bD
              replace rFK := rFK.step bD
              replace rFV := rFV.step bD
              replace b := below_step b bD
              have hHeld := kF
              clear bD
              generalize W6.drew = Y0 at k1 k2 k7 kF oS rFX rFK rFV b hHeld ⊢
              refine takeT (i := 0) (v := ?_) rfl (by kernel_rfl) (by kernel_rfl) (by decide) (by kernel_rfl) (by kernel_rfl) (fun _ _ _ h => h) (Or.inl ⟨by rfl, ?_⟩) hHeld ?_
              rotate_left
              · (intro wx hSw; obtain ⟨a0, a1, a2, a3, a4, a5, a6, a7, a8, a9, a10, a11⟩ := box12 hSw; go_simp; try (with_reducible rfl))
              try simp only [Act.put, List.setIfInBounds_toArray, List.set_cons_zero, List.set_cons_succ]
              refine takeT (i := 1) (v := ?_) rfl (by kernel_rfl) (by kernel_rfl) (by decide) (by kernel_rfl) (by kernel_rfl) (fun _ _ _ h => h) (Or.inl ⟨by rfl, ?_⟩) hHeld ?_
              rotate_left
              · (intro wx hSw; obtain ⟨a0, a1, a2, a3, a4, a5, a6, a7, a8, a9, a10, a11⟩ := box12 hSw; go_simp; try (with_reducible rfl))
              try simp only [Act.put, List.setIfInBounds_toArray, List.set_cons_zero, List.set_cons_succ]
              refine takeT (i := 2) (v := ?_) rfl (by kernel_rfl) (by kernel_rfl) (by decide) (by kernel_rfl) (by kernel_rfl) (fun _ _ _ h => h) (Or.inl ⟨by rfl, ?_⟩) hHeld ?_
              rotate_left
              · (intro wx hSw; obtain ⟨a0, a1, a2, a3, a4, a5, a6, a7, a8, a9, a10, a11⟩ := box12 hSw; go_simp; try (with_reducible rfl))
              try simp only [Act.put, List.setIfInBounds_toArray, List.set_cons_zero, List.set_cons_succ]
              refine takeT (i := 3) (v := ?_) rfl (by kernel_rfl) (by kernel_rfl) (by decide) (by kernel_rfl) (by kernel_rfl) (fun _ _ _ h => h) (Or.inl ⟨by rfl, ?_⟩) hHeld ?_
              rotate_left
              · (intro wx hSw; obtain ⟨a0, a1, a2, a3, a4, a5, a6, a7, a8, a9, a10, a11⟩ := box12 hSw; go_simp; try (with_reducible rfl))
              try simp only [Act.put, List.setIfInBounds_toArray, List.set_cons_zero, List.set_cons_succ]
              refine takeT (i := 4) (v := ?_) rfl (by kernel_rfl) (by kernel_rfl) (by decide) (by kernel_rfl) (by kernel_rfl) (fun _ _ _ h => h) (Or.inl ⟨by rfl, ?_⟩) hHeld ?_
              rotate_left
              · (intro wx hSw; obtain ⟨a0, a1, a2, a3, a4, a5, a6, a7, a8, a9, a10, a11⟩ := box12 hSw; go_simp; try (with_reducible rfl))
              try simp only [Act.put, List.setIfInBounds_toArray, List.set_cons_zero, List.set_cons_succ]
              refine takeT (i := 5) (v := ?_) rfl (by kernel_rfl) (by kernel_rfl) (by decide) (by kernel_rfl) (by kernel_rfl) (fun _ _ _ h => h) (Or.inl ⟨by rfl, ?_⟩) hHeld ?_
              rotate_left
              · (intro wx hSw; obtain ⟨a0, a1, a2, a3, a4, a5, a6, a7, a8, a9, a10, a11⟩ := box12 hSw; go_simp; try (with_reducible rfl))
              try simp only [Act.put, List.setIfInBounds_toArray, List.set_cons_zero, List.set_cons_succ]
              refine takeT (i := 6) (v := ?_) rfl (by kernel_rfl) (by kernel_rfl) (by decide) (by kernel_rfl) (by kernel_rfl) (fun _ _ _ h => h) (Or.inl ⟨by rfl, ?_⟩) hHeld ?_
              rotate_left
              · (intro wx hSw; obtain ⟨a0, a1, a2, a3, a4, a5, a6, a7, a8, a9, a10, a11⟩ := box12 hSw; go_simp; try (with_reducible rfl))
              try simp only [Act.put, List.setIfInBounds_toArray, List.set_cons_zero, List.set_cons_succ]
              refine takeT (i := 7) (v := ?_) rfl (by kernel_rfl) (by kernel_rfl) (by decide) (by kernel_rfl) (by kernel_rfl) (fun _ _ _ h => h) (Or.inl ⟨by rfl, ?_⟩) hHeld ?_
              rotate_left
              · (intro wx hSw; obtain ⟨a0, a1, a2, a3, a4, a5, a6, a7, a8, a9, a10, a11⟩ := box12 hSw; go_simp; try (with_reducible rfl))
              try simp only [Act.put, List.setIfInBounds_toArray, List.set_cons_zero, List.set_cons_succ]
              have gS := (grown_trans (rdr_grown_set Y0 g7 0 (.int .i64 (st : Nat))) (rdr_grown_set _ g7 3 (.int .u64 (fc : Nat))))
              have kS := (k7.set_ 0 (.int .i64 (st : Nat))).set_ 3 (.int .u64 (fc : Nat))
              have h1 := k1.lt
              have h2 := k2.lt
              have h8 := kF.left (rdr_grown_set Y0 g7 0 (.int .i64 (st : Nat))) (Nat.ne_of_gt h7F)
              have y0 := k7.frozen 0
              have y3 := k7.frozen 3
              obtain ⟨p0, p1, p2, p3, p4, p5, p6⟩ := box7 k7
              refine oneT (i := 8) rfl (by kernel_rfl) (fun KK hK => ?_)
              go_simp
              refine hK.out _ _ (fun _ => h8) ?_
              clear hK KK
              try simp only [Act.put, List.setIfInBounds_toArray, List.set_cons_zero, List.set_cons_succ]
              refine oneT (i := 9) rfl (by kernel_rfl) (fun KK hK => ?_)
              go_simp
              refine hK.out _ _ (fun _ => h8) ?_
              clear hK KK
              try simp only [Act.put, List.setIfInBounds_toArray, List.set_cons_zero, List.set_cons_succ]
              refine oneT (i := 10) rfl (by kernel_rfl) (fun KK hK => ?_)
              go_simp
              refine hK.out _ _ (fun h => absurd h (by decide)) ?_
              clear hK KK
              try simp only [Act.put, List.setIfInBounds_toArray, List.set_cons_zero, List.set_cons_succ]
              refine doneT (by kernel_rfl) ?_ _
              refine NoPanic.normal ?_
              clear hHeld h8
              go_wp2_with fail
              go_meet
              exact ⟨kS, kF.left gS (Nat.ne_of_gt h7F), ozk oS gS (Nat.lt_succ_self _), k1.left gS (Nat.ne_of_lt (Nat.lt_of_succ_lt hg7)), k2.left gS (Nat.ne_of_lt hg7), (rd_ans rFX k7 gS (Nat.le_refl _)).more gS.size, (rd_ans rFK k7 gS (Nat.le_refl _)).more gS.size, (rd_ans rFV k7 gS (Nat.le_refl _)).more gS.size, b.trans (below_grown gS (Nat.le_of_lt (Nat.lt_of_succ_lt hg7)) k7.lt)⟩
            case rest =>
              clear k1 k2 k7 kF oS rFX rFK rFV b
              obtain ⟨k7, kF, oS, k1, k2, rFX, rFK, rFV, b⟩ := hcut
              by_cases hs : isStatF op (l.drop at_) = true
              · obtain ⟨h16, hst0, hkl⟩ := isStat_is hs
                have es : ((st : Int) != 0) = false := by rw [bne_eq_false_iff_eq, HGN.out.hst, hst0]; rfl
                have ek : ((kl : Int) == 0) = false := by rw [beq_eq_false_iff_ne, HGN.out.hkl]; omega
                have e16 : (op != 16) = false := bne_eq_false_iff_eq.2 h16
                have HS0 := Lib.hid (And.intro hs (show st = 0 by rw [HGN.out.hst]; exact hst0))
                clear hs h16 hst0 hkl
                have c1 := run_strA rFK
                have c2 := run_strA rFV
                have ba := below_a1' (Below.refl wc.heap.size wc) (.cells #[.string ⟨(gK (l.drop at_)).toArray⟩, .string ⟨(gV (l.drop at_)).toArray⟩] 96)
                have rn := Rz.new1 wc #[.string ⟨(gK (l.drop at_)).toArray⟩, .string ⟨(gV (l.drop at_)).toArray⟩] 96 2 rfl
                have oS9 := oS.step ba
                have k1b := k1.step ba
                have k2b := k2.step ba
                have k7b := k7.step ba
                have b9 := below_step b ba
                have hsz9 : g7 + 1 ≤ (wc.alloc (.cells #[.string ⟨(gK (l.drop at_)).toArray⟩, .string ⟨(gV (l.drop at_)).toArray⟩] 96)).heap.size := k7b.lt
                have hnn : n' + 1 ≤ 200000000000 := by have := hG.1; omega
                clear ba oS k2 b rFX rFK rFV
                obtain ⟨p0, p1, p2, p3, p4, p5, p6⟩ := box7 k7
                obtain ⟨q0, q1, q2, q3, q4, q5, q6, q7, q8, q9, q10, q11⟩ := box12 k1
                obtain ⟨c0, c1, c2, c3, c4, c5, c6, c7, c8, c9, c10, c11⟩ := box12 kF
                go_wp2_with (first | refine wpl_bsSt _ rfl _ rfl #[.string ⟨(gK (l.drop at_)).toArray⟩, .string ⟨(gV (l.drop at_)).toArray⟩] rfl rfl ?_ | (at_builtin; refine wpl_appSt _ rfl _ _ rfl (g7 + 1) SA n' sc _ rfl oS9 _ _ 1 1 _ rfl rn ?_ hnn hsz9 ?_))
                · exact ⟨rfl, rfl⟩
                · intro SA2 sc2 w9 o9 gg9 hA9
                  have b99 := (Below.refl (g7 + 1) _).grown gg9 hsz9 (fun k hk => (World.ownsRow.lt oS9 k hk).1)
                  have k79 : Blk w9 g7 #[.int .i64 (st : Nat), .slice none 0 0, .int .u32 0, .int .u64 (fc : Nat), .int .u64 0, .slice SA n' sc, .bool false] 29 := (b99.block g7 (Nat.lt_succ_self _)).trans k7b
                  have k19 := Eq.trans (b99.block _ (Nat.lt_succ_of_lt (Nat.lt_of_succ_lt hg7))) k1b
                  have k29 := Eq.trans (b99.block _ (Nat.lt_succ_of_lt hg7)) k2b
                  have bw9 := b9.trans (b99.mono (Nat.le_succ_of_le (Nat.le_of_lt (Nat.lt_of_succ_lt hg7))))
                  have hfl : (SL.map stCells).flatten ++ [.string ⟨(gK (l.drop at_)).toArray⟩, .string ⟨(gV (l.drop at_)).toArray⟩] = ((SL ++ [statP (l.drop at_)]).map stCells).flatten := by rw [List.map_append, List.flatten_append]; rfl
                  rw [hfl] at o9
                  have kS := k79.set_ 5 (.slice SA2 (n' + 1) sc2)
                  have gS := rdr_grown_set w9 g7 5 (.slice SA2 (n' + 1) sc2)
                  have hst := HS0.out.2
                  rw [hst] at kS
                  have hGn := hG.next HE0.out H17.out HS0.out.1 (needN_ok HE0.out)
                  rw [← HGN.out.hN] at hGn
                  have HR := Lib.hid (And.intro hGn (And.intro kS (And.intro (ozk o9 gS (Nat.lt_succ_self _)) (And.intro (Blk.left k19 gS (Nat.ne_of_lt (Nat.lt_of_succ_lt hg7))) (And.intro (Blk.left k29 gS (Nat.ne_of_lt hg7)) (bw9.trans (below_grown gS (Nat.le_of_lt (Nat.lt_of_succ_lt hg7)) k79.lt)))))))
                  have y5 := k79.frozen 5
                  clear p0 p1 p2 p3 p4 p5 p6 q0 q1 q2 q3 q4 q5 q6 q7 q8 q9 q10 q11 c0 c1 c2 c3 c4 c5 c6 c7 c8 c9 c10 c11
                  obtain ⟨p0, p1, p2, p3, p4, p5, p6⟩ := box7 k79
                  have hn17 : n' ≤ 17 := hG.1
                  have HNN := Lib.hid hn17
                  have wj : IntKind.i64.wrap ((n' : Int) + 1) = (n' : Int) + 1 := IntWalk.i64_in _ (by omega)
                  clear hst hGn kS gS k79 k19 k29 bw9 hfl o9 b99 gg9 hA9 hn17
                  go_wp2_with fail
                  go_roundw
                  case rel => exact ⟨n' + 1, at_ + NF, fc, SL ++ [statP (l.drop at_)], SA2, sc2, by first | rfl | go_num, by first | rfl | go_num, HR.out.1, HR.out.2.1, HR.out.2.2.1, HR.out.2.2.2.1, HR.out.2.2.2.2.1, HR.out.2.2.2.2.2⟩
                  case measure => have h1 := HNN.out; have h2 := H17.out; simp [intOf]; omega
              · have hs0 : isStatF op (l.drop at_) = false := by cases h : isStatF op (l.drop at_) with | false => rfl | true => exact absurd h hs
                have hdone := hG.last HE0.out H17.out hs0
                rw [← HGN.out.hN] at hdone
                have hxl : el ≤ 281474976710656 ∧ fnv ≤ 281474976710656 := ⟨by have h1 := rFX.len; have h2 := gX_le (l.drop at_); rw [List.length_drop] at h2; have h3 := HL.out; have h4 := HN.out; omega, by have h1 := rFV.len; have h2 := gV_le (l.drop at_); rw [List.length_drop] at h2; have h3 := HL.out; have h4 := HN.out; omega⟩
                have HT : Hid (Calls Try.prog 105 #[.agg #[.int .i64 op, .bool qt, .bool fu, .int .i64 bd, .int .u32 (oq : Nat), .slice KA nk ck, VQ, .int .u32 (fl : Nat), .int .u32 (ex : Nat), .int .u64 (cs : Nat), .int .u64 (dl : Nat), .int .u64 (ni : Nat)], .pointer (some ⟨g7, 0, none⟩), .agg #[.int .u8 (mg : Nat), .int .u8 (fop : Nat), .int .u16 (kl : Nat), .int .u8 (el : Nat), .int .u8 (ty : Nat), .int .u16 (st : Nat), .int .u32 (bl : Nat), .int .u32 (foq : Nat), .int .u64 (fc : Nat), .slice FX el fcx, .slice FK kl fck, .slice FV fnv fcv]] wc (TldQ g7 (lastA op (gX (l.drop at_)) (gV (l.drop at_)) (st : Nat) fc (.slice FV fnv fcv) (.slice SA n' sc)) wc)) := Lib.hid (told_all op qt fu bd oq fl ex cs dl ni (.slice KA nk ck) VQ (.slice FK kl fck) (.slice SA n' sc) (.int .u8 (mg : Nat)) (.int .u8 (fop : Nat)) (.int .u16 (kl : Nat)) (.int .u8 (el : Nat)) (.int .u8 (ty : Nat)) (.int .u16 (st : Nat)) (.int .u32 (bl : Nat)) (.int .u32 (foq : Nat)) (.int .u64 (fc : Nat)) FX FV el fcx fnv fcv _ _ (st : Nat) fc g7 wc k7 rFX rFV hxl.1 hxl.2)
                have HF := Lib.hid (And.intro hdone (And.intro hG.2.2.1 (And.intro k1 (And.intro k2 (And.intro k7 (And.intro oS (And.intro rFV b)))))))
                have hnot : ¬ (op = 16 ∧ st = 0 ∧ 0 < kl) := fun h => hs (by unfold isStatF; rw [← HGN.out.hst, ← HGN.out.hkl]; simp [h.1, h.2.1, h.2.2])
                clear hdone hxl oS k2 b rFX rFK rFV hs hs0 hG
                obtain ⟨p0, p1, p2, p3, p4, p5, p6⟩ := box7 k7
                obtain ⟨q0, q1, q2, q3, q4, q5, q6, q7, q8, q9, q10, q11⟩ := box12 k1
                obtain ⟨c0, c1, c2, c3, c4, c5, c6, c7, c8, c9, c10, c11⟩ := box12 kF
                clear k7 k1 kF
                have hcase : (op != 16) = true ∨ ((op != 16) = false ∧ ((st : Int) != 0) = true) ∨ ((op != 16) = false ∧ ((st : Int) != 0) = false ∧ ((kl : Int) == 0) = true) := lastcase hnot
                clear hnot
                rcases hcase with e1 | ⟨e1, e2⟩ | ⟨e1, e2, e3⟩
                · go_wp2_with fail
                  refine HT.out.mono ?_
                  rintro e w9 ⟨rfl, kA, hk⟩
                  obtain ⟨hdone, hln, k1, k2, k7, oS, rFV, b⟩ := HF.out
                  have hsz := hk.size
                  have hFin : RdE op (l.drop at_) SL g7 w w9 := ⟨FV, SA, fnv, fcv, sc, by rw [hln, ← HGN.out.hst, ← HGN.out.hcas]; exact kA, (rd_boxK rFV k7 (ans_nob (fun x => by unfold cb; intro h; cases h) (fun x => by unfold cb; intro h; cases h)) hk (Nat.le_refl _)).more hsz, by rw [hln]; exact ((ozkp oS hk (Nat.lt_succ_self _)).rz), Nat.le_trans b.size hsz⟩
                  have HFF := Lib.hid (And.intro hdone (And.intro hFin (And.intro (show Blk w9 w.heap.size #[.int .i64 op, .bool qt, .bool fu, .int .i64 bd, .int .u32 (oq : Nat), .slice KA nk ck, VQ, .int .u32 (fl : Nat), .int .u32 (ex : Nat), .int .u64 (cs : Nat), .int .u64 (dl : Nat), .int .u64 (ni : Nat)] 26 from (hk.block _ k1.lt (Nat.ne_of_lt (Nat.lt_of_succ_lt hg7))).trans k1) (And.intro (show Blk w9 (w.heap.size + 1) #[.int .i64 0, .slice none 0 0, .int .u32 0, .int .u64 0, .int .u64 0, .slice none 0 0, .bool false] 29 from (hk.block _ k2.lt (Nat.ne_of_lt hg7)).trans k2) (b.trans (hk.below (fun k e => by rw [e]; exact Nat.le_of_lt (Nat.lt_of_succ_lt hg7)) b.size))))))
                  clear hdone hln k1 k2 k7 oS rFV b hFin hk kA hsz p0 p1 p2 p3 p4 p5 p6 q0 q1 q2 q3 q4 q5 q6 q7 q8 q9 q10 q11 c0 c1 c2 c3 c4 c5 c6 c7 c8 c9 c10 c11
                  go_wp2_with fail
                  go_meet
                  exact ⟨at_ + NF, SL, l.drop at_, by first | rfl | go_num, HFF.out.1, HFF.out.2.1, HFF.out.2.2.1, HFF.out.2.2.2.1, HFF.out.2.2.2.2⟩
                · go_wp2_with fail
                  refine HT.out.mono ?_
                  rintro e w9 ⟨rfl, kA, hk⟩
                  obtain ⟨hdone, hln, k1, k2, k7, oS, rFV, b⟩ := HF.out
                  have hsz := hk.size
                  have hFin : RdE op (l.drop at_) SL g7 w w9 := ⟨FV, SA, fnv, fcv, sc, by rw [hln, ← HGN.out.hst, ← HGN.out.hcas]; exact kA, (rd_boxK rFV k7 (ans_nob (fun x => by unfold cb; intro h; cases h) (fun x => by unfold cb; intro h; cases h)) hk (Nat.le_refl _)).more hsz, by rw [hln]; exact ((ozkp oS hk (Nat.lt_succ_self _)).rz), Nat.le_trans b.size hsz⟩
                  have HFF := Lib.hid (And.intro hdone (And.intro hFin (And.intro (show Blk w9 w.heap.size #[.int .i64 op, .bool qt, .bool fu, .int .i64 bd, .int .u32 (oq : Nat), .slice KA nk ck, VQ, .int .u32 (fl : Nat), .int .u32 (ex : Nat), .int .u64 (cs : Nat), .int .u64 (dl : Nat), .int .u64 (ni : Nat)] 26 from (hk.block _ k1.lt (Nat.ne_of_lt (Nat.lt_of_succ_lt hg7))).trans k1) (And.intro (show Blk w9 (w.heap.size + 1) #[.int .i64 0, .slice none 0 0, .int .u32 0, .int .u64 0, .int .u64 0, .slice none 0 0, .bool false] 29 from (hk.block _ k2.lt (Nat.ne_of_lt hg7)).trans k2) (b.trans (hk.below (fun k e => by rw [e]; exact Nat.le_of_lt (Nat.lt_of_succ_lt hg7)) b.size))))))
                  clear hdone hln k1 k2 k7 oS rFV b hFin hk kA hsz p0 p1 p2 p3 p4 p5 p6 q0 q1 q2 q3 q4 q5 q6 q7 q8 q9 q10 q11 c0 c1 c2 c3 c4 c5 c6 c7 c8 c9 c10 c11
                  go_wp2_with fail
                  go_meet
                  exact ⟨at_ + NF, SL, l.drop at_, by first | rfl | go_num, HFF.out.1, HFF.out.2.1, HFF.out.2.2.1, HFF.out.2.2.2.1, HFF.out.2.2.2.2⟩
                · go_wp2_with fail
                  refine HT.out.mono ?_
                  rintro e w9 ⟨rfl, kA, hk⟩
                  obtain ⟨hdone, hln, k1, k2, k7, oS, rFV, b⟩ := HF.out
                  have hsz := hk.size
                  have hFin : RdE op (l.drop at_) SL g7 w w9 := ⟨FV, SA, fnv, fcv, sc, by rw [hln, ← HGN.out.hst, ← HGN.out.hcas]; exact kA, (rd_boxK rFV k7 (ans_nob (fun x => by unfold cb; intro h; cases h) (fun x => by unfold cb; intro h; cases h)) hk (Nat.le_refl _)).more hsz, by rw [hln]; exact ((ozkp oS hk (Nat.lt_succ_self _)).rz), Nat.le_trans b.size hsz⟩
                  have HFF := Lib.hid (And.intro hdone (And.intro hFin (And.intro (show Blk w9 w.heap.size #[.int .i64 op, .bool qt, .bool fu, .int .i64 bd, .int .u32 (oq : Nat), .slice KA nk ck, VQ, .int .u32 (fl : Nat), .int .u32 (ex : Nat), .int .u64 (cs : Nat), .int .u64 (dl : Nat), .int .u64 (ni : Nat)] 26 from (hk.block _ k1.lt (Nat.ne_of_lt (Nat.lt_of_succ_lt hg7))).trans k1) (And.intro (show Blk w9 (w.heap.size + 1) #[.int .i64 0, .slice none 0 0, .int .u32 0, .int .u64 0, .int .u64 0, .slice none 0 0, .bool false] 29 from (hk.block _ k2.lt (Nat.ne_of_lt hg7)).trans k2) (b.trans (hk.below (fun k e => by rw [e]; exact Nat.le_of_lt (Nat.lt_of_succ_lt hg7)) b.size))))))
                  clear hdone hln k1 k2 k7 oS rFV b hFin hk kA hsz p0 p1 p2 p3 p4 p5 p6 q0 q1 q2 q3 q4 q5 q6 q7 q8 q9 q10 q11 c0 c1 c2 c3 c4 c5 c6 c7 c8 c9 c10 c11
                  go_wp2_with fail
                  go_meet
                  exact ⟨at_ + NF, SL, l.drop at_, by first | rfl | go_num, HFF.out.1, HFF.out.2.1, HFF.out.2.2.1, HFF.out.2.2.2.1, HFF.out.2.2.2.2⟩
  case rest =>
    have HRB2 := HRB.out
    clear hG
    obtain ⟨N, SL, f, rfl, hdone, hE, k1, k2, b⟩ := hcut
    obtain ⟨R, hR, VA, nv, cv, SA, sc, k7, rV, rS⟩ := hE.box N
    have hSm := gather_small hdone
    have hA : R.at_ = N ∧ R.SL = SL ∧ R.F < 4294967296 ∧ R.C < 18446744073709551616 ∧ R.N < 18446744073709551616 ∧ R.er = 0 ∧ R.V.length ≤ f.length := by rw [hR]; exact toldA_small op SL f N
    obtain ⟨a1, a2, a3, a4, a5, a6, a7⟩ := hA
    have hnv : nv ≤ 1000000 := by have h1 := rV.len; have h2 := told_v op SL f N; rw [← hR] at h2; have h3 := gV_len (gather_er hdone); have h4 := getEr_may (gather_er hdone); omega
    have hns : R.SL.length ≤ 1000 := by rw [a2]; have := hSm.1; omega
    have hsz : ∀ p ∈ R.SL, p.1.size ≤ 10000 ∧ p.2.size ≤ 10000 := by rw [a2]; exact fun p hp => by have := hSm.2.1 p hp; omega
    have hNl : N ≤ n := by have h1 := hSm.2.2.1; have h2 := HL.out; omega
    have HRD : Hid (readP op qt fu oq lk l = if R.okP op qt fu oq lk l then R else .no 310) := Lib.hid (by rw [readP_done hdone, ← hR])
    have hcb : codeB op qt fu < 256 := codeB_lt op qt fu
    have hlv := rV.len
    have HSLL : Hid (R.SL.length ≤ 1000) := Lib.hid hns
    have HAL : Hid (∀ W, Below wc.heap.size wc W → Calls Try.prog 76 #[.agg #[.int .i64 op, .bool qt, .bool fu, .int .i64 bd, .int .u32 (oq : Nat), .slice KA nk ck, VQ, .int .u32 (fl : Nat), .int .u32 (ex : Nat), .int .u64 (cs : Nat), .int .u64 (dl : Nat), .int .u64 (ni : Nat)], .agg #[.int .i64 R.st, .slice VA nv cv, .int .u32 (R.F : Nat), .int .u64 (R.C : Nat), .int .u64 (R.N : Nat), .slice SA R.SL.length sc, .bool false]] W (AllQ21 (R.ps op fu lk) W)) := Lib.hid (fun W bW => all_any op qt fu bd oq KA nk ck lk VQ fl ex cs dl ni R.st VA nv cv R.V R.F R.C R.N SA R.SL.length sc R.SL false W ((HRK.out.step b).step bW) ((rV.step bW)) ((rS.below bW).more bW.size) rfl HNK.out a3 a4 a5 hnv hns hsz)
    have HPU : Hid (∀ W L A c, L.length ≤ 1000 → Rz W W.heap.size 5 A L.length c (L.map Sd.cells).flatten → (∀ s ∈ L, s.Ok W) → Calls Try.prog 75 #[.agg #[.int .i64 op, .bool qt, .bool fu, .int .i64 bd, .int .u32 (oq : Nat), .slice KA nk ck, VQ, .int .u32 (fl : Nat), .int .u32 (ex : Nat), .int .u64 (cs : Nat), .int .u64 (dl : Nat), .int .u64 (ni : Nat)], .slice A L.length c] W (PutsQ (codeB op qt fu) oq L W)) := Lib.hid (fun W L A c hL r hok => puts_any op qt fu bd oq HOQ.out (.slice KA nk ck) VQ fl ex cs dl ni L A c hL W r hok)
    have HCK : Hid (∀ W, Below wc.heap.size wc W → Calls Try.prog 25 #[.agg #[.int .i64 op, .bool qt, .bool fu, .int .i64 bd, .int .u32 (oq : Nat), .slice KA nk ck, VQ, .int .u32 (fl : Nat), .int .u32 (ex : Nat), .int .u64 (cs : Nat), .int .u64 (dl : Nat), .int .u64 (ni : Nat)], .agg #[.int .i64 R.st, .slice VA nv cv, .int .u32 (R.F : Nat), .int .u64 (R.C : Nat), .int .u64 (R.N : Nat), .slice SA R.SL.length sc, .bool false]] W (CkQ (R.wrong op) W)) := Lib.hid (fun W bW => by have h := check_any op qt fu bd oq (.slice KA nk ck) VQ fl ex cs dl ni R.st VA nv cv R.F R.C R.N SA R.SL.length sc false R.SL W ((rS.below bW).more bW.size) (by omega) rfl; unfold AR.wrong; rw [hlv]; exact h)
    have HPL : Hid ((R.ps op fu lk).length ≤ 1000) := Lib.hid (by have := allP_cnt op fu R.st R.F R.C R.N lk R.V R.SL; unfold AR.ps; rw [this]; have h2 := hSm.1; rw [← a2] at h2; split <;> omega)
    obtain ⟨XB, cxb, HXB, hXB⟩ := slc_h HRB2 N (N : Int) rfl hNl
    have HTK : Hid (R.at_ = N) := Lib.hid a1
    have HV := Lib.hid (And.intro rV (And.intro rS (And.intro a1 a6)))
    clear HRB2 hdone hE hR hSm a1 a2 a3 a4 a5 a6 a7 hns hsz hcb hlv hnv rV rS hNl
    obtain ⟨q0, q1, q2, q3, q4, q5, q6, q7, q8, q9, q10, q11⟩ := box12 k1
    obtain ⟨p0, p1, p2, p3, p4, p5, p6⟩ := box7 k7
    go_upto_region 15 with fail
    clear q0 q1 q2 q3 q4 q5 q6 q7 q8 q9 q10 q11 p0 p1 p2 p3 p4 p5 p6
    refine wp_region_noPanic ?_
    refine region_T (fun wx => Blk wx w.heap.size #[.int .i64 op, .bool qt, .bool fu, .int .i64 bd, .int .u32 (oq : Nat), .slice KA nk ck, VQ, .int .u32 (fl : Nat), .int .u32 (ex : Nat), .int .u64 (cs : Nat), .int .u64 (dl : Nat), .int .u64 (ni : Nat)] 26 ∧ Blk wx g7 #[.int .i64 R.st, .slice VA nv cv, .int .u32 (R.F : Nat), .int .u64 (R.C : Nat), .int .u64 (R.N : Nat), .slice SA R.SL.length sc, .bool false] 29) 10 (by kernel_rfl) ?_
    have bD : Below wc.heap.size wc wc.drew := (Below.refl _ _).drew
    have k1 := k1.step bD
    have k2 := k2.step bD
    have k7 := k7.step bD
    have hHeld := And.intro k1 k7
    generalize wc.drew = Y0 at k1 k2 k7 bD hHeld ⊢
    refine takeT (i := 0) (v := ?_) rfl (by kernel_rfl) (by kernel_rfl) (by decide) (by kernel_rfl) (by kernel_rfl) (fun _ _ _ h => h) (Or.inl ⟨by rfl, ?_⟩) hHeld ?_
    rotate_left
    · (intro wx hSw; obtain ⟨sa, sb⟩ := hSw; obtain ⟨a0, a1, a2, a3, a4, a5, a6, a7, a8, a9, a10, a11⟩ := box12 sa; obtain ⟨c0, c1, c2, c3, c4, c5, c6⟩ := box7 sb; go_simp; try (with_reducible rfl))
    try simp only [Act.put, List.setIfInBounds_toArray, List.set_cons_zero, List.set_cons_succ]
    refine takeT (i := 1) (v := ?_) rfl (by kernel_rfl) (by kernel_rfl) (by decide) (by kernel_rfl) (by kernel_rfl) (fun _ _ _ h => h) (Or.inl ⟨by rfl, ?_⟩) hHeld ?_
    rotate_left
    · (intro wx hSw; obtain ⟨sa, sb⟩ := hSw; obtain ⟨a0, a1, a2, a3, a4, a5, a6, a7, a8, a9, a10, a11⟩ := box12 sa; obtain ⟨c0, c1, c2, c3, c4, c5, c6⟩ := box7 sb; go_simp; try (with_reducible rfl))
    try simp only [Act.put, List.setIfInBounds_toArray, List.set_cons_zero, List.set_cons_succ]
    refine takeT (i := 2) (v := ?_) rfl (by kernel_rfl) (by kernel_rfl) (by decide) (by kernel_rfl) (by kernel_rfl) (fun _ _ _ h => h) (Or.inl ⟨by rfl, ?_⟩) hHeld ?_
    rotate_left
    · (intro wx hSw; obtain ⟨sa, sb⟩ := hSw; obtain ⟨a0, a1, a2, a3, a4, a5, a6, a7, a8, a9, a10, a11⟩ := box12 sa; obtain ⟨c0, c1, c2, c3, c4, c5, c6⟩ := box7 sb; go_simp; try (with_reducible rfl))
    try simp only [Act.put, List.setIfInBounds_toArray, List.set_cons_zero, List.set_cons_succ]
    refine oneT (i := 3) rfl (by kernel_rfl) (fun KK hK => ?_)
    go_simp
    refine (HAL.out Y0 bD).mono ?_
    rintro e Y1 ⟨L, A1, c1, rfl, rL, okL, hPs, b1⟩
    clear hHeld
    have k1 := k1.step b1
    have k2 := k2.step b1
    have k7 := k7.step b1
    have bY := below_step bD b1
    have hHeld := And.intro k1 k7
    have hLn : L.length ≤ 1000 := by have h := HPL.out; rw [← hPs, List.length_map] at h; exact h
    have HP1 := Lib.hid (HPU.out Y1 L A1 c1 hLn rL okL)
    have HOK := Lib.hid okL
    have HPE := Lib.hid hPs
    clear b1 rL okL hPs hLn
    refine hK.out _ _ (fun _ => hHeld) ?_
    clear hK KK
    try simp only [Act.put, List.setIfInBounds_toArray, List.set_cons_zero, List.set_cons_succ]
    refine oneT (i := 4) rfl (by kernel_rfl) (fun KK hK => ?_)
    go_simp
    refine HP1.out.mono ?_
    intro e Y2 hpq
    have HPF : Hid ((∀ p ∈ R.ps op fu lk, p.fits) ↔ ∀ s ∈ L, s.fits) := Lib.hid (by rw [← HPE.out]; exact (sd_allf HOK.out).symm)
    have HPB : Hid (putB (codeB op qt fu) oq L = spB (codeB op qt fu) oq (R.ps op fu lk)) := Lib.hid (by rw [← HPE.out]; exact sd_all HOK.out _ oq)
    rcases hpq with ⟨hf, A2, c2, N2, hN2, rfl, o2, b2⟩ | ⟨hf, rfl, b2⟩
    · have HF2 := Lib.hid (HPF.out.2 hf)
      have HO : Hid (Rd Y2 Y2.heap.size A2 N2 c2 (spB (codeB op qt fu) oq (R.ps op fu lk))) := Lib.hid (by rw [← HPB.out]; exact o2.rd)
      clear hf hN2 o2
      clear hHeld
      have k1 := k1.step b2
      have k2 := k2.step b2
      have k7 := k7.step b2
      have bZ := below_step bY b2
      have hHeld := And.intro k1 k7
      refine hK.out _ _ (fun _ => hHeld) ?_
      clear hK KK
      try simp only [Act.put, List.setIfInBounds_toArray, List.set_cons_zero, List.set_cons_succ]
      refine takeT (i := 5) (v := ?_) rfl (by kernel_rfl) (by kernel_rfl) (by decide) (by kernel_rfl) (by kernel_rfl) (fun _ _ _ h => h) (Or.inl ⟨by rfl, ?_⟩) hHeld ?_
      rotate_left
      · (intro wx hSw; obtain ⟨sa, sb⟩ := hSw; obtain ⟨a0, a1, a2, a3, a4, a5, a6, a7, a8, a9, a10, a11⟩ := box12 sa; obtain ⟨c0, c1, c2, c3, c4, c5, c6⟩ := box7 sb; go_simp; try (with_reducible rfl))
      try simp only [Act.put, List.setIfInBounds_toArray, List.set_cons_zero, List.set_cons_succ]
      refine takeT (i := 6) (v := ?_) rfl (by kernel_rfl) (by kernel_rfl) (by decide) (by kernel_rfl) (by kernel_rfl) (fun _ _ _ h => h) (Or.inl ⟨by rfl, ?_⟩) hHeld ?_
      rotate_left
      · (intro wx hSw; obtain ⟨sa, sb⟩ := hSw; obtain ⟨a0, a1, a2, a3, a4, a5, a6, a7, a8, a9, a10, a11⟩ := box12 sa; obtain ⟨c0, c1, c2, c3, c4, c5, c6⟩ := box7 sb; go_simp; try (with_reducible rfl))
      try simp only [Act.put, List.setIfInBounds_toArray, List.set_cons_zero, List.set_cons_succ]
      refine takeT (i := 7) (v := ?_) rfl (by kernel_rfl) (by kernel_rfl) (by decide) (by kernel_rfl) (by kernel_rfl) (fun _ _ _ h => h) (Or.inl ⟨by rfl, ?_⟩) hHeld ?_
      rotate_left
      · (intro wx hSw; obtain ⟨sa, sb⟩ := hSw; obtain ⟨a0, a1, a2, a3, a4, a5, a6, a7, a8, a9, a10, a11⟩ := box12 sa; obtain ⟨c0, c1, c2, c3, c4, c5, c6⟩ := box7 sb; go_simp; try (with_reducible rfl))
      try simp only [Act.put, List.setIfInBounds_toArray, List.set_cons_zero, List.set_cons_succ]
      refine takeT (i := 8) (v := ?_) rfl (by kernel_rfl) (by kernel_rfl) (by decide) (by kernel_rfl) (by kernel_rfl) (fun _ _ _ h => h) (Or.inl ⟨by rfl, ?_⟩) hHeld ?_
      rotate_left
      · (intro wx hSw; obtain ⟨sa, sb⟩ := hSw; obtain ⟨a0, a1, a2, a3, a4, a5, a6, a7, a8, a9, a10, a11⟩ := box12 sa; obtain ⟨c0, c1, c2, c3, c4, c5, c6⟩ := box7 sb; go_simp; try (with_reducible rfl))
      try simp only [Act.put, List.setIfInBounds_toArray, List.set_cons_zero, List.set_cons_succ]
      refine takeT (i := 9) (v := ?_) rfl (by kernel_rfl) (by kernel_rfl) (by decide) (by kernel_rfl) (by kernel_rfl) (fun _ _ _ h => h) (Or.inl ⟨by rfl, ?_⟩) hHeld ?_
      rotate_left
      · (intro wx hSw; obtain ⟨sa, sb⟩ := hSw; obtain ⟨a0, a1, a2, a3, a4, a5, a6, a7, a8, a9, a10, a11⟩ := box12 sa; obtain ⟨c0, c1, c2, c3, c4, c5, c6⟩ := box7 sb; go_simp; try (with_reducible rfl))
      try simp only [Act.put, List.setIfInBounds_toArray, List.set_cons_zero, List.set_cons_succ]
      refine doneT (by kernel_rfl) ?_ _
      refine NoPanic.normal ?_
      clear hHeld bD bY b2
      obtain ⟨q0, q1, q2, q3, q4, q5, q6, q7, q8, q9, q10, q11⟩ := box12 k1
      obtain ⟨p0, p1, p2, p3, p4, p5, p6⟩ := box7 k7
      go_wp2_with fail
      refine (HCK.out Y2 bZ).mono ?_
      rintro e Y3 ⟨rfl, b3⟩
      clear q0 q1 q2 q3 q4 q5 q6 q7 q8 q9 q10 q11 p0 p1 p2 p3 p4 p5 p6
      have k1 := k1.step b3
      have k2 := k2.step b3
      have k7 := k7.step b3
      have bF := below_step bZ b3
      have HB3 := Lib.hid b3
      clear b3 bZ
      cases hw : R.wrong op with
      | true =>
        have HNO : Hid (¬ (R.okP op qt fu oq lk l)) := Lib.hid (fun h => by have h1 := h.2.1; rw [hw] at h1; cases h1)
        clear hw
        generalize Y3 = WF at k1 k2 k7 bF HB3 ⊢
        clear HB3
        rw [if_pos (rfl : true = true)]
        have kf := blk_put7 k2 (.int .i64 0) (.slice none 0 0) (.int .u32 0) (.int .u64 0) (.int .u64 0) (.slice none 0 0) (.bool false)
        have gs := grown_put7 WF (w.heap.size + 1) (.int .i64 0) (.slice none 0 0) (.int .u32 0) (.int .u64 0) (.int .u64 0) (.slice none 0 0) (.bool false)
        have bf := (below_step b bF).trans (below_grown gs (Nat.le_succ _) k2.lt)
        obtain ⟨r0, r1, r2, r3, r4, r5, r6⟩ := box7 k2
        have y0 := k2.frozen 0
        have y1 := k2.frozen 1
        have y2 := k2.frozen 2
        have y3 := k2.frozen 3
        have y4 := k2.frozen 4
        have y5 := k2.frozen 5
        have y6 := k2.frozen 6
        obtain ⟨t0, t1, t2, t3, t4, t5, t6⟩ := box7 kf
        have HG : Hid (RdP op qt fu oq lk l w (.returned (.tuple #[.agg #[.int .i64 0, .slice none 0 0, .int .u32 0, .int .u64 0, .int .u64 0, .slice none 0 0, .bool false], .int .i64 0, .int .i64 310])) _) := Lib.hid (rdp_no HRD.out HNO.out bf)
        clear kf gs bf b bF k1 k2 k7
        go_wp2_with fail
        refine bodyPost_ret (v := .tuple #[.agg #[.int .i64 0, .slice none 0 0, .int .u32 0, .int .u64 0, .int .u64 0, .slice none 0 0, .bool false], .int .i64 0, .int .i64 310]) (by simp [results, Try.results59, go_sem, t0, t1, t2, t3, t4, t5, t6]) rfl ?_
        exact HG.out
      | false =>
        have HW := Lib.hid hw
        clear hw
        rw [if_neg (by decide)]
        have HE := Lib.hid (sequal_any A2 XB N2 c2 N cxb Y3.heap.size (spB (codeB op qt fu) oq (R.ps op fu lk)) (l.take N) Y3 (HO.out.step HB3.out) (hXB _ _ (HRB.out.step (below_step b bF))))
        clear HB3
        go_wp2_with fail
        refine HE.out.mono ?_
        rintro e WF ⟨rfl, bE⟩
        replace bE := quiet_self bE
        have k1 := k1.step bE
        have k2 := k2.step bE
        have k7 := k7.step bE
        have bF := below_step bF bE
        clear bE
        cases he : eqB (spB (codeB op qt fu) oq (R.ps op fu lk)) (l.take N) with
        | false =>
          have HNO : Hid (¬ (R.okP op qt fu oq lk l)) := Lib.hid (fun h => eqB_no he (by rw [← HTK.out]; exact h.2.2))
          clear he
          have kf := blk_put7 k2 (.int .i64 0) (.slice none 0 0) (.int .u32 0) (.int .u64 0) (.int .u64 0) (.slice none 0 0) (.bool false)
          have gs := grown_put7 WF (w.heap.size + 1) (.int .i64 0) (.slice none 0 0) (.int .u32 0) (.int .u64 0) (.int .u64 0) (.slice none 0 0) (.bool false)
          have bf := (below_step b bF).trans (below_grown gs (Nat.le_succ _) k2.lt)
          obtain ⟨r0, r1, r2, r3, r4, r5, r6⟩ := box7 k2
          have y0 := k2.frozen 0
          have y1 := k2.frozen 1
          have y2 := k2.frozen 2
          have y3 := k2.frozen 3
          have y4 := k2.frozen 4
          have y5 := k2.frozen 5
          have y6 := k2.frozen 6
          obtain ⟨t0, t1, t2, t3, t4, t5, t6⟩ := box7 kf
          have HG : Hid (RdP op qt fu oq lk l w (.returned (.tuple #[.agg #[.int .i64 0, .slice none 0 0, .int .u32 0, .int .u64 0, .int .u64 0, .slice none 0 0, .bool false], .int .i64 0, .int .i64 310])) _) := Lib.hid (rdp_no HRD.out HNO.out bf)
          clear kf gs bf b bF k1 k2 k7
          go_wp2_with fail
          refine bodyPost_ret (v := .tuple #[.agg #[.int .i64 0, .slice none 0 0, .int .u32 0, .int .u64 0, .int .u64 0, .slice none 0 0, .bool false], .int .i64 0, .int .i64 310]) (by simp [results, Try.results59, go_sem, t0, t1, t2, t3, t4, t5, t6]) rfl ?_
          exact HG.out
        | true =>
          have hok : R.okP op qt fu oq lk l := ⟨HF2.out, HW.out, by rw [HTK.out]; exact eqB_yes he⟩
          have hrd : readP op qt fu oq lk l = R := by rw [HRD.out, if_pos hok]
          clear he hok
          have kf := blk_put7 k2 (.int .i64 R.st) (.slice VA nv cv) (.int .u32 (R.F : Nat)) (.int .u64 (R.C : Nat)) (.int .u64 (R.N : Nat)) (.slice SA R.SL.length sc) (.bool false)
          have gs := grown_put7 WF (w.heap.size + 1) (.int .i64 R.st) (.slice VA nv cv) (.int .u32 (R.F : Nat)) (.int .u64 (R.C : Nat)) (.int .u64 (R.N : Nat)) (.slice SA R.SL.length sc) (.bool false)
          have bf := (below_step b bF).trans (below_grown gs (Nat.le_succ _) k2.lt)
          obtain ⟨r0, r1, r2, r3, r4, r5, r6⟩ := box7 k2
          have y0 := k2.frozen 0
          have y1 := k2.frozen 1
          have y2 := k2.frozen 2
          have y3 := k2.frozen 3
          have y4 := k2.frozen 4
          have y5 := k2.frozen 5
          have y6 := k2.frozen 6
          obtain ⟨p0, p1, p2, p3, p4, p5, p6⟩ := box7 k7
          obtain ⟨t0, t1, t2, t3, t4, t5, t6⟩ := box7 kf
          have HG : Hid (RdP op qt fu oq lk l w (.returned (.tuple #[.agg #[.int .i64 R.st, .slice VA nv cv, .int .u32 (R.F : Nat), .int .u64 (R.C : Nat), .int .u64 (R.N : Nat), .slice SA R.SL.length sc, .bool false], .int .i64 (N : Nat), .int .i64 0])) _) := Lib.hid (by obtain ⟨v1, v2, v3, v4⟩ := HV.out; exact rdp_yes hrd v3 v4 (rd_zero (v1.step bF) k2 gs) (rz_zero (v2.below bF |>.more bF.size) k2 gs) bf)
          clear kf gs bf b bF k1 k2 k7 hrd
          go_wp2_with fail
          refine bodyPost_ret (v := .tuple #[.agg #[.int .i64 R.st, .slice VA nv cv, .int .u32 (R.F : Nat), .int .u64 (R.C : Nat), .int .u64 (R.N : Nat), .slice SA R.SL.length sc, .bool false], .int .i64 (N : Nat), .int .i64 0]) (by simp [results, Try.results59, go_sem, t0, t1, t2, t3, t4, t5, t6]) rfl ?_
          exact HG.out
    · clear hHeld
      have k1 := k1.step b2
      have k2 := k2.step b2
      have k7 := k7.step b2
      have bZ := below_step bY b2
      have hHeld := And.intro k1 k7
      refine hK.out _ _ (fun _ => hHeld) ?_
      clear hK KK
      try simp only [Act.put, List.setIfInBounds_toArray, List.set_cons_zero, List.set_cons_succ]
      refine takeT (i := 5) (v := ?_) rfl (by kernel_rfl) (by kernel_rfl) (by decide) (by kernel_rfl) (by kernel_rfl) (fun _ _ _ h => h) (Or.inl ⟨by rfl, ?_⟩) hHeld ?_
      rotate_left
      · (intro wx hSw; obtain ⟨sa, sb⟩ := hSw; obtain ⟨a0, a1, a2, a3, a4, a5, a6, a7, a8, a9, a10, a11⟩ := box12 sa; obtain ⟨c0, c1, c2, c3, c4, c5, c6⟩ := box7 sb; go_simp; try (with_reducible rfl))
      try simp only [Act.put, List.setIfInBounds_toArray, List.set_cons_zero, List.set_cons_succ]
      refine takeT (i := 6) (v := ?_) rfl (by kernel_rfl) (by kernel_rfl) (by decide) (by kernel_rfl) (by kernel_rfl) (fun _ _ _ h => h) (Or.inl ⟨by rfl, ?_⟩) hHeld ?_
      rotate_left
      · (intro wx hSw; obtain ⟨sa, sb⟩ := hSw; obtain ⟨a0, a1, a2, a3, a4, a5, a6, a7, a8, a9, a10, a11⟩ := box12 sa; obtain ⟨c0, c1, c2, c3, c4, c5, c6⟩ := box7 sb; go_simp; try (with_reducible rfl))
      try simp only [Act.put, List.setIfInBounds_toArray, List.set_cons_zero, List.set_cons_succ]
      refine takeT (i := 7) (v := ?_) rfl (by kernel_rfl) (by kernel_rfl) (by decide) (by kernel_rfl) (by kernel_rfl) (fun _ _ _ h => h) (Or.inl ⟨by rfl, ?_⟩) hHeld ?_
      rotate_left
      · (intro wx hSw; obtain ⟨sa, sb⟩ := hSw; obtain ⟨a0, a1, a2, a3, a4, a5, a6, a7, a8, a9, a10, a11⟩ := box12 sa; obtain ⟨c0, c1, c2, c3, c4, c5, c6⟩ := box7 sb; go_simp; try (with_reducible rfl))
      try simp only [Act.put, List.setIfInBounds_toArray, List.set_cons_zero, List.set_cons_succ]
      refine takeT (i := 8) (v := ?_) rfl (by kernel_rfl) (by kernel_rfl) (by decide) (by kernel_rfl) (by kernel_rfl) (fun _ _ _ h => h) (Or.inl ⟨by rfl, ?_⟩) hHeld ?_
      rotate_left
      · (intro wx hSw; obtain ⟨sa, sb⟩ := hSw; obtain ⟨a0, a1, a2, a3, a4, a5, a6, a7, a8, a9, a10, a11⟩ := box12 sa; obtain ⟨c0, c1, c2, c3, c4, c5, c6⟩ := box7 sb; go_simp; try (with_reducible rfl))
      try simp only [Act.put, List.setIfInBounds_toArray, List.set_cons_zero, List.set_cons_succ]
      refine takeT (i := 9) (v := ?_) rfl (by kernel_rfl) (by kernel_rfl) (by decide) (by kernel_rfl) (by kernel_rfl) (fun _ _ _ h => h) (Or.inl ⟨by rfl, ?_⟩) hHeld ?_
      rotate_left
      · (intro wx hSw; obtain ⟨sa, sb⟩ := hSw; obtain ⟨a0, a1, a2, a3, a4, a5, a6, a7, a8, a9, a10, a11⟩ := box12 sa; obtain ⟨c0, c1, c2, c3, c4, c5, c6⟩ := box7 sb; go_simp; try (with_reducible rfl))
      try simp only [Act.put, List.setIfInBounds_toArray, List.set_cons_zero, List.set_cons_succ]
      refine doneT (by kernel_rfl) ?_ _
      refine NoPanic.normal ?_
      clear hHeld bD bY b2
      have hno : ¬ (R.okP op qt fu oq lk l) := fun h => hf (HPF.out.1 h.1)
      have HNO := Lib.hid hno
      have bF := bZ
      generalize Y2 = WF at k1 k2 k7 bF ⊢
      clear hf hno bZ
      have kf := blk_put7 k2 (.int .i64 0) (.slice none 0 0) (.int .u32 0) (.int .u64 0) (.int .u64 0) (.slice none 0 0) (.bool false)
      have gs := grown_put7 WF (w.heap.size + 1) (.int .i64 0) (.slice none 0 0) (.int .u32 0) (.int .u64 0) (.int .u64 0) (.slice none 0 0) (.bool false)
      have bf := (below_step b bF).trans (below_grown gs (Nat.le_succ _) k2.lt)
      obtain ⟨r0, r1, r2, r3, r4, r5, r6⟩ := box7 k2
      have y0 := k2.frozen 0
      have y1 := k2.frozen 1
      have y2 := k2.frozen 2
      have y3 := k2.frozen 3
      have y4 := k2.frozen 4
      have y5 := k2.frozen 5
      have y6 := k2.frozen 6
      obtain ⟨t0, t1, t2, t3, t4, t5, t6⟩ := box7 kf
      have HG : Hid (RdP op qt fu oq lk l w (.returned (.tuple #[.agg #[.int .i64 0, .slice none 0 0, .int .u32 0, .int .u64 0, .int .u64 0, .slice none 0 0, .bool false], .int .i64 0, .int .i64 310])) _) := Lib.hid (rdp_no HRD.out HNO.out bf)
      clear kf gs bf b bF k1 k2 k7
      go_wp2_with fail
      refine bodyPost_ret (v := .tuple #[.agg #[.int .i64 0, .slice none 0 0, .int .u32 0, .int .u64 0, .int .u64 0, .slice none 0 0, .bool false], .int .i64 0, .int .i64 310]) (by simp [results, Try.results59, go_sem, t0, t1, t2, t3, t4, t5, t6]) rfl ?_
      exact HG.out
end Go.Proofs.Ytnghmgbmflcngaa

/- ReplyFrames: what is told is frames, each an answer's, with the request's Opaque; only stat has several. Conditions: none. -/
import Derived.Test.YtnghmgbmflcngaaRfr
import Derived.Test.YtnghmgbmflcngaaCop21
import Derived.Test.YtnghmgbmflcngaaOpa
import Derived.Test.YtnghmgbmflcngaaOpq
import Derived.Test.YtnghmgbmflcngaaOpen
import Derived.Test.YtnghmgbmflcngaaClo
namespace Go.Proofs.Ytnghmgbmflcngaa
set_option linter.unusedVariables false
open Go.ChangeShapes Go.WideShapes Go.ChangeAt Go.RowKit

def GetS (cb oq N : Nat) (st : Int) (w : World) (e : Ending) (w' : World) : Prop := ∃ (kl el sn bl cas nx nk nv : Nat) (X : Option Addr) (cx : Nat) (K : Option Addr) (ck : Nat) (V : Option Addr) (cv : Nat), (sn : Int) = st ∧ e = .returned (.tuple #[frV 129 cb kl el 0 sn bl oq cas (.slice X nx cx) (.slice K nk ck) (.slice V nv cv), .int .i64 (N : Nat), .int .i64 0]) ∧ Below w.heap.size w w'
theorem getS_of {cb oq N : Nat} {st : Int} {w w' : World} {e : Ending} {p : SP} {bl nx nk nv : Nat} {lx lk lv : List UInt8} (hs : ((p.st.toNat : Nat) : Int) = st) (h : GetM 129 cb p.lk.length p.lx.length 0 p.st.toNat bl oq p.cas nx nk nv lx lk lv N w e w') : GetS cb oq N st w e w' := by
  obtain ⟨X, cx, K, ck, V, cv, he, -, -, -, b⟩ := h
  exact ⟨_, _, _, _, _, _, _, _, X, cx, K, ck, V, cv, hs, he, b⟩
def RfI (rq an : Array Value) (cb oq : Nat) (Ps : List SP) (g k : Nat) (Rs : List SP) (A : Option Addr) (N c : Nat) (w wr : World) : Prop := Rd wr wr.heap.size A N c (spB cb oq Rs) ∧ k + Rs.length = Ps.length ∧ (∀ p ∈ Rs, p ∈ Ps) ∧ Blk wr g rq 26 ∧ Blk wr (g + 1) an 29 ∧ Below g w wr
set_option maxRecDepth 100000 in
set_option maxHeartbeats 8000000 in
theorem walk_replyFrames (op : Int) (qt fu : Bool) (bad : Int) (oq fl ex cs dl ini : Nat) (KA : Option Addr) (nk ck : Nat) (lk : List UInt8) (VB : Option Addr) (nb cb2 : Nat) (lb : List UInt8) (st : Int) (VA : Option Addr) (nv cv : Nat) (lv : List UInt8) (af ac an : Nat) (SA : Option Addr) (ns sc : Nat) (SL : List (ByteArray × ByteArray)) (cl : Bool) (w : World) (hq : Rqs w w.heap.size op qt fu bad oq fl ex cs dl ini KA nk ck lk VB nb cb2 lb) (sk : ck ≤ 140737488351232 ∧ cb2 ≤ 140737488351232) (ha : Ans w w.heap.size st VA nv cv lv af ac an SA ns sc SL) (sv : cv ≤ 140737488351232) :
    Calls Try.prog 11 #[reqV op qt fu bad oq (.slice KA nk ck) (.slice VB nb cb2) fl ex cs dl ini, ansV st (.slice VA nv cv) af ac an (.slice SA ns sc) cl] w fun e w' => e = .returned (.bool true) ∧ Below w.heap.size w w' := by
  obtain ⟨rK, -, hoq, -⟩ := hq
  obtain ⟨rV, ⟨rS, hsl, -⟩, haf, hac, han, -⟩ := ha
  have HWK := Lib.hid (fun W => wakes21 W)
  have HSI := Lib.hid (fun W => silent_any op qt fu bad oq (.slice KA nk ck) (.slice VB nb cb2) fl ex cs dl ini st VA nv cv af ac an SA ns sc cl W)
  obtain ⟨Ps, e1, hPl, hP, hEr, hNo, hYes⟩ := ofR_is op qt fu oq st nv af ac an ns lk lv SL hac hsl
  have HP : Hid (∀ p ∈ Ps, p.fits ∧ p.cas < 18446744073709551616 ∧ p.st = st ∧ 0 ≤ st ∧ st ≤ 132) := Lib.hid hP
  have HGET : Hid (∀ (p : SP) (lt : List UInt8) (A : Option Addr) (n c : Nat) (W : World), p ∈ Ps → Rd W W.heap.size A n c (p.bytes (codeB op qt fu) oq ++ lt) → Calls Try.prog 51 #[.slice A n c] W (GetS (codeB op qt fu) oq (p.bytes (codeB op qt fu) oq).length st W)) := Lib.hid (fun p lt A n c W hp r => by obtain ⟨h1, h2, h3, h4, h5⟩ := HP.out p hp; exact (sp_get (codeB_lt op qt fu) hoq h1 h2 (by omega) (by omega) lt A n c W r).mono (fun e w' h => getS_of (by omega) h))
  have HST : Hid (∀ p ∈ Ps, 0 ≤ st ∧ st ≤ 132) := Lib.hid (fun p hp => by obtain ⟨-, -, -, h4, h5⟩ := HP.out p hp; exact ⟨h4, h5⟩)
  unfold reqV ansV at HSI ⊢
  have HRK := Lib.hid rK
  have HRV := Lib.hid rV
  have HRS := Lib.hid rS
  have kq := (Blk.new w #[.int .i64 op, .bool qt, .bool fu, .int .i64 bad, .int .u32 (oq : Nat), .slice KA nk ck, .slice VB nb cb2, .int .u32 (fl : Nat), .int .u32 (ex : Nat), .int .u64 (cs : Nat), .int .u64 (dl : Nat), .int .u64 (ini : Nat)] 26).alloc (.cells #[.int .i64 st, .slice VA nv cv, .int .u32 (af : Nat), .int .u64 (ac : Nat), .int .u64 (an : Nat), .slice SA ns sc, .bool cl] 29)
  have ka := Blk.new (w.alloc (.cells #[.int .i64 op, .bool qt, .bool fu, .int .i64 bad, .int .u32 (oq : Nat), .slice KA nk ck, .slice VB nb cb2, .int .u32 (fl : Nat), .int .u32 (ex : Nat), .int .u64 (cs : Nat), .int .u64 (dl : Nat), .int .u64 (ini : Nat)] 26)) #[.int .i64 st, .slice VA nv cv, .int .u32 (af : Nat), .int .u64 (ac : Nat), .int .u64 (an : Nat), .slice SA ns sc, .bool cl] 29
  have b := below_a1' (below_a1' (Below.refl w.heap.size w) (.cells #[.int .i64 op, .bool qt, .bool fu, .int .i64 bad, .int .u32 (oq : Nat), .slice KA nk ck, .slice VB nb cb2, .int .u32 (fl : Nat), .int .u32 (ex : Nat), .int .u64 (cs : Nat), .int .u64 (dl : Nat), .int .u64 (ini : Nat)] 26)) (.cells #[.int .i64 st, .slice VA nv cv, .int .u32 (af : Nat), .int .u64 (ac : Nat), .int .u64 (an : Nat), .slice SA ns sc, .bool cl] 29)
  rw [World.size_alloc] at ka
  have HCO := Lib.hid (fun (W : World) (b : Below w.heap.size w W) (h40 : ns ≤ 40) => copied21_any st VA nv cv lv af ac an SA ns sc SL cl W ((HRV.out.below b).more b.size) ((HRS.out.below b).more b.size) (by have h1 := HRV.out.cap; omega) (by omega))
  have HOF := Lib.hid (fun (W : World) (A1 : Option Addr) (c1 : Nat) (A2 : Option Addr) (c2 : Nat) (b : Below w.heap.size w W) (hk : nk ≤ 250) (h40 : ns ≤ 40) (r1 : Rd W W.heap.size A1 nv c1 lv) (r2 : Rz W W.heap.size 2 A2 ns c2 (SL.map stCells).flatten) => of_any op qt fu bad oq KA nk ck lk (.slice VB nb cb2) fl ex cs dl ini st A1 nv c1 lv af ac an A2 ns c2 SL cl W ((HRK.out.below b).more b.size) r1 r2 hsl (by omega) haf hac han (by omega) hoq)
  unfold reqV ansV at HOF
  unfold ansV at HCO
  have HPL := Lib.hid hPl
  have HE1 := Lib.hid e1
  have HER := Lib.hid hEr
  have HNO := Lib.hid hNo
  have HYES : Hid ((ofR op qt fu oq st nv af ac an ns lk lv SL).2 = 0 → silB op qt st = false → Ps.length = if op = 16 ∧ st = 0 then ns + 1 else 1) := Lib.hid (fun h1 h2 => (hYes h1 h2).2.2)
  clear rK rV rS hsl haf hac han hPl hP e1 hEr hNo hYes sv sk
  generalize ofR op qt fu oq st nv af ac an ns lk lv SL = R at HOF HE1 HER HNO HYES
  generalize codeB op qt fu = cb at HGET HE1
  generalize silB op qt st = sil at HSI HNO HYES
  go_enter Try.func11, Try.ntmps11
  go_upto_region 1 with fail
  generalize (w.alloc (.cells #[.int .i64 op, .bool qt, .bool fu, .int .i64 bad, .int .u32 (oq : Nat), .slice KA nk ck, .slice VB nb cb2, .int .u32 (fl : Nat), .int .u32 (ex : Nat), .int .u64 (cs : Nat), .int .u64 (dl : Nat), .int .u64 (ini : Nat)] 26)).alloc (.cells #[.int .i64 st, .slice VA nv cv, .int .u32 (af : Nat), .int .u64 (ac : Nat), .int .u64 (an : Nat), .slice SA ns sc, .bool cl] 29) = W0 at kq ka b ⊢
  go_wp2_with fail
  refine (HWK.out W0).mono ?_
  rintro e w1 ⟨rfl, b1⟩
  replace kq := kq.step b1
  replace ka := ka.step b1
  replace b := below_step b b1
  clear b1
  obtain ⟨p0, p1, p2, p3, p4, p5, p6, p7, p8, p9, p10, p11⟩ := box12 kq
  obtain ⟨q0, q1, q2, q3, q4, q5, q6⟩ := box7 ka
  by_cases hbk : 250 < nk
  · have hk' : ((250 : Int) < (nk : Int)) = True := eq_true (by omega)
    go_wp2_with fail
    go_ret
    exact ⟨rfl, b⟩
  by_cases hbs : 40 < ns
  · have hk' : ((250 : Int) < (nk : Int)) = False := eq_false (by omega)
    have hs' : ((40 : Int) < (ns : Int)) = True := eq_true (by omega)
    go_wp2_with fail
    go_ret
    exact ⟨rfl, b⟩
  have hk' : ((250 : Int) < (nk : Int)) = False := eq_false (by omega)
  have hs' : ((40 : Int) < (ns : Int)) = False := eq_false (by omega)
  have HK : Hid (nk ≤ 250 ∧ ns ≤ 40) := Lib.hid ⟨by omega, by omega⟩
  clear hbk hbs
  go_upto_region 5 with fail
  clear p0 p1 p2 p3 p4 p5 p6 p7 p8 p9 p10 p11 q0 q1 q2 q3 q4 q5 q6
  clear hk' hs'
  go_cut [5, 6] (fun s5 s6 wx => ∃ A N c, s5 = .slice A N c ∧ s6 = .int .i64 R.2 ∧ Rd wx wx.heap.size A N c R.1 ∧ Blk wx w.heap.size #[.int .i64 op, .bool qt, .bool fu, .int .i64 bad, .int .u32 (oq : Nat), .slice KA nk ck, .slice VB nb cb2, .int .u32 (fl : Nat), .int .u32 (ex : Nat), .int .u64 (cs : Nat), .int .u64 (dl : Nat), .int .u64 (ini : Nat)] 26 ∧ Blk wx (w.heap.size + 1) #[.int .i64 st, .slice VA nv cv, .int .u32 (af : Nat), .int .u64 (ac : Nat), .int .u64 (an : Nat), .slice SA ns sc, .bool cl] 29 ∧ Below w.heap.size w wx)
  case first =>
    refine wp_region_noPanic ?_
    refine region_T (fun wx => Blk wx w.heap.size #[.int .i64 op, .bool qt, .bool fu, .int .i64 bad, .int .u32 (oq : Nat), .slice KA nk ck, .slice VB nb cb2, .int .u32 (fl : Nat), .int .u32 (ex : Nat), .int .u64 (cs : Nat), .int .u64 (dl : Nat), .int .u64 (ini : Nat)] 26 ∧ Blk wx (w.heap.size + 1) #[.int .i64 st, .slice VA nv cv, .int .u32 (af : Nat), .int .u64 (ac : Nat), .int .u64 (an : Nat), .slice SA ns sc, .bool cl] 29) 9 (by kernel_rfl) ?_
    have bD : Below w1.heap.size w1 w1.drew := (Below.refl _ _).drew
    replace kq := kq.step bD
    replace ka := ka.step bD
    replace b := below_step b bD
    have hHeld := And.intro kq ka
    clear bD
    generalize w1.drew = Y0 at kq ka b hHeld ⊢
    refine takeT (i := 0) (v := ?_) rfl (by kernel_rfl) (by kernel_rfl) (by decide) (by kernel_rfl) (by kernel_rfl) (fun _ _ _ h => h) (Or.inl ⟨by rfl, ?_⟩) hHeld ?_
    rotate_left
    · (intro wx hSw; obtain ⟨sa, sb⟩ := hSw; obtain ⟨a0, a1, a2, a3, a4, a5, a6, a7, a8, a9, a10, a11⟩ := box12 sa; obtain ⟨c0, c1, c2, c3, c4, c5, c6⟩ := box7 sb; go_simp; try (with_reducible rfl))
    try simp only [Act.put, List.setIfInBounds_toArray, List.set_cons_zero, List.set_cons_succ]
    refine takeT (i := 1) (v := ?_) rfl (by kernel_rfl) (by kernel_rfl) (by decide) (by kernel_rfl) (by kernel_rfl) (fun _ _ _ h => h) (Or.inl ⟨by rfl, ?_⟩) hHeld ?_
    rotate_left
    · (intro wx hSw; obtain ⟨sa, sb⟩ := hSw; obtain ⟨a0, a1, a2, a3, a4, a5, a6, a7, a8, a9, a10, a11⟩ := box12 sa; obtain ⟨c0, c1, c2, c3, c4, c5, c6⟩ := box7 sb; go_simp; try (with_reducible rfl))
    try simp only [Act.put, List.setIfInBounds_toArray, List.set_cons_zero, List.set_cons_succ]
    refine oneT (i := 2) rfl (by kernel_rfl) (fun KK hK => ?_)
    go_simp
    refine (HCO.out Y0 b HK.out.2).mono ?_
    rintro e Y1 ⟨A1, c1, A2, c2, rfl, o1, o2, b2⟩
    clear hHeld
    replace kq := kq.step b2
    replace ka := ka.step b2
    replace b := below_step b b2
    have hHeld := And.intro kq ka
    have r1 := o1.rd
    have r2 := o2.rz
    clear o1 o2 b2
    unfold ansV
    refine hK.out _ _ (fun _ => hHeld) ?_
    clear hK KK
    try simp only [Act.put, List.setIfInBounds_toArray, List.set_cons_zero, List.set_cons_succ]
    refine oneT (i := 3) rfl (by kernel_rfl) (fun KK hK => ?_)
    go_simp
    refine (HOF.out Y1 A1 c1 A2 c2 b HK.out.1 HK.out.2 r1 r2).mono ?_
    rintro e Y2 ⟨N3, A3, c3, rfl, o3, b3⟩
    clear hHeld r1 r2
    replace kq := kq.step b3
    replace ka := ka.step b3
    replace b := below_step b b3
    have hHeld := And.intro kq ka
    have r3 := o3.rd
    clear o3 b3
    refine hK.out _ _ (fun _ => hHeld) ?_
    clear hK KK
    try simp only [Act.put, List.setIfInBounds_toArray, List.set_cons_zero, List.set_cons_succ]
    refine takeT (i := 4) (v := ?_) rfl (by kernel_rfl) (by kernel_rfl) (by decide) (by kernel_rfl) (by kernel_rfl) (fun _ _ _ h => h) (Or.inl ⟨by rfl, ?_⟩) hHeld ?_
    rotate_left
    · (intro wx hSw; obtain ⟨sa, sb⟩ := hSw; obtain ⟨a0, a1, a2, a3, a4, a5, a6, a7, a8, a9, a10, a11⟩ := box12 sa; obtain ⟨c0, c1, c2, c3, c4, c5, c6⟩ := box7 sb; go_simp; try (with_reducible rfl))
    try simp only [Act.put, List.setIfInBounds_toArray, List.set_cons_zero, List.set_cons_succ]
    refine takeT (i := 5) (v := ?_) rfl (by kernel_rfl) (by kernel_rfl) (by decide) (by kernel_rfl) (by kernel_rfl) (fun _ _ _ h => h) (Or.inl ⟨by rfl, ?_⟩) hHeld ?_
    rotate_left
    · (intro wx hSw; obtain ⟨sa, sb⟩ := hSw; obtain ⟨a0, a1, a2, a3, a4, a5, a6, a7, a8, a9, a10, a11⟩ := box12 sa; obtain ⟨c0, c1, c2, c3, c4, c5, c6⟩ := box7 sb; go_simp; try (with_reducible rfl))
    try simp only [Act.put, List.setIfInBounds_toArray, List.set_cons_zero, List.set_cons_succ]
    refine takeT (i := 6) (v := ?_) rfl (by kernel_rfl) (by kernel_rfl) (by decide) (by kernel_rfl) (by kernel_rfl) (fun _ _ _ h => h) (Or.inl ⟨by rfl, ?_⟩) hHeld ?_
    rotate_left
    · (intro wx hSw; obtain ⟨sa, sb⟩ := hSw; obtain ⟨a0, a1, a2, a3, a4, a5, a6, a7, a8, a9, a10, a11⟩ := box12 sa; obtain ⟨c0, c1, c2, c3, c4, c5, c6⟩ := box7 sb; go_simp; try (with_reducible rfl))
    try simp only [Act.put, List.setIfInBounds_toArray, List.set_cons_zero, List.set_cons_succ]
    refine takeT (i := 7) (v := ?_) rfl (by kernel_rfl) (by kernel_rfl) (by decide) (by kernel_rfl) (by kernel_rfl) (fun _ _ _ h => h) (Or.inl ⟨by rfl, ?_⟩) hHeld ?_
    rotate_left
    · (intro wx hSw; obtain ⟨sa, sb⟩ := hSw; obtain ⟨a0, a1, a2, a3, a4, a5, a6, a7, a8, a9, a10, a11⟩ := box12 sa; obtain ⟨c0, c1, c2, c3, c4, c5, c6⟩ := box7 sb; go_simp; try (with_reducible rfl))
    try simp only [Act.put, List.setIfInBounds_toArray, List.set_cons_zero, List.set_cons_succ]
    refine takeT (i := 8) (v := ?_) rfl (by kernel_rfl) (by kernel_rfl) (by decide) (by kernel_rfl) (by kernel_rfl) (fun _ _ _ h => h) (Or.inl ⟨by rfl, ?_⟩) hHeld ?_
    rotate_left
    · (intro wx hSw; obtain ⟨sa, sb⟩ := hSw; obtain ⟨a0, a1, a2, a3, a4, a5, a6, a7, a8, a9, a10, a11⟩ := box12 sa; obtain ⟨c0, c1, c2, c3, c4, c5, c6⟩ := box7 sb; go_simp; try (with_reducible rfl))
    try simp only [Act.put, List.setIfInBounds_toArray, List.set_cons_zero, List.set_cons_succ]
    refine doneT (by kernel_rfl) ?_ _
    refine NoPanic.normal ?_
    clear hHeld
    go_wp2_with fail
    go_meet
    exact ⟨A3, N3, c3, rfl, rfl, r3, kq, ka, b⟩
  case rest =>
    obtain ⟨A, N, c, rfl, rfl, rB, kq, ka, b⟩ := hcut
    rw [HE1.out] at rB
    have h0 : RfI #[.int .i64 op, .bool qt, .bool fu, .int .i64 bad, .int .u32 (oq : Nat), .slice KA nk ck, .slice VB nb cb2, .int .u32 (fl : Nat), .int .u32 (ex : Nat), .int .u64 (cs : Nat), .int .u64 (dl : Nat), .int .u64 (ini : Nat)] #[.int .i64 st, .slice VA nv cv, .int .u32 (af : Nat), .int .u64 (ac : Nat), .int .u64 (an : Nat), .slice SA ns sc, .bool cl] cb oq Ps w.heap.size 0 Ps A N c w wc := ⟨rB, by omega, fun p hp => hp, kq, ka, b⟩
    clear rB kq ka b
    have HLN : Hid (Ps.length ≤ 17) := Lib.hid HPL.out
    go_wp2_with fail
    go_loopw [5, 7] (fun s5 s7 wr => ∃ (k : Nat) (Rs : List SP) (A : Option Addr) (N c : Nat), s7 = .int .i64 (k : Nat) ∧ s5 = .slice A N c ∧ RfI #[.int .i64 op, .bool qt, .bool fu, .int .i64 bad, .int .u32 (oq : Nat), .slice KA nk ck, .slice VB nb cb2, .int .u32 (fl : Nat), .int .u32 (ex : Nat), .int .u64 (cs : Nat), .int .u64 (dl : Nat), .int .u64 (ini : Nat)] #[.int .i64 st, .slice VA nv cv, .int .u32 (af : Nat), .int .u64 (ac : Nat), .int .u64 (an : Nat), .slice SA ns sc, .bool cl] cb oq Ps w.heap.size k Rs A N c w wr) (fun _ s7 _ => Ps.length - (intOf s7).toNat)
    case atStart => exact ⟨0, Ps, A, N, c, rfl, rfl, h0⟩
    case round =>
      clear h0
      obtain ⟨k, Rs, A, N, c, rfl, rfl, rB, hk, hsub, kq, ka, b⟩ := hrel
      have hN := rB.len
      cases Rs with
      | nil =>
        have hN0 : N = 0 := by simpa [spB] using hN.symm
        subst hN0
        have hkL : k = Ps.length := by simpa using hk
        have HKL := Lib.hid hkL
        clear hN hk hsub rB hkL
        obtain ⟨p0, p1, p2, p3, p4, p5, p6, p7, p8, p9, p10, p11⟩ := box12 kq
        obtain ⟨q0, q1, q2, q3, q4, q5, q6⟩ := box7 ka
        rcases HER.out with he | he
        · have HY := Lib.hid (HYES.out he)
          rw [he]
          clear he
          go_wp2_with fail
          refine (HSI.out wr).mono ?_
          rintro e w5 ⟨rfl, b5⟩
          clear p0 p1 p2 p3 p4 p5 p6 p7 p8 p9 p10 p11 q0 q1 q2 q3 q4 q5 q6
          replace kq := kq.step b5
          replace ka := ka.step b5
          replace b := below_step b b5
          clear b5
          cases hsil : sil with
          | true =>
            have hPs : Ps = [] := HNO.out (Or.inr hsil)
            obtain rfl : k = 0 := by rw [HKL.out, hPs]; rfl
            clear hPs hsil
            go_wp2_with fail
            go_ret
            exact ⟨rfl, b⟩
          | false =>
            have hc := HY.out hsil
            rw [← HKL.out] at hc
            clear hsil
            obtain ⟨p0, p1, p2, p3, p4, p5, p6, p7, p8, p9, p10, p11⟩ := box12 kq
            obtain ⟨q0, q1, q2, q3, q4, q5, q6⟩ := box7 ka
            by_cases h16 : op = 16
            · have f16 : (op == 16) = true := beq_iff_eq.2 h16
              by_cases hst : st = 0
              · have fst : (st == 0) = true := beq_iff_eq.2 hst
                rw [if_pos ⟨h16, hst⟩] at hc
                have e1 : IntKind.i64.wrap ((ns : Int) + 1) = (ns : Int) + 1 := IntWalk.i64_in _ (by have := HK.out; omega)
                have e2 : ((k : Int) == (ns : Int) + 1) = true := beq_iff_eq.2 (by omega)
                clear hc
                go_wp2_with fail
                go_ret
                exact ⟨rfl, b⟩
              · have fst : (st == 0) = false := beq_eq_false_iff_ne.2 hst
                rw [if_neg (fun h => hst h.2)] at hc
                subst hc
                go_wp2_with fail
                go_ret
                exact ⟨rfl, b⟩
            · have f16 : (op == 16) = false := beq_eq_false_iff_ne.2 h16
              rw [if_neg (fun h => h16 h.1)] at hc
              subst hc
              go_wp2_with fail
              go_ret
              exact ⟨rfl, b⟩
        · have hPs : Ps = [] := HNO.out (Or.inl he)
          obtain rfl : k = 0 := by rw [HKL.out, hPs]; rfl
          clear hPs
          rw [he]
          clear he
          go_wp2_with fail
          go_ret
          exact ⟨rfl, b⟩
      | cons p Rs =>
        have hlt : k < Ps.length := by simp at hk; omega
        rw [spB_cons] at rB hN
        rw [List.length_append, sp_len] at hN
        have hp : p ∈ Ps := hsub p List.mem_cons_self
        have hNp : ((0 : Int) < (N : Int)) = True := eq_true (by omega)
        have hNp2 : (0 < N) = True := eq_true (by omega)
        have HKN : Hid (k + 1 + Rs.length = Ps.length ∧ k < 17) := Lib.hid ⟨by simp at hk; omega, by have := HLN.out; omega⟩
        have HSUB : Hid (∀ x ∈ Rs, x ∈ Ps) := Lib.hid (fun x hx => hsub x (List.mem_cons_of_mem _ hx))
        have HG := Lib.hid (HGET.out p (spB cb oq Rs) A N c wr hp rB)
        have hlN : (p.bytes cb oq).length ≤ N := by rw [sp_len]; omega
        have HPD : Hid ((p.bytes cb oq ++ spB cb oq Rs).drop (p.bytes cb oq).length = spB cb oq Rs) := Lib.hid (by simp)
        have hbn := sp_len cb oq p
        obtain ⟨Y, cy, HY, hY⟩ := slc_l rB (p.bytes cb oq).length (((p.bytes cb oq).length : Nat) : Int) rfl hlN
        have HPM := Lib.hid hp
        clear hk hsub hN hp hlt hbn
        generalize (p.bytes cb oq).length = m at HG HPD HY hY hlN
        obtain ⟨M2, hM⟩ : ∃ M2, M2 = N - m := ⟨_, rfl⟩
        rw [← hM] at HY hY
        clear hM
        have HYY := Lib.hid hY
        clear hY
        go_wp2_with fail
        refine HG.out.mono ?_
        rintro e w5 ⟨kl, el, sn, bl, cas, nx2, nk2, nv2, X2, cx2, K2, ck2, V2, cv2, hsn, rfl, b5⟩
        have HSN := Lib.hid hsn
        clear hsn
        unfold frV frC
        have rB5 := rB.step b5
        replace kq := kq.step b5
        replace ka := ka.step b5
        replace b := below_step b b5
        clear b5 rB HG
        have k9 : Blk (w5.alloc (.cells #[.int .u8 129, .int .u8 (cb : Nat), .int .u16 (kl : Nat), .int .u8 (el : Nat), .int .u8 0, .int .u16 (sn : Nat), .int .u32 (bl : Nat), .int .u32 (oq : Nat), .int .u64 (cas : Nat), .slice X2 nx2 cx2, .slice K2 nk2 ck2, .slice V2 nv2 cv2] 61)) w5.heap.size #[.int .u8 129, .int .u8 (cb : Nat), .int .u16 (kl : Nat), .int .u8 (el : Nat), .int .u8 0, .int .u16 (sn : Nat), .int .u32 (bl : Nat), .int .u32 (oq : Nat), .int .u64 (cas : Nat), .slice X2 nx2 cx2, .slice K2 nk2 ck2, .slice V2 nv2 cv2] 61 := Blk.new w5 _ _
        have b6 := below_a1' (Below.refl w5.heap.size w5) (.cells #[.int .u8 129, .int .u8 (cb : Nat), .int .u16 (kl : Nat), .int .u8 (el : Nat), .int .u8 0, .int .u16 (sn : Nat), .int .u32 (bl : Nat), .int .u32 (oq : Nat), .int .u64 (cas : Nat), .slice X2 nx2 cx2, .slice K2 nk2 ck2, .slice V2 nv2 cv2] 61)
        have rB6 := rB5.step b6
        replace kq := kq.step b6
        replace ka := ka.step b6
        replace b := below_step b b6
        clear b6 rB5
        go_upto_region 9 with fail
        generalize w5.alloc (.cells #[.int .u8 129, .int .u8 (cb : Nat), .int .u16 (kl : Nat), .int .u8 (el : Nat), .int .u8 0, .int .u16 (sn : Nat), .int .u32 (bl : Nat), .int .u32 (oq : Nat), .int .u64 (cas : Nat), .slice X2 nx2 cx2, .slice K2 nk2 ck2, .slice V2 nv2 cv2] 61) = w6 at k9 rB6 kq ka b ⊢
        generalize w5.heap.size = g9 at k9 ⊢
        obtain ⟨f0, f1, f2, f3, f4, f5, f6, f7, f8, f9, f10, f11⟩ := box12 k9
        obtain ⟨p0, p1, p2, p3, p4, p5, p6, p7, p8, p9, p10, p11⟩ := box12 kq
        obtain ⟨q0, q1, q2, q3, q4, q5, q6⟩ := box7 ka
        have hb1 : ((129 : Int) != 129) = false := by decide
        have hb2 : ((oq : Int) != (oq : Int)) = false := by simp
        have hb3 : (wrap64 (sn : Int) != st) = false := by rw [IntWalk.wrap64_in _ (by have := HSN.out; have := HST.out p HPM.out; omega), HSN.out]; simp
        go_upto_region 11 with fail
        clear p0 p1 p2 p3 p4 p5 p6 p7 p8 p9 p10 p11 q0 q1 q2 q3 q4 q5 q6 f0 f1 f2 f3 f4 f5 f6 f7 f8 f9 f10 f11
        have hI1 : RfI #[.int .i64 op, .bool qt, .bool fu, .int .i64 bad, .int .u32 (oq : Nat), .slice KA nk ck, .slice VB nb cb2, .int .u32 (fl : Nat), .int .u32 (ex : Nat), .int .u64 (cs : Nat), .int .u64 (dl : Nat), .int .u64 (ini : Nat)] #[.int .i64 st, .slice VA nv cv, .int .u32 (af : Nat), .int .u64 (ac : Nat), .int .u64 (an : Nat), .slice SA ns sc, .bool cl] cb oq Ps w.heap.size (k + 1) Rs Y M2 cy w w6 := ⟨by have h := HYY.out _ _ rB6; rwa [HPD.out] at h, HKN.out.1, HSUB.out, kq, ka, b⟩
        have hJP : IntKind.i64.wrap ((k : Int) + 1) = (k : Int) + 1 := IntWalk.i64_in _ (by have := HKN.out; omega)
        clear kq ka b rB6 k9
        go_wp2_with fail
        try rw [IntWalk.wrap64_in _ (by have := HKN.out; omega)]
        refine ⟨⟨k + 1, Rs, Y, M2, cy, by first | rfl | go_num, rfl, hI1⟩, ?_⟩
        have h17 := HKN.out
        simp [intOf]
        omega


set_option maxRecDepth 100000 in
theorem lifted_replyFrames (os : Os) (started : os.Started) (H : Type) (enc : TypeId × Value → H) :
    ReturnsInHanded {} Try.checked os 11 .any (Rows.replyFramesSpec.pre6 enc Try.prog Try.f11 Rows.replyFramesRow.domain false) (Rows.replyFramesSpec.post enc Try.prog Try.f11 false true false false) := by
  refine returnsInHanded_of_change_sized (C := Try.checked) own started (by kernel_rfl) Try.func11
    (ChangeSpec.witness6 (enc := enc) (C := Try.checked) false ⟨#[], #[.agg #[.int .i64 0, .bool false, .bool false, .int .i64 0, .int .u32 0, .slice none 0 0, .slice none 0 0, .int .u32 0, .int .u32 0, .int .u64 0, .int .u64 0, .int .u64 0], .agg #[.int .i64 0, .slice none 0 0, .int .u32 0, .int .u64 0, .int .u64 0, .slice none 0 0, .bool false]], []⟩ 8 (by kernel_rfl) (by kernel_rfl) (by kernel_rfl) (by kernel_rfl)) ?_
  intro W base args ds gs before hval0 hW hcnd hsz0 _
  have hval : ∀ (j : Nat) t v, Try.f11.params[j]? = some t → args[j]? = some v → Value.okWide Try.prog W .any base t v := hval0
  have hsz : (DataW.weightsEach Try.prog (Try.f11.params.toList ++ Rows.replyFramesSpec.plain.varTypes Try.prog) (ds ++ gs)).all (· ≤ reachBytes) = true := hsz0
  have hW' := hW
  obtain ⟨p, q, hA0, hV, rfl, hfz, hnd⟩ := hW
  have hA : DataW.TrodAll enc Try.prog W 0 (fun _ => true) true Try.f11.params.toList args.toList ds p := hA0
  rw [Try.params11] at hA hval hsz
  obtain ⟨v0, vs0, d0, ds0, p0, q0, hargs, rfl, rfl, h0, t0⟩ := trodAll_cons hA
  obtain ⟨v1, vs1, d1, ds1, p1, q1, rfl, rfl, rfl, h1, t1⟩ := trodAll_cons t0
  obtain ⟨rfl, rfl, rfl⟩ := trodAll_nil t1
  obtain rfl : args = #[v0, v1] := by cases args; simp_all
  obtain ⟨rfl, rfl⟩ := trodVars_none hV
  have k0 := h0
  obtain ⟨op0, qt0, fu0, bd0, oq0, fl0, ex0, cs0, dl0, ni0, K0, nk0, ck0, lk0, V0, nv0, cv0, lv0, rfl, r0, y0⟩ := open_req (hval 0 26 v0 rfl rfl) h0
  have s0 := y0 (weights_of hsz (j := 0) rfl rfl)
  have k1 := h1
  obtain ⟨st1, VA1, nv1, cv1, lv1, af1, ac1, an1, SA1, ns1, sc1, SL1, cl1, rfl, r1, y1⟩ := open_ans (hval 1 29 v1 rfl rfl) h1
  have s1 := y1 (weights_of hsz (j := 1) rfl rfl)
  clear hA0 hval0
  refine (walk_replyFrames op0 qt0 fu0 bd0 oq0 fl0 ex0 cs0 dl0 ni0 K0 nk0 ck0 lk0 V0 nv0 cv0 lv0 st1 VA1 nv1 cv1 lv1 af1 ac1 an1 SA1 ns1 sc1 SL1 cl1 W r0 s0 r1 s1).mono fun e W' ⟨he, bel⟩ => ?_
  subst he
  exact ⟨_, rfl, _, _, _, [], _, [], hW', trodAll_mk1 (shut_bool Try.underlying4 _), (trodAll_cons_mk (Below.trod laidOut (by kernel_rfl) (of_decide_eq_true (by kernel_rfl)) k0 bel (trod_places k0)) (trodAll_cons_mk (Below.trod laidOut (by kernel_rfl) (of_decide_eq_true (by kernel_rfl)) k1 bel (trod_places k1)) trodAll_mk0)), rfl, bel.frame _, fun h => by cases h⟩

theorem closed_replyFrames : joinedFacts Try.pinned.checked.prog 11 Try.f11 Rows.replyFramesSpec Rows.replyFramesRow = true := by
  unfold joinedFacts
  rw [clo_heard, clo_may, clo_lifts, clo_make]
  kernel_rfl
theorem over_replyFrames : Rows.replyFramesRow.holds Try.pinned (OpenSpec.ofChange Rows.replyFramesSpec) :=
  OpenClaim.holds_of_wide 11 Try.f11 rfl rfl rfl rfl rfl rfl rfl ⟨rfl, rfl, rfl, rfl, rfl⟩ rfl rfl rfl rfl rfl (by kernel_rfl) Try.func11 closed_replyFrames
    (of_decide_eq_true (by kernel_rfl)) (by unfold Func.isWrapper; first | (rw [if_pos (by decide +kernel)]; kernel_rfl) | (rw [if_neg (by decide +kernel)]; exact ⟨rfl, rfl⟩))
    (fun os started H enc _ => lifted_replyFrames os started H enc)

/-- The statement. -/
theorem replyFrames_holds : Rows.ReplyFramesSaid := over_replyFrames
#print axioms replyFrames_holds

end Go.Proofs.Ytnghmgbmflcngaa

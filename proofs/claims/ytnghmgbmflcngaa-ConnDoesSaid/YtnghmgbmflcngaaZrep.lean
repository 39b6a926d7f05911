/- Merged texts: Rpu, Rch, Rsl, Ral, Ras, Rof, Mal, Wk21. Conditions: typed in each theorem. -/
import Derived.Test.YtnghmgbmflcngaaZcod
import Derived.Test.YtnghmgbmflcngaaZfre
import Derived.Test.YtnghmgbmflcngaaZfri
import Derived.Test.YtnghmgbmflcngaaZhld
import Derived.Deep.DeepCutAuto
import Derived.Laws.IdiomStrings
import Derived.Test.YtnghmgbmflcngaaZpar
import Derived.Lib.SlBytesConst
namespace Go.Proofs.Ytnghmgbmflcngaa
set_option linter.unusedVariables false
section
open Go.RowKit
structure Sd where
  st : Int
  X : Option Addr
  nx : Nat
  cx : Nat
  K : Option Addr
  nk : Nat
  ck : Nat
  V : Option Addr
  nv : Nat
  cv : Nat
  cas : Nat
  lx : List UInt8
  lk : List UInt8
  lv : List UInt8
def Sd.cells (s : Sd) : List Value := [.int .i64 s.st, .slice s.X s.nx s.cx, .slice s.K s.nk s.ck, .slice s.V s.nv s.cv, .int .u64 (s.cas : Nat)]
def Sd.fits (s : Sd) : Prop := ¬ tooLong s.nx s.nk s.nv
def Sd.Ok (s : Sd) (w : World) : Prop := Rd w w.heap.size s.X s.nx s.cx s.lx ∧ Rd w w.heap.size s.K s.nk s.ck s.lk ∧ Rd w w.heap.size s.V s.nv s.cv s.lv ∧ s.cas < 18446744073709551616 ∧ s.nx + s.nk + s.nv ≤ 9223372036854775807
def Sd.bytes (cb oq : Nat) (s : Sd) : List UInt8 := hdB 129 cb s.nk s.nx 0 (s.st % 65536).toNat (s.nx + s.nk + s.nv) oq s.cas ++ s.lx ++ s.lk ++ s.lv
def putB (cb oq : Nat) (L : List Sd) : List UInt8 := (L.map (Sd.bytes cb oq)).flatten
theorem putB_snoc {cb oq : Nat} {L : List Sd} {k : Nat} {s : Sd} (h : L[k]? = some s) : putB cb oq (L.take (k + 1)) = putB cb oq (L.take k) ++ s.bytes cb oq := by
  unfold putB
  rw [List.take_add_one, h]
  simp
theorem far_rd {V V' : World} {g n c : Nat} {A : Option Addr} {l : List UInt8} (r : Rd V g A n c l) (hlt : g < V.heap.size) (g1 : V.grownBy V' (some g)) : ∀ wy : World, V'.grownBy wy (some g) → Rd wy wy.heap.size A n c l := fun wy h => by
  have bl := below_grown (grown_trans g1 h) (Nat.le_refl g) hlt
  exact (r.below bl).more (by have := bl.size; omega)
theorem far_own {V V' : World} {B g n c : Nat} {A : Option Addr} {l : List UInt8} (o : Own V B A n c l) (hlt : g < B) (g1 : V.grownBy V' (some g)) : ∀ wy : World, V'.grownBy wy (some g) → Rd wy wy.heap.size A n c l := fun wy h =>
  (o.kept (grown_trans g1 h) hlt).rd
def PutB (W : World) (s10 : Value) (wx : World) : Prop := s10 = .int .i64 3 ∧ Below W.heap.size W wx
def PutF (cb oq nx nk nv bl : Nat) (lx lk lv : List UInt8) (W : World) (s9 s10 : Value) (wx : World) : Prop :=
  ∃ (g9 : Nat) (X2 K2 V2 : Option Addr) (cx2 ck2 cv2 : Nat), s9 = .pointer (some ⟨g9, 0, none⟩) ∧ s10 = .int .i64 0 ∧ Blk wx g9 #[.int .u8 129, .int .u8 (cb : Nat), .int .u16 (nk : Nat), .int .u8 (nx : Nat), .int .u8 0, .int .u16 0, .int .u32 (bl : Nat), .int .u32 (oq : Nat), .int .u64 0, .slice X2 nx cx2, .slice K2 nk ck2, .slice V2 nv cv2] 61 ∧ (∀ wy : World, wx.grownBy wy (some g9) → Rd wy wy.heap.size X2 nx cx2 lx) ∧ (∀ wy : World, wx.grownBy wy (some g9) → Rd wy wy.heap.size K2 nk ck2 lk) ∧ (∀ wy : World, wx.grownBy wy (some g9) → Rd wy wy.heap.size V2 nv cv2 lv) ∧ W.heap.size ≤ g9 ∧ Below W.heap.size W wx
def MakeOn (cb oq nx nk nv bl : Nat) (lx lk lv : List UInt8) (w : World) (e : Ending) (w' : World) : Prop :=
  ∃ (X2 K2 V2 : Option Addr) (cx2 ck2 cv2 : Nat), e = .returned (.tuple #[.agg #[.int .u8 129, .int .u8 (cb : Nat), .int .u16 (nk : Nat), .int .u8 (nx : Nat), .int .u8 0, .int .u16 0, .int .u32 (bl : Nat), .int .u32 (oq : Nat), .int .u64 0, .slice X2 nx cx2, .slice K2 nk ck2, .slice V2 nv cv2], .int .i64 0]) ∧ Own w' w.heap.size X2 nx cx2 lx ∧ Own w' w.heap.size K2 nk ck2 lk ∧ Own w' w.heap.size V2 nv cv2 lv ∧ Below w.heap.size w w'
def MakeEn (w : World) (e : Ending) (w' : World) : Prop := e = .returned (.tuple #[.agg #[.int .u8 0, .int .u8 0, .int .u16 0, .int .u8 0, .int .u8 0, .int .u16 0, .int .u32 0, .int .u32 0, .int .u64 0, .slice none 0 0, .slice none 0 0, .slice none 0 0], .int .i64 3]) ∧ Below w.heap.size w w'
def PutsQ (cb oq : Nat) (L : List Sd) (w : World) (e : Ending) (w' : World) : Prop :=
  ((∀ s ∈ L, s.fits) ∧ ∃ A' c' N', N' = (putB cb oq L).length ∧ e = .returned (.tuple #[.slice A' N' c', .int .i64 0]) ∧ Own w' w.heap.size A' N' c' (putB cb oq L) ∧ Below w.heap.size w w') ∨
  ((¬ ∀ s ∈ L, s.fits) ∧ e = .returned (.tuple #[.slice none 0 0, .int .i64 2]) ∧ Below w.heap.size w w')
def PRel (rq : Array Value) (cb oq : Nat) (L : List Sd) (w : World) (o i : Value) (wr : World) : Prop :=
  ∃ (k : Nat) (A : Option Addr) (N c : Nat), k ≤ L.length ∧ i = .int .i64 k ∧ o = .slice A N c ∧ Own wr (w.heap.size + 1) A N c (putB cb oq (L.take k)) ∧ N ≤ 2072 * k ∧ (∀ j s, j < k → L[j]? = some s → s.fits) ∧ Below w.heap.size w wr ∧ Blk wr w.heap.size rq 26
theorem saidinfo : (Try.prog.info? 124).map (·.size) = some 5 := by kernel_rfl
set_option maxRecDepth 100000 in
set_option maxHeartbeats 4000000 in
theorem puts_any (op : Int) (qt fu : Bool) (bad : Int) (oq : Nat) (hoq : oq < 4294967296) (KQ VQ : Value) (fl ex cs dl ini : Nat) (L : List Sd) (A : Option Addr) (c : Nat) (hL : L.length ≤ 1000) (w : World)
    (r : Rz w w.heap.size 5 A L.length c (L.map Sd.cells).flatten) (hok : ∀ s ∈ L, s.Ok w) :
    Calls Try.prog 75 #[reqV op qt fu bad oq KQ VQ fl ex cs dl ini, .slice A L.length c] w (PutsQ (codeB op qt fu) oq L w) := by
  have k0 := Blk.new w #[.int .i64 op, .bool qt, .bool fu, .int .i64 bad, .int .u32 (oq : Nat), KQ, VQ, .int .u32 (fl : Nat), .int .u32 (ex : Nat), .int .u64 (cs : Nat), .int .u64 (dl : Nat), .int .u64 (ini : Nat)] 26
  have b0 := below_a1' (Below.refl w.heap.size w) (.cells #[.int .i64 op, .bool qt, .bool fu, .int .i64 bad, .int .u32 (oq : Nat), KQ, VQ, .int .u32 (fl : Nat), .int .u32 (ex : Nat), .int .u64 (cs : Nat), .int .u64 (dl : Nat), .int .u64 (ini : Nat)] 26)
  have HCODE : Hid (∀ W, Calls Try.prog 115 #[.agg #[.int .i64 op, .bool qt, .bool fu, .int .i64 bad, .int .u32 (oq : Nat), KQ, VQ, .int .u32 (fl : Nat), .int .u32 (ex : Nat), .int .u64 (cs : Nat), .int .u64 (dl : Nat), .int .u64 (ini : Nat)]] W (BoxQ' (.int .u8 (codeB op qt fu : Nat)) W)) := Lib.hid (fun W => rcode_any op qt fu bad oq KQ VQ fl ex cs dl ini W)
  have hcb := codeB_lt op qt fu
  unfold reqV
  generalize codeB op qt fu = cb at HCODE hcb ⊢
  have HOK := Lib.hid hok
  clear hok
  go_enter Try.func75, Try.ntmps75
  go_upto_region 2 with fail
  generalize w.alloc (.cells #[.int .i64 op, .bool qt, .bool fu, .int .i64 bad, .int .u32 (oq : Nat), KQ, VQ, .int .u32 (fl : Nat), .int .u32 (ex : Nat), .int .u64 (cs : Nat), .int .u64 (dl : Nat), .int .u64 (ini : Nat)] 26) = W0 at k0 b0 ⊢
  go_wp2_with fail
  go_loopw [6, 14] (fun o i wr => PRel #[.int .i64 op, .bool qt, .bool fu, .int .i64 bad, .int .u32 (oq : Nat), KQ, VQ, .int .u32 (fl : Nat), .int .u32 (ex : Nat), .int .u64 (cs : Nat), .int .u64 (dl : Nat), .int .u64 (ini : Nat)] cb oq L w o i wr) (fun _ i _ => L.length - (intOf i).toNat)
  case atStart => exact ⟨0, none, 0, 0, Nat.zero_le _, rfl, rfl, Own.nil _ _, by omega, fun j s hj => absurd hj (Nat.not_lt_zero _), b0, k0⟩
  case round =>
    obtain ⟨k, A1, N, c1, hk, rfl, rfl, o1, hN, hfit, b1, kq⟩ := hrel
    have HF := Lib.hid hfit
    clear hfit k0 b0
    by_cases hlt : k < L.length
    · obtain ⟨ad, rfl, had, hlen, hc⟩ := (r.step b1).elem hlt
      obtain ⟨s, hs⟩ : ∃ s, L[k]? = some s := ⟨_, List.getElem?_eq_getElem hlt⟩
      have HS := Lib.hid hs
      have hel := flat_elem 5 (L.map Sd.cells) (fun x hx => by obtain ⟨y, -, rfl⟩ := List.mem_map.1 hx; rfl) (i := k) (x := s.cells) (by rw [List.getElem?_map, hs]; rfl)
      rw [hel] at hc
      have hso := HOK.out s (List.mem_of_getElem? hs)
      have HJ := Lib.hid (putB_snoc (cb := cb) (oq := oq) hs)
      clear hs hel hlen
      obtain ⟨st, X, nx, cx, K, nk, ck, V, nv, cv, cas, lx, lk, lv⟩ := s
      obtain ⟨rX, rK, rV, hcas, hsum⟩ := hso
      dsimp only at rX rK rV hcas hsum
      dsimp only [Sd.cells] at hc
      have HC := Lib.hid hc
      clear hc
      have hsz := b1.size
      have hlq := kq.lt
      replace rX := rX.step b1
      replace rK := rK.step b1
      replace rV := rV.step b1
      have k8 := Blk.new wr #[.int .i64 st, .slice X nx cx, .slice K nk ck, .slice V nv cv, .int .u64 (cas : Nat)] 124
      have b8 := below_a1' (Below.refl wr.heap.size wr) (.cells #[.int .i64 st, .slice X nx cx, .slice K nk ck, .slice V nv cv, .int .u64 (cas : Nat)] 124)
      replace rX := rX.step b8
      replace rK := rK.step b8
      replace rV := rV.step b8
      replace kq := kq.step b8
      replace o1 := Own.below o1 b8
      replace b1 := below_step b1 b8
      go_upto_region 5 with (first | refine wpList_loadz rfl _ _ rfl (ad.add (k * 5)) rfl _ _ HC.out Try.underlying124 rfl saidinfo ?_)
      generalize wr.alloc (.cells #[.int .i64 st, .slice X nx cx, .slice K nk ck, .slice V nv cv, .int .u64 (cas : Nat)] 124) = W8 at k8 b8 rX rK rV kq o1 b1 ⊢
      generalize wr.heap.size = g8 at k8 b8 hsz hlq ⊢
      have k0 := kq
      by_cases hfit : tooLong nx nk nv
      · have HBAD : Hid (¬ Sd.fits ⟨st, X, nx, cx, K, nk, ck, V, nv, cv, cas, lx, lk, lv⟩) := Lib.hid (fun h => h hfit)
        have HMAKE : Hid (∀ W, Calls Try.prog 89 #[.int .u8 129, .int .u8 (cb : Nat), .int .u32 (oq : Nat), .slice X nx cx, .slice K nk ck, .slice V nv cv] W (MakeEn W)) := Lib.hid (fun W => make_L 129 cb oq (Or.inr rfl) X K V nx cx nk ck nv cv hsum hfit W)
        clear hfit
        go_cut [9, 10] (fun s9 s10 wx => PutB W8 s10 wx)
        case first =>
          refine wp_region_noPanic ?_
          refine region_T (fun wx => (wx.cell? ⟨w.heap.size, 0, none⟩ = some (.int .i64 op) ∧ wx.cell? ⟨w.heap.size, 1, none⟩ = some (.bool qt) ∧ wx.cell? ⟨w.heap.size, 2, none⟩ = some (.bool fu) ∧ wx.cell? ⟨w.heap.size, 3, none⟩ = some (.int .i64 bad) ∧ wx.cell? ⟨w.heap.size, 4, none⟩ = some (.int .u32 (oq : Nat)) ∧ wx.cell? ⟨w.heap.size, 5, none⟩ = some KQ ∧ wx.cell? ⟨w.heap.size, 6, none⟩ = some VQ ∧ wx.cell? ⟨w.heap.size, 7, none⟩ = some (.int .u32 (fl : Nat)) ∧ wx.cell? ⟨w.heap.size, 8, none⟩ = some (.int .u32 (ex : Nat)) ∧ wx.cell? ⟨w.heap.size, 9, none⟩ = some (.int .u64 (cs : Nat)) ∧ wx.cell? ⟨w.heap.size, 10, none⟩ = some (.int .u64 (dl : Nat)) ∧ wx.cell? ⟨w.heap.size, 11, none⟩ = some (.int .u64 (ini : Nat))) ∧ (wx.cell? ⟨g8, 0, none⟩ = some (.int .i64 st) ∧ wx.cell? ⟨g8, 1, none⟩ = some (.slice X nx cx) ∧ wx.cell? ⟨g8, 2, none⟩ = some (.slice K nk ck) ∧ wx.cell? ⟨g8, 3, none⟩ = some (.slice V nv cv) ∧ wx.cell? ⟨g8, 4, none⟩ = some (.int .u64 (cas : Nat)))) 17 (by kernel_rfl) ?_
          have b : Below W8.heap.size W8 W8.drew := (Below.refl _ _).drew
          have hHeld := And.intro (box12 (k0.step b)) (box5 (k8.step b))
          generalize W8.drew = Y0 at b hHeld ⊢
          refine takeA (i := 0) (v := ?_) rfl (fun _ _ _ h => h) (Or.inl ⟨by rfl, ?_⟩) hHeld ?_
          rotate_left
          · (intro wx hSw; obtain ⟨⟨a0, a1, a2, a3, a4, a5, a6, a7, a8, a9, a10, a11⟩, c0, c1, c2, c3, c4⟩ := hSw; go_simp; try (with_reducible rfl))
          try simp only [Act.put, List.setIfInBounds_toArray, List.set_cons_zero, List.set_cons_succ]
          refine takeA (i := 2) (v := ?_) rfl (fun _ _ _ h => h) (Or.inl ⟨by rfl, ?_⟩) hHeld ?_
          rotate_left
          · (intro wx hSw; obtain ⟨⟨a0, a1, a2, a3, a4, a5, a6, a7, a8, a9, a10, a11⟩, c0, c1, c2, c3, c4⟩ := hSw; go_simp; try (with_reducible rfl))
          try simp only [Act.put, List.setIfInBounds_toArray, List.set_cons_zero, List.set_cons_succ]
          refine takeA (i := 3) (v := ?_) rfl (fun _ _ _ h => h) (Or.inl ⟨by rfl, ?_⟩) hHeld ?_
          rotate_left
          · (intro wx hSw; obtain ⟨⟨a0, a1, a2, a3, a4, a5, a6, a7, a8, a9, a10, a11⟩, c0, c1, c2, c3, c4⟩ := hSw; go_simp; try (with_reducible rfl))
          try simp only [Act.put, List.setIfInBounds_toArray, List.set_cons_zero, List.set_cons_succ]
          refine takeA (i := 4) (v := ?_) rfl (fun _ _ _ h => h) (Or.inl ⟨by rfl, ?_⟩) hHeld ?_
          rotate_left
          · (intro wx hSw; obtain ⟨⟨a0, a1, a2, a3, a4, a5, a6, a7, a8, a9, a10, a11⟩, c0, c1, c2, c3, c4⟩ := hSw; go_simp; try (with_reducible rfl))
          try simp only [Act.put, List.setIfInBounds_toArray, List.set_cons_zero, List.set_cons_succ]
          refine takeA (i := 5) (v := ?_) rfl (fun _ _ _ h => h) (Or.inl ⟨by rfl, ?_⟩) hHeld ?_
          rotate_left
          · (intro wx hSw; obtain ⟨⟨a0, a1, a2, a3, a4, a5, a6, a7, a8, a9, a10, a11⟩, c0, c1, c2, c3, c4⟩ := hSw; go_simp; try (with_reducible rfl))
          try simp only [Act.put, List.setIfInBounds_toArray, List.set_cons_zero, List.set_cons_succ]
          refine takeA (i := 6) (v := ?_) rfl (fun _ _ _ h => h) (Or.inl ⟨by rfl, ?_⟩) hHeld ?_
          rotate_left
          · (intro wx hSw; obtain ⟨⟨a0, a1, a2, a3, a4, a5, a6, a7, a8, a9, a10, a11⟩, c0, c1, c2, c3, c4⟩ := hSw; go_simp; try (with_reducible rfl))
          try simp only [Act.put, List.setIfInBounds_toArray, List.set_cons_zero, List.set_cons_succ]
          refine takeA (i := 7) (v := ?_) rfl (fun _ _ _ h => h) (Or.inl ⟨by rfl, ?_⟩) hHeld ?_
          rotate_left
          · (intro wx hSw; obtain ⟨⟨a0, a1, a2, a3, a4, a5, a6, a7, a8, a9, a10, a11⟩, c0, c1, c2, c3, c4⟩ := hSw; go_simp; try (with_reducible rfl))
          try simp only [Act.put, List.setIfInBounds_toArray, List.set_cons_zero, List.set_cons_succ]
          refine takeA (i := 8) (v := ?_) rfl (fun _ _ _ h => h) (Or.inl ⟨by rfl, ?_⟩) hHeld ?_
          rotate_left
          · (intro wx hSw; obtain ⟨⟨a0, a1, a2, a3, a4, a5, a6, a7, a8, a9, a10, a11⟩, c0, c1, c2, c3, c4⟩ := hSw; go_simp; try (with_reducible rfl))
          try simp only [Act.put, List.setIfInBounds_toArray, List.set_cons_zero, List.set_cons_succ]
          refine takeA (i := 9) (v := ?_) rfl (fun _ _ _ h => h) (Or.inl ⟨by rfl, ?_⟩) hHeld ?_
          rotate_left
          · (intro wx hSw; obtain ⟨⟨a0, a1, a2, a3, a4, a5, a6, a7, a8, a9, a10, a11⟩, c0, c1, c2, c3, c4⟩ := hSw; go_simp; try (with_reducible rfl))
          try simp only [Act.put, List.setIfInBounds_toArray, List.set_cons_zero, List.set_cons_succ]
          refine twoT (i := 1) (j := 14) rfl rfl (by kernel_rfl) (fun KK hK => ?_) (fun KK hK => ?_)
          · go_simp
            refine (HCODE.out Y0).mono ?_
            rintro e Y1 ⟨rfl, b1⟩
            have b := below_step b b1
            have hHeld := And.intro (box12 (k0.step b)) (box5 (k8.step b))
            refine hK.out _ _ (fun _ => hHeld) ?_
            clear hK KK
            try simp only [Act.put, List.setIfInBounds_toArray, List.set_cons_zero, List.set_cons_succ]
            refine twoT (i := 10) (j := 14) rfl rfl (by kernel_rfl) (fun KK hK => ?_) (fun KK hK => ?_)
            · go_simp
              refine (HMAKE.out Y1).mono ?_
              rintro e Y2 ⟨rfl, b1⟩
              have b := below_step b b1
              have hHeld := And.intro (box12 (k0.step b)) (box5 (k8.step b))
              refine hK.out _ _ (fun _ => hHeld) ?_
              clear hK KK
              try simp only [Act.put, List.setIfInBounds_toArray, List.set_cons_zero, List.set_cons_succ]
              refine takeA (i := 11) (v := ?_) rfl (fun _ _ _ h => h) (Or.inl ⟨by rfl, ?_⟩) hHeld ?_
              rotate_left
              · (intro wx hSw; obtain ⟨⟨a0, a1, a2, a3, a4, a5, a6, a7, a8, a9, a10, a11⟩, c0, c1, c2, c3, c4⟩ := hSw; go_simp; try (with_reducible rfl))
              try simp only [Act.put, List.setIfInBounds_toArray, List.set_cons_zero, List.set_cons_succ]
              refine takeA (i := 12) (v := ?_) rfl (fun _ _ _ h => h) (Or.inl ⟨by rfl, ?_⟩) hHeld ?_
              rotate_left
              · (intro wx hSw; obtain ⟨⟨a0, a1, a2, a3, a4, a5, a6, a7, a8, a9, a10, a11⟩, c0, c1, c2, c3, c4⟩ := hSw; go_simp; try (with_reducible rfl))
              try simp only [Act.put, List.setIfInBounds_toArray, List.set_cons_zero, List.set_cons_succ]
              refine takeA (i := 13) (v := ?_) rfl (fun _ _ _ h => h) (Or.inl ⟨by rfl, ?_⟩) hHeld ?_
              rotate_left
              · (intro wx hSw; obtain ⟨⟨a0, a1, a2, a3, a4, a5, a6, a7, a8, a9, a10, a11⟩, c0, c1, c2, c3, c4⟩ := hSw; go_simp; try (with_reducible rfl))
              try simp only [Act.put, List.setIfInBounds_toArray, List.set_cons_zero, List.set_cons_succ]
              refine oneT (i := 14) rfl (by kernel_rfl) (fun KK hK => ?_)
              go_simp
              have hg9 := b.size
              have k9 := Blk.new Y2 #[.int .u8 0, .int .u8 0, .int .u16 0, .int .u8 0, .int .u8 0, .int .u16 0, .int .u32 0, .int .u32 0, .int .u64 0, .slice none 0 0, .slice none 0 0, .slice none 0 0] 61
              have b1 := below_a1' (Below.refl Y2.heap.size Y2) (.cells #[.int .u8 0, .int .u8 0, .int .u16 0, .int .u8 0, .int .u8 0, .int .u16 0, .int .u32 0, .int .u32 0, .int .u64 0, .slice none 0 0, .slice none 0 0, .slice none 0 0] 61)
              have b := below_step b b1
              generalize hW : Y2.alloc (.cells #[.int .u8 0, .int .u8 0, .int .u16 0, .int .u8 0, .int .u8 0, .int .u16 0, .int .u32 0, .int .u32 0, .int .u64 0, .slice none 0 0, .slice none 0 0, .slice none 0 0] 61) = Y3 at k9 b b1 ⊢
              clear hW
              generalize hG : Y2.heap.size = g9 at k9 b1 hg9 ⊢
              have hHeld := And.intro (box12 (k0.step b)) (box5 (k8.step b))
              refine hK.out _ _ (fun _ => hHeld) ?_
              clear hK KK
              try simp only [Act.put, List.setIfInBounds_toArray, List.set_cons_zero, List.set_cons_succ]
              obtain ⟨z0, z1, z2, z3, z4, z5, z6, z7, z8, z9, z10, z11⟩ := box12 k9
              have y0 := k9.frozen 0
              have y1 := k9.frozen 1
              have y2 := k9.frozen 2
              have y3 := k9.frozen 3
              have y4 := k9.frozen 4
              have y5 := k9.frozen 5
              have y6 := k9.frozen 6
              have y7 := k9.frozen 7
              have y8 := k9.frozen 8
              have y9 := k9.frozen 9
              have y10 := k9.frozen 10
              have y11 := k9.frozen 11
              refine oneT (i := 15) rfl (by kernel_rfl) (fun KK hK => ?_)
              go_simp
              have gf := grown_set12 Y3 g9 (.int .u8 0) (.int .u8 0) (.int .u16 0) (.int .u8 0) (.int .u8 0) (.int .u16 0) (.int .u32 0) (.int .u32 0) (.int .u64 0) (.slice none 0 0) (.slice none 0 0) (.slice none 0 0)
              have kf := blk_set12 k9 (.int .u8 0) (.int .u8 0) (.int .u16 0) (.int .u8 0) (.int .u8 0) (.int .u16 0) (.int .u32 0) (.int .u32 0) (.int .u64 0) (.slice none 0 0) (.slice none 0 0) (.slice none 0 0)
              have b := b.trans (below_grown gf hg9 k9.lt)
              refine hK.out _ _ (fun _ => And.intro (box12 (k0.step b)) (box5 (k8.step b))) ?_
              clear hK KK
              try simp only [Act.put, List.setIfInBounds_toArray, List.set_cons_zero, List.set_cons_succ]
              generalize hVF : ((((((((((((Y3.setCell ⟨g9, 0, none⟩ (.int .u8 0)).setCell ⟨g9, 1, none⟩ (.int .u8 0)).setCell ⟨g9, 2, none⟩ (.int .u16 0)).setCell ⟨g9, 3, none⟩ (.int .u8 0)).setCell ⟨g9, 4, none⟩ (.int .u8 0)).setCell ⟨g9, 5, none⟩ (.int .u16 0)).setCell ⟨g9, 6, none⟩ (.int .u32 0)).setCell ⟨g9, 7, none⟩ (.int .u32 0)).setCell ⟨g9, 8, none⟩ (.int .u64 0)).setCell ⟨g9, 9, none⟩ (.slice none 0 0)).setCell ⟨g9, 10, none⟩ (.slice none 0 0)).setCell ⟨g9, 11, none⟩ (.slice none 0 0)) = VF at kf b ⊢
              refine oneT (i := 16) rfl (by kernel_rfl) (fun KK hK => ?_)
              go_simp
              refine hK.out _ _ (fun _ => And.intro (box12 (k0.step b)) (box5 (k8.step b))) ?_
              clear hK KK
              try simp only [Act.put, List.setIfInBounds_toArray, List.set_cons_zero, List.set_cons_succ]
              refine doneT (by kernel_rfl) ?_ _
              refine NoPanic.normal ?_
              go_wp2_with fail
              go_meet
              exact ⟨rfl, b⟩
            · go_simp
              have hg9 := b.size
              have k9 := Blk.new Y1 #[.int .u8 0, .int .u8 0, .int .u16 0, .int .u8 0, .int .u8 0, .int .u16 0, .int .u32 0, .int .u32 0, .int .u64 0, .slice none 0 0, .slice none 0 0, .slice none 0 0] 61
              have b1 := below_a1' (Below.refl Y1.heap.size Y1) (.cells #[.int .u8 0, .int .u8 0, .int .u16 0, .int .u8 0, .int .u8 0, .int .u16 0, .int .u32 0, .int .u32 0, .int .u64 0, .slice none 0 0, .slice none 0 0, .slice none 0 0] 61)
              have b := below_step b b1
              generalize hW : Y1.alloc (.cells #[.int .u8 0, .int .u8 0, .int .u16 0, .int .u8 0, .int .u8 0, .int .u16 0, .int .u32 0, .int .u32 0, .int .u64 0, .slice none 0 0, .slice none 0 0, .slice none 0 0] 61) = Y2 at k9 b b1 ⊢
              clear hW
              generalize hG : Y1.heap.size = g9 at k9 b1 hg9 ⊢
              have hHeld := And.intro (box12 (k0.step b)) (box5 (k8.step b))
              refine hK.out _ _ (fun _ => hHeld) ?_
              clear hK KK
              try simp only [Act.put, List.setIfInBounds_toArray, List.set_cons_zero, List.set_cons_succ]
              refine oneT (i := 10) rfl (by kernel_rfl) (fun KK hK => ?_)
              go_simp
              have lt9 := k9.lt
              refine (HMAKE.out Y2).mono ?_
              rintro e Y3 ⟨rfl, b1⟩
              have b := below_step b b1
              have k9 := k9.step b1
              have hHeld := And.intro (box12 (k0.step b)) (box5 (k8.step b))
              refine hK.out _ _ (fun _ => hHeld) ?_
              clear hK KK
              try simp only [Act.put, List.setIfInBounds_toArray, List.set_cons_zero, List.set_cons_succ]
              refine takeA (i := 11) (v := ?_) rfl (fun _ _ _ h => h) (Or.inl ⟨by rfl, ?_⟩) hHeld ?_
              rotate_left
              · (intro wx hSw; obtain ⟨⟨a0, a1, a2, a3, a4, a5, a6, a7, a8, a9, a10, a11⟩, c0, c1, c2, c3, c4⟩ := hSw; go_simp; try (with_reducible rfl))
              try simp only [Act.put, List.setIfInBounds_toArray, List.set_cons_zero, List.set_cons_succ]
              refine takeA (i := 12) (v := ?_) rfl (fun _ _ _ h => h) (Or.inl ⟨by rfl, ?_⟩) hHeld ?_
              rotate_left
              · (intro wx hSw; obtain ⟨⟨a0, a1, a2, a3, a4, a5, a6, a7, a8, a9, a10, a11⟩, c0, c1, c2, c3, c4⟩ := hSw; go_simp; try (with_reducible rfl))
              try simp only [Act.put, List.setIfInBounds_toArray, List.set_cons_zero, List.set_cons_succ]
              refine takeA (i := 13) (v := ?_) rfl (fun _ _ _ h => h) (Or.inl ⟨by rfl, ?_⟩) hHeld ?_
              rotate_left
              · (intro wx hSw; obtain ⟨⟨a0, a1, a2, a3, a4, a5, a6, a7, a8, a9, a10, a11⟩, c0, c1, c2, c3, c4⟩ := hSw; go_simp; try (with_reducible rfl))
              try simp only [Act.put, List.setIfInBounds_toArray, List.set_cons_zero, List.set_cons_succ]
              obtain ⟨z0, z1, z2, z3, z4, z5, z6, z7, z8, z9, z10, z11⟩ := box12 k9
              have y0 := k9.frozen 0
              have y1 := k9.frozen 1
              have y2 := k9.frozen 2
              have y3 := k9.frozen 3
              have y4 := k9.frozen 4
              have y5 := k9.frozen 5
              have y6 := k9.frozen 6
              have y7 := k9.frozen 7
              have y8 := k9.frozen 8
              have y9 := k9.frozen 9
              have y10 := k9.frozen 10
              have y11 := k9.frozen 11
              refine oneT (i := 15) rfl (by kernel_rfl) (fun KK hK => ?_)
              go_simp
              have gf := grown_set12 Y3 g9 (.int .u8 0) (.int .u8 0) (.int .u16 0) (.int .u8 0) (.int .u8 0) (.int .u16 0) (.int .u32 0) (.int .u32 0) (.int .u64 0) (.slice none 0 0) (.slice none 0 0) (.slice none 0 0)
              have kf := blk_set12 k9 (.int .u8 0) (.int .u8 0) (.int .u16 0) (.int .u8 0) (.int .u8 0) (.int .u16 0) (.int .u32 0) (.int .u32 0) (.int .u64 0) (.slice none 0 0) (.slice none 0 0) (.slice none 0 0)
              have b := b.trans (below_grown gf hg9 k9.lt)
              refine hK.out _ _ (fun _ => And.intro (box12 (k0.step b)) (box5 (k8.step b))) ?_
              clear hK KK
              try simp only [Act.put, List.setIfInBounds_toArray, List.set_cons_zero, List.set_cons_succ]
              generalize hVF : ((((((((((((Y3.setCell ⟨g9, 0, none⟩ (.int .u8 0)).setCell ⟨g9, 1, none⟩ (.int .u8 0)).setCell ⟨g9, 2, none⟩ (.int .u16 0)).setCell ⟨g9, 3, none⟩ (.int .u8 0)).setCell ⟨g9, 4, none⟩ (.int .u8 0)).setCell ⟨g9, 5, none⟩ (.int .u16 0)).setCell ⟨g9, 6, none⟩ (.int .u32 0)).setCell ⟨g9, 7, none⟩ (.int .u32 0)).setCell ⟨g9, 8, none⟩ (.int .u64 0)).setCell ⟨g9, 9, none⟩ (.slice none 0 0)).setCell ⟨g9, 10, none⟩ (.slice none 0 0)).setCell ⟨g9, 11, none⟩ (.slice none 0 0)) = VF at kf b ⊢
              refine oneT (i := 16) rfl (by kernel_rfl) (fun KK hK => ?_)
              go_simp
              refine hK.out _ _ (fun _ => And.intro (box12 (k0.step b)) (box5 (k8.step b))) ?_
              clear hK KK
              try simp only [Act.put, List.setIfInBounds_toArray, List.set_cons_zero, List.set_cons_succ]
              refine doneT (by kernel_rfl) ?_ _
              refine NoPanic.normal ?_
              go_wp2_with fail
              go_meet
              exact ⟨rfl, b⟩
          · go_simp
            have hg9 := b.size
            have k9 := Blk.new Y0 #[.int .u8 0, .int .u8 0, .int .u16 0, .int .u8 0, .int .u8 0, .int .u16 0, .int .u32 0, .int .u32 0, .int .u64 0, .slice none 0 0, .slice none 0 0, .slice none 0 0] 61
            have b1 := below_a1' (Below.refl Y0.heap.size Y0) (.cells #[.int .u8 0, .int .u8 0, .int .u16 0, .int .u8 0, .int .u8 0, .int .u16 0, .int .u32 0, .int .u32 0, .int .u64 0, .slice none 0 0, .slice none 0 0, .slice none 0 0] 61)
            have b := below_step b b1
            generalize hW : Y0.alloc (.cells #[.int .u8 0, .int .u8 0, .int .u16 0, .int .u8 0, .int .u8 0, .int .u16 0, .int .u32 0, .int .u32 0, .int .u64 0, .slice none 0 0, .slice none 0 0, .slice none 0 0] 61) = Y1 at k9 b b1 ⊢
            clear hW
            generalize hG : Y0.heap.size = g9 at k9 b1 hg9 ⊢
            have hHeld := And.intro (box12 (k0.step b)) (box5 (k8.step b))
            refine hK.out _ _ (fun _ => hHeld) ?_
            clear hK KK
            try simp only [Act.put, List.setIfInBounds_toArray, List.set_cons_zero, List.set_cons_succ]
            refine oneT (i := 1) rfl (by kernel_rfl) (fun KK hK => ?_)
            go_simp
            refine (HCODE.out Y1).mono ?_
            rintro e Y2 ⟨rfl, b1⟩
            have b := below_step b b1
            have k9 := k9.step b1
            have hHeld := And.intro (box12 (k0.step b)) (box5 (k8.step b))
            refine hK.out _ _ (fun _ => hHeld) ?_
            clear hK KK
            try simp only [Act.put, List.setIfInBounds_toArray, List.set_cons_zero, List.set_cons_succ]
            refine oneT (i := 10) rfl (by kernel_rfl) (fun KK hK => ?_)
            go_simp
            have lt9 := k9.lt
            refine (HMAKE.out Y2).mono ?_
            rintro e Y3 ⟨rfl, b1⟩
            have b := below_step b b1
            have k9 := k9.step b1
            have hHeld := And.intro (box12 (k0.step b)) (box5 (k8.step b))
            refine hK.out _ _ (fun _ => hHeld) ?_
            clear hK KK
            try simp only [Act.put, List.setIfInBounds_toArray, List.set_cons_zero, List.set_cons_succ]
            refine takeA (i := 11) (v := ?_) rfl (fun _ _ _ h => h) (Or.inl ⟨by rfl, ?_⟩) hHeld ?_
            rotate_left
            · (intro wx hSw; obtain ⟨⟨a0, a1, a2, a3, a4, a5, a6, a7, a8, a9, a10, a11⟩, c0, c1, c2, c3, c4⟩ := hSw; go_simp; try (with_reducible rfl))
            try simp only [Act.put, List.setIfInBounds_toArray, List.set_cons_zero, List.set_cons_succ]
            refine takeA (i := 12) (v := ?_) rfl (fun _ _ _ h => h) (Or.inl ⟨by rfl, ?_⟩) hHeld ?_
            rotate_left
            · (intro wx hSw; obtain ⟨⟨a0, a1, a2, a3, a4, a5, a6, a7, a8, a9, a10, a11⟩, c0, c1, c2, c3, c4⟩ := hSw; go_simp; try (with_reducible rfl))
            try simp only [Act.put, List.setIfInBounds_toArray, List.set_cons_zero, List.set_cons_succ]
            refine takeA (i := 13) (v := ?_) rfl (fun _ _ _ h => h) (Or.inl ⟨by rfl, ?_⟩) hHeld ?_
            rotate_left
            · (intro wx hSw; obtain ⟨⟨a0, a1, a2, a3, a4, a5, a6, a7, a8, a9, a10, a11⟩, c0, c1, c2, c3, c4⟩ := hSw; go_simp; try (with_reducible rfl))
            try simp only [Act.put, List.setIfInBounds_toArray, List.set_cons_zero, List.set_cons_succ]
            obtain ⟨z0, z1, z2, z3, z4, z5, z6, z7, z8, z9, z10, z11⟩ := box12 k9
            have y0 := k9.frozen 0
            have y1 := k9.frozen 1
            have y2 := k9.frozen 2
            have y3 := k9.frozen 3
            have y4 := k9.frozen 4
            have y5 := k9.frozen 5
            have y6 := k9.frozen 6
            have y7 := k9.frozen 7
            have y8 := k9.frozen 8
            have y9 := k9.frozen 9
            have y10 := k9.frozen 10
            have y11 := k9.frozen 11
            refine oneT (i := 15) rfl (by kernel_rfl) (fun KK hK => ?_)
            go_simp
            have gf := grown_set12 Y3 g9 (.int .u8 0) (.int .u8 0) (.int .u16 0) (.int .u8 0) (.int .u8 0) (.int .u16 0) (.int .u32 0) (.int .u32 0) (.int .u64 0) (.slice none 0 0) (.slice none 0 0) (.slice none 0 0)
            have kf := blk_set12 k9 (.int .u8 0) (.int .u8 0) (.int .u16 0) (.int .u8 0) (.int .u8 0) (.int .u16 0) (.int .u32 0) (.int .u32 0) (.int .u64 0) (.slice none 0 0) (.slice none 0 0) (.slice none 0 0)
            have b := b.trans (below_grown gf hg9 k9.lt)
            refine hK.out _ _ (fun _ => And.intro (box12 (k0.step b)) (box5 (k8.step b))) ?_
            clear hK KK
            try simp only [Act.put, List.setIfInBounds_toArray, List.set_cons_zero, List.set_cons_succ]
            generalize hVF : ((((((((((((Y3.setCell ⟨g9, 0, none⟩ (.int .u8 0)).setCell ⟨g9, 1, none⟩ (.int .u8 0)).setCell ⟨g9, 2, none⟩ (.int .u16 0)).setCell ⟨g9, 3, none⟩ (.int .u8 0)).setCell ⟨g9, 4, none⟩ (.int .u8 0)).setCell ⟨g9, 5, none⟩ (.int .u16 0)).setCell ⟨g9, 6, none⟩ (.int .u32 0)).setCell ⟨g9, 7, none⟩ (.int .u32 0)).setCell ⟨g9, 8, none⟩ (.int .u64 0)).setCell ⟨g9, 9, none⟩ (.slice none 0 0)).setCell ⟨g9, 10, none⟩ (.slice none 0 0)).setCell ⟨g9, 11, none⟩ (.slice none 0 0)) = VF at kf b ⊢
            refine oneT (i := 16) rfl (by kernel_rfl) (fun KK hK => ?_)
            go_simp
            refine hK.out _ _ (fun _ => And.intro (box12 (k0.step b)) (box5 (k8.step b))) ?_
            clear hK KK
            try simp only [Act.put, List.setIfInBounds_toArray, List.set_cons_zero, List.set_cons_succ]
            refine doneT (by kernel_rfl) ?_ _
            refine NoPanic.normal ?_
            go_wp2_with fail
            go_meet
            exact ⟨rfl, b⟩
        case rest =>
          obtain ⟨rfl, b⟩ := hcut
          go_wp2_with fail
          go_ret2
          exact Or.inr ⟨fun h => HBAD.out (h _ (List.mem_of_getElem? HS.out)), rfl, b1.trans (b.mono b1.size)⟩
      · obtain ⟨bl, hbl⟩ : ∃ bl, bl = nx + nk + nv := ⟨_, rfl⟩
        have HMAKE : Hid (∀ W, Rd W W.heap.size X nx cx lx → Rd W W.heap.size K nk ck lk → Rd W W.heap.size V nv cv lv → Calls Try.prog 89 #[.int .u8 129, .int .u8 (cb : Nat), .int .u32 (oq : Nat), .slice X nx cx, .slice K nk ck, .slice V nv cv] W (MakeOn cb oq nx nk nv bl lx lk lv W)) := Lib.hid (fun W h1 h2 h3 => hbl ▸ make_Wb cb oq hcb hoq X K V nx cx nk ck nv cv hfit lx lk lv W h1 h2 h3)
        have HFIT := Lib.hid hfit
        have HBL := Lib.hid hbl
        clear hfit hbl
        go_cut [9, 10] (fun s9 s10 wx => PutF cb oq nx nk nv bl lx lk lv W8 s9 s10 wx)
        case first =>
          refine wp_region_noPanic ?_
          refine region_T (fun wx => (wx.cell? ⟨w.heap.size, 0, none⟩ = some (.int .i64 op) ∧ wx.cell? ⟨w.heap.size, 1, none⟩ = some (.bool qt) ∧ wx.cell? ⟨w.heap.size, 2, none⟩ = some (.bool fu) ∧ wx.cell? ⟨w.heap.size, 3, none⟩ = some (.int .i64 bad) ∧ wx.cell? ⟨w.heap.size, 4, none⟩ = some (.int .u32 (oq : Nat)) ∧ wx.cell? ⟨w.heap.size, 5, none⟩ = some KQ ∧ wx.cell? ⟨w.heap.size, 6, none⟩ = some VQ ∧ wx.cell? ⟨w.heap.size, 7, none⟩ = some (.int .u32 (fl : Nat)) ∧ wx.cell? ⟨w.heap.size, 8, none⟩ = some (.int .u32 (ex : Nat)) ∧ wx.cell? ⟨w.heap.size, 9, none⟩ = some (.int .u64 (cs : Nat)) ∧ wx.cell? ⟨w.heap.size, 10, none⟩ = some (.int .u64 (dl : Nat)) ∧ wx.cell? ⟨w.heap.size, 11, none⟩ = some (.int .u64 (ini : Nat))) ∧ (wx.cell? ⟨g8, 0, none⟩ = some (.int .i64 st) ∧ wx.cell? ⟨g8, 1, none⟩ = some (.slice X nx cx) ∧ wx.cell? ⟨g8, 2, none⟩ = some (.slice K nk ck) ∧ wx.cell? ⟨g8, 3, none⟩ = some (.slice V nv cv) ∧ wx.cell? ⟨g8, 4, none⟩ = some (.int .u64 (cas : Nat)))) 17 (by kernel_rfl) ?_
          have b : Below W8.heap.size W8 W8.drew := (Below.refl _ _).drew
          have hHeld := And.intro (box12 (k0.step b)) (box5 (k8.step b))
          generalize W8.drew = Y0 at b hHeld ⊢
          refine takeA (i := 0) (v := ?_) rfl (fun _ _ _ h => h) (Or.inl ⟨by rfl, ?_⟩) hHeld ?_
          rotate_left
          · (intro wx hSw; obtain ⟨⟨a0, a1, a2, a3, a4, a5, a6, a7, a8, a9, a10, a11⟩, c0, c1, c2, c3, c4⟩ := hSw; go_simp; try (with_reducible rfl))
          try simp only [Act.put, List.setIfInBounds_toArray, List.set_cons_zero, List.set_cons_succ]
          refine takeA (i := 2) (v := ?_) rfl (fun _ _ _ h => h) (Or.inl ⟨by rfl, ?_⟩) hHeld ?_
          rotate_left
          · (intro wx hSw; obtain ⟨⟨a0, a1, a2, a3, a4, a5, a6, a7, a8, a9, a10, a11⟩, c0, c1, c2, c3, c4⟩ := hSw; go_simp; try (with_reducible rfl))
          try simp only [Act.put, List.setIfInBounds_toArray, List.set_cons_zero, List.set_cons_succ]
          refine takeA (i := 3) (v := ?_) rfl (fun _ _ _ h => h) (Or.inl ⟨by rfl, ?_⟩) hHeld ?_
          rotate_left
          · (intro wx hSw; obtain ⟨⟨a0, a1, a2, a3, a4, a5, a6, a7, a8, a9, a10, a11⟩, c0, c1, c2, c3, c4⟩ := hSw; go_simp; try (with_reducible rfl))
          try simp only [Act.put, List.setIfInBounds_toArray, List.set_cons_zero, List.set_cons_succ]
          refine takeA (i := 4) (v := ?_) rfl (fun _ _ _ h => h) (Or.inl ⟨by rfl, ?_⟩) hHeld ?_
          rotate_left
          · (intro wx hSw; obtain ⟨⟨a0, a1, a2, a3, a4, a5, a6, a7, a8, a9, a10, a11⟩, c0, c1, c2, c3, c4⟩ := hSw; go_simp; try (with_reducible rfl))
          try simp only [Act.put, List.setIfInBounds_toArray, List.set_cons_zero, List.set_cons_succ]
          refine takeA (i := 5) (v := ?_) rfl (fun _ _ _ h => h) (Or.inl ⟨by rfl, ?_⟩) hHeld ?_
          rotate_left
          · (intro wx hSw; obtain ⟨⟨a0, a1, a2, a3, a4, a5, a6, a7, a8, a9, a10, a11⟩, c0, c1, c2, c3, c4⟩ := hSw; go_simp; try (with_reducible rfl))
          try simp only [Act.put, List.setIfInBounds_toArray, List.set_cons_zero, List.set_cons_succ]
          refine takeA (i := 6) (v := ?_) rfl (fun _ _ _ h => h) (Or.inl ⟨by rfl, ?_⟩) hHeld ?_
          rotate_left
          · (intro wx hSw; obtain ⟨⟨a0, a1, a2, a3, a4, a5, a6, a7, a8, a9, a10, a11⟩, c0, c1, c2, c3, c4⟩ := hSw; go_simp; try (with_reducible rfl))
          try simp only [Act.put, List.setIfInBounds_toArray, List.set_cons_zero, List.set_cons_succ]
          refine takeA (i := 7) (v := ?_) rfl (fun _ _ _ h => h) (Or.inl ⟨by rfl, ?_⟩) hHeld ?_
          rotate_left
          · (intro wx hSw; obtain ⟨⟨a0, a1, a2, a3, a4, a5, a6, a7, a8, a9, a10, a11⟩, c0, c1, c2, c3, c4⟩ := hSw; go_simp; try (with_reducible rfl))
          try simp only [Act.put, List.setIfInBounds_toArray, List.set_cons_zero, List.set_cons_succ]
          refine takeA (i := 8) (v := ?_) rfl (fun _ _ _ h => h) (Or.inl ⟨by rfl, ?_⟩) hHeld ?_
          rotate_left
          · (intro wx hSw; obtain ⟨⟨a0, a1, a2, a3, a4, a5, a6, a7, a8, a9, a10, a11⟩, c0, c1, c2, c3, c4⟩ := hSw; go_simp; try (with_reducible rfl))
          try simp only [Act.put, List.setIfInBounds_toArray, List.set_cons_zero, List.set_cons_succ]
          refine takeA (i := 9) (v := ?_) rfl (fun _ _ _ h => h) (Or.inl ⟨by rfl, ?_⟩) hHeld ?_
          rotate_left
          · (intro wx hSw; obtain ⟨⟨a0, a1, a2, a3, a4, a5, a6, a7, a8, a9, a10, a11⟩, c0, c1, c2, c3, c4⟩ := hSw; go_simp; try (with_reducible rfl))
          try simp only [Act.put, List.setIfInBounds_toArray, List.set_cons_zero, List.set_cons_succ]
          refine twoT (i := 1) (j := 14) rfl rfl (by kernel_rfl) (fun KK hK => ?_) (fun KK hK => ?_)
          · go_simp
            refine (HCODE.out Y0).mono ?_
            rintro e Y1 ⟨rfl, b1⟩
            have b := below_step b b1
            have hHeld := And.intro (box12 (k0.step b)) (box5 (k8.step b))
            refine hK.out _ _ (fun _ => hHeld) ?_
            clear hK KK
            try simp only [Act.put, List.setIfInBounds_toArray, List.set_cons_zero, List.set_cons_succ]
            refine twoT (i := 10) (j := 14) rfl rfl (by kernel_rfl) (fun KK hK => ?_) (fun KK hK => ?_)
            · go_simp
              refine (HMAKE.out Y1 (rX.step b) (rK.step b) (rV.step b)).mono ?_
              rintro e Y2 ⟨X2, K2, V2, cx2, ck2, cv2, rfl, oX2, oK2, oV2, b1⟩
              have b := below_step b b1
              have hHeld := And.intro (box12 (k0.step b)) (box5 (k8.step b))
              refine hK.out _ _ (fun _ => hHeld) ?_
              clear hK KK
              try simp only [Act.put, List.setIfInBounds_toArray, List.set_cons_zero, List.set_cons_succ]
              refine takeA (i := 11) (v := ?_) rfl (fun _ _ _ h => h) (Or.inl ⟨by rfl, ?_⟩) hHeld ?_
              rotate_left
              · (intro wx hSw; obtain ⟨⟨a0, a1, a2, a3, a4, a5, a6, a7, a8, a9, a10, a11⟩, c0, c1, c2, c3, c4⟩ := hSw; go_simp; try (with_reducible rfl))
              try simp only [Act.put, List.setIfInBounds_toArray, List.set_cons_zero, List.set_cons_succ]
              refine takeA (i := 12) (v := ?_) rfl (fun _ _ _ h => h) (Or.inl ⟨by rfl, ?_⟩) hHeld ?_
              rotate_left
              · (intro wx hSw; obtain ⟨⟨a0, a1, a2, a3, a4, a5, a6, a7, a8, a9, a10, a11⟩, c0, c1, c2, c3, c4⟩ := hSw; go_simp; try (with_reducible rfl))
              try simp only [Act.put, List.setIfInBounds_toArray, List.set_cons_zero, List.set_cons_succ]
              refine takeA (i := 13) (v := ?_) rfl (fun _ _ _ h => h) (Or.inl ⟨by rfl, ?_⟩) hHeld ?_
              rotate_left
              · (intro wx hSw; obtain ⟨⟨a0, a1, a2, a3, a4, a5, a6, a7, a8, a9, a10, a11⟩, c0, c1, c2, c3, c4⟩ := hSw; go_simp; try (with_reducible rfl))
              try simp only [Act.put, List.setIfInBounds_toArray, List.set_cons_zero, List.set_cons_succ]
              refine oneT (i := 14) rfl (by kernel_rfl) (fun KK hK => ?_)
              go_simp
              have hg9 := b.size
              have k9 := Blk.new Y2 #[.int .u8 0, .int .u8 0, .int .u16 0, .int .u8 0, .int .u8 0, .int .u16 0, .int .u32 0, .int .u32 0, .int .u64 0, .slice none 0 0, .slice none 0 0, .slice none 0 0] 61
              have b1 := below_a1' (Below.refl Y2.heap.size Y2) (.cells #[.int .u8 0, .int .u8 0, .int .u16 0, .int .u8 0, .int .u8 0, .int .u16 0, .int .u32 0, .int .u32 0, .int .u64 0, .slice none 0 0, .slice none 0 0, .slice none 0 0] 61)
              have b := below_step b b1
              have rX2 := oX2.rd.below b1
              have rK2 := oK2.rd.below b1
              have rV2 := oV2.rd.below b1
              generalize hW : Y2.alloc (.cells #[.int .u8 0, .int .u8 0, .int .u16 0, .int .u8 0, .int .u8 0, .int .u16 0, .int .u32 0, .int .u32 0, .int .u64 0, .slice none 0 0, .slice none 0 0, .slice none 0 0] 61) = Y3 at k9 b b1 rX2 rK2 rV2 ⊢
              clear hW
              generalize hG : Y2.heap.size = g9 at k9 b1 hg9 rX2 rK2 rV2 ⊢
              have hHeld := And.intro (box12 (k0.step b)) (box5 (k8.step b))
              refine hK.out _ _ (fun _ => hHeld) ?_
              clear hK KK
              try simp only [Act.put, List.setIfInBounds_toArray, List.set_cons_zero, List.set_cons_succ]
              obtain ⟨z0, z1, z2, z3, z4, z5, z6, z7, z8, z9, z10, z11⟩ := box12 k9
              have y0 := k9.frozen 0
              have y1 := k9.frozen 1
              have y2 := k9.frozen 2
              have y3 := k9.frozen 3
              have y4 := k9.frozen 4
              have y5 := k9.frozen 5
              have y6 := k9.frozen 6
              have y7 := k9.frozen 7
              have y8 := k9.frozen 8
              have y9 := k9.frozen 9
              have y10 := k9.frozen 10
              have y11 := k9.frozen 11
              refine oneT (i := 15) rfl (by kernel_rfl) (fun KK hK => ?_)
              go_simp
              have gf := grown_set12 Y3 g9 (.int .u8 129) (.int .u8 (cb : Nat)) (.int .u16 (nk : Nat)) (.int .u8 (nx : Nat)) (.int .u8 0) (.int .u16 0) (.int .u32 (bl : Nat)) (.int .u32 (oq : Nat)) (.int .u64 0) (.slice X2 nx cx2) (.slice K2 nk ck2) (.slice V2 nv cv2)
              have kf := blk_set12 k9 (.int .u8 129) (.int .u8 (cb : Nat)) (.int .u16 (nk : Nat)) (.int .u8 (nx : Nat)) (.int .u8 0) (.int .u16 0) (.int .u32 (bl : Nat)) (.int .u32 (oq : Nat)) (.int .u64 0) (.slice X2 nx cx2) (.slice K2 nk ck2) (.slice V2 nv cv2)
              have b := b.trans (below_grown gf hg9 k9.lt)
              have HX := far_rd rX2 k9.lt gf
              have HK := far_rd rK2 k9.lt gf
              have HV := far_rd rV2 k9.lt gf
              refine hK.out _ _ (fun _ => And.intro (box12 (k0.step b)) (box5 (k8.step b))) ?_
              clear hK KK
              try simp only [Act.put, List.setIfInBounds_toArray, List.set_cons_zero, List.set_cons_succ]
              generalize hVF : ((((((((((((Y3.setCell ⟨g9, 0, none⟩ (.int .u8 129)).setCell ⟨g9, 1, none⟩ (.int .u8 (cb : Nat))).setCell ⟨g9, 2, none⟩ (.int .u16 (nk : Nat))).setCell ⟨g9, 3, none⟩ (.int .u8 (nx : Nat))).setCell ⟨g9, 4, none⟩ (.int .u8 0)).setCell ⟨g9, 5, none⟩ (.int .u16 0)).setCell ⟨g9, 6, none⟩ (.int .u32 (bl : Nat))).setCell ⟨g9, 7, none⟩ (.int .u32 (oq : Nat))).setCell ⟨g9, 8, none⟩ (.int .u64 0)).setCell ⟨g9, 9, none⟩ (.slice X2 nx cx2)).setCell ⟨g9, 10, none⟩ (.slice K2 nk ck2)).setCell ⟨g9, 11, none⟩ (.slice V2 nv cv2)) = VF at kf b HX HK HV ⊢
              refine oneT (i := 16) rfl (by kernel_rfl) (fun KK hK => ?_)
              go_simp
              refine hK.out _ _ (fun _ => And.intro (box12 (k0.step b)) (box5 (k8.step b))) ?_
              clear hK KK
              try simp only [Act.put, List.setIfInBounds_toArray, List.set_cons_zero, List.set_cons_succ]
              refine doneT (by kernel_rfl) ?_ _
              refine NoPanic.normal ?_
              go_wp2_with fail
              go_meet
              exact ⟨g9, X2, K2, V2, cx2, ck2, cv2, rfl, rfl, kf, HX, HK, HV, hg9, b⟩
            · go_simp
              have hg9 := b.size
              have k9 := Blk.new Y1 #[.int .u8 0, .int .u8 0, .int .u16 0, .int .u8 0, .int .u8 0, .int .u16 0, .int .u32 0, .int .u32 0, .int .u64 0, .slice none 0 0, .slice none 0 0, .slice none 0 0] 61
              have b1 := below_a1' (Below.refl Y1.heap.size Y1) (.cells #[.int .u8 0, .int .u8 0, .int .u16 0, .int .u8 0, .int .u8 0, .int .u16 0, .int .u32 0, .int .u32 0, .int .u64 0, .slice none 0 0, .slice none 0 0, .slice none 0 0] 61)
              have b := below_step b b1
              generalize hW : Y1.alloc (.cells #[.int .u8 0, .int .u8 0, .int .u16 0, .int .u8 0, .int .u8 0, .int .u16 0, .int .u32 0, .int .u32 0, .int .u64 0, .slice none 0 0, .slice none 0 0, .slice none 0 0] 61) = Y2 at k9 b b1 ⊢
              clear hW
              generalize hG : Y1.heap.size = g9 at k9 b1 hg9 ⊢
              have hHeld := And.intro (box12 (k0.step b)) (box5 (k8.step b))
              refine hK.out _ _ (fun _ => hHeld) ?_
              clear hK KK
              try simp only [Act.put, List.setIfInBounds_toArray, List.set_cons_zero, List.set_cons_succ]
              refine oneT (i := 10) rfl (by kernel_rfl) (fun KK hK => ?_)
              go_simp
              have lt9 := k9.lt
              refine (HMAKE.out Y2 (rX.step b) (rK.step b) (rV.step b)).mono ?_
              rintro e Y3 ⟨X2, K2, V2, cx2, ck2, cv2, rfl, oX2, oK2, oV2, b1⟩
              have b := below_step b b1
              have k9 := k9.step b1
              have hHeld := And.intro (box12 (k0.step b)) (box5 (k8.step b))
              refine hK.out _ _ (fun _ => hHeld) ?_
              clear hK KK
              try simp only [Act.put, List.setIfInBounds_toArray, List.set_cons_zero, List.set_cons_succ]
              refine takeA (i := 11) (v := ?_) rfl (fun _ _ _ h => h) (Or.inl ⟨by rfl, ?_⟩) hHeld ?_
              rotate_left
              · (intro wx hSw; obtain ⟨⟨a0, a1, a2, a3, a4, a5, a6, a7, a8, a9, a10, a11⟩, c0, c1, c2, c3, c4⟩ := hSw; go_simp; try (with_reducible rfl))
              try simp only [Act.put, List.setIfInBounds_toArray, List.set_cons_zero, List.set_cons_succ]
              refine takeA (i := 12) (v := ?_) rfl (fun _ _ _ h => h) (Or.inl ⟨by rfl, ?_⟩) hHeld ?_
              rotate_left
              · (intro wx hSw; obtain ⟨⟨a0, a1, a2, a3, a4, a5, a6, a7, a8, a9, a10, a11⟩, c0, c1, c2, c3, c4⟩ := hSw; go_simp; try (with_reducible rfl))
              try simp only [Act.put, List.setIfInBounds_toArray, List.set_cons_zero, List.set_cons_succ]
              refine takeA (i := 13) (v := ?_) rfl (fun _ _ _ h => h) (Or.inl ⟨by rfl, ?_⟩) hHeld ?_
              rotate_left
              · (intro wx hSw; obtain ⟨⟨a0, a1, a2, a3, a4, a5, a6, a7, a8, a9, a10, a11⟩, c0, c1, c2, c3, c4⟩ := hSw; go_simp; try (with_reducible rfl))
              try simp only [Act.put, List.setIfInBounds_toArray, List.set_cons_zero, List.set_cons_succ]
              obtain ⟨z0, z1, z2, z3, z4, z5, z6, z7, z8, z9, z10, z11⟩ := box12 k9
              have y0 := k9.frozen 0
              have y1 := k9.frozen 1
              have y2 := k9.frozen 2
              have y3 := k9.frozen 3
              have y4 := k9.frozen 4
              have y5 := k9.frozen 5
              have y6 := k9.frozen 6
              have y7 := k9.frozen 7
              have y8 := k9.frozen 8
              have y9 := k9.frozen 9
              have y10 := k9.frozen 10
              have y11 := k9.frozen 11
              refine oneT (i := 15) rfl (by kernel_rfl) (fun KK hK => ?_)
              go_simp
              have gf := grown_set12 Y3 g9 (.int .u8 129) (.int .u8 (cb : Nat)) (.int .u16 (nk : Nat)) (.int .u8 (nx : Nat)) (.int .u8 0) (.int .u16 0) (.int .u32 (bl : Nat)) (.int .u32 (oq : Nat)) (.int .u64 0) (.slice X2 nx cx2) (.slice K2 nk ck2) (.slice V2 nv cv2)
              have kf := blk_set12 k9 (.int .u8 129) (.int .u8 (cb : Nat)) (.int .u16 (nk : Nat)) (.int .u8 (nx : Nat)) (.int .u8 0) (.int .u16 0) (.int .u32 (bl : Nat)) (.int .u32 (oq : Nat)) (.int .u64 0) (.slice X2 nx cx2) (.slice K2 nk ck2) (.slice V2 nv cv2)
              have b := b.trans (below_grown gf hg9 k9.lt)
              have HX := far_own oX2 lt9 gf
              have HK := far_own oK2 lt9 gf
              have HV := far_own oV2 lt9 gf
              refine hK.out _ _ (fun _ => And.intro (box12 (k0.step b)) (box5 (k8.step b))) ?_
              clear hK KK
              try simp only [Act.put, List.setIfInBounds_toArray, List.set_cons_zero, List.set_cons_succ]
              generalize hVF : ((((((((((((Y3.setCell ⟨g9, 0, none⟩ (.int .u8 129)).setCell ⟨g9, 1, none⟩ (.int .u8 (cb : Nat))).setCell ⟨g9, 2, none⟩ (.int .u16 (nk : Nat))).setCell ⟨g9, 3, none⟩ (.int .u8 (nx : Nat))).setCell ⟨g9, 4, none⟩ (.int .u8 0)).setCell ⟨g9, 5, none⟩ (.int .u16 0)).setCell ⟨g9, 6, none⟩ (.int .u32 (bl : Nat))).setCell ⟨g9, 7, none⟩ (.int .u32 (oq : Nat))).setCell ⟨g9, 8, none⟩ (.int .u64 0)).setCell ⟨g9, 9, none⟩ (.slice X2 nx cx2)).setCell ⟨g9, 10, none⟩ (.slice K2 nk ck2)).setCell ⟨g9, 11, none⟩ (.slice V2 nv cv2)) = VF at kf b HX HK HV ⊢
              refine oneT (i := 16) rfl (by kernel_rfl) (fun KK hK => ?_)
              go_simp
              refine hK.out _ _ (fun _ => And.intro (box12 (k0.step b)) (box5 (k8.step b))) ?_
              clear hK KK
              try simp only [Act.put, List.setIfInBounds_toArray, List.set_cons_zero, List.set_cons_succ]
              refine doneT (by kernel_rfl) ?_ _
              refine NoPanic.normal ?_
              go_wp2_with fail
              go_meet
              exact ⟨g9, X2, K2, V2, cx2, ck2, cv2, rfl, rfl, kf, HX, HK, HV, hg9, b⟩
          · go_simp
            have hg9 := b.size
            have k9 := Blk.new Y0 #[.int .u8 0, .int .u8 0, .int .u16 0, .int .u8 0, .int .u8 0, .int .u16 0, .int .u32 0, .int .u32 0, .int .u64 0, .slice none 0 0, .slice none 0 0, .slice none 0 0] 61
            have b1 := below_a1' (Below.refl Y0.heap.size Y0) (.cells #[.int .u8 0, .int .u8 0, .int .u16 0, .int .u8 0, .int .u8 0, .int .u16 0, .int .u32 0, .int .u32 0, .int .u64 0, .slice none 0 0, .slice none 0 0, .slice none 0 0] 61)
            have b := below_step b b1
            generalize hW : Y0.alloc (.cells #[.int .u8 0, .int .u8 0, .int .u16 0, .int .u8 0, .int .u8 0, .int .u16 0, .int .u32 0, .int .u32 0, .int .u64 0, .slice none 0 0, .slice none 0 0, .slice none 0 0] 61) = Y1 at k9 b b1 ⊢
            clear hW
            generalize hG : Y0.heap.size = g9 at k9 b1 hg9 ⊢
            have hHeld := And.intro (box12 (k0.step b)) (box5 (k8.step b))
            refine hK.out _ _ (fun _ => hHeld) ?_
            clear hK KK
            try simp only [Act.put, List.setIfInBounds_toArray, List.set_cons_zero, List.set_cons_succ]
            refine oneT (i := 1) rfl (by kernel_rfl) (fun KK hK => ?_)
            go_simp
            refine (HCODE.out Y1).mono ?_
            rintro e Y2 ⟨rfl, b1⟩
            have b := below_step b b1
            have k9 := k9.step b1
            have hHeld := And.intro (box12 (k0.step b)) (box5 (k8.step b))
            refine hK.out _ _ (fun _ => hHeld) ?_
            clear hK KK
            try simp only [Act.put, List.setIfInBounds_toArray, List.set_cons_zero, List.set_cons_succ]
            refine oneT (i := 10) rfl (by kernel_rfl) (fun KK hK => ?_)
            go_simp
            have lt9 := k9.lt
            refine (HMAKE.out Y2 (rX.step b) (rK.step b) (rV.step b)).mono ?_
            rintro e Y3 ⟨X2, K2, V2, cx2, ck2, cv2, rfl, oX2, oK2, oV2, b1⟩
            have b := below_step b b1
            have k9 := k9.step b1
            have hHeld := And.intro (box12 (k0.step b)) (box5 (k8.step b))
            refine hK.out _ _ (fun _ => hHeld) ?_
            clear hK KK
            try simp only [Act.put, List.setIfInBounds_toArray, List.set_cons_zero, List.set_cons_succ]
            refine takeA (i := 11) (v := ?_) rfl (fun _ _ _ h => h) (Or.inl ⟨by rfl, ?_⟩) hHeld ?_
            rotate_left
            · (intro wx hSw; obtain ⟨⟨a0, a1, a2, a3, a4, a5, a6, a7, a8, a9, a10, a11⟩, c0, c1, c2, c3, c4⟩ := hSw; go_simp; try (with_reducible rfl))
            try simp only [Act.put, List.setIfInBounds_toArray, List.set_cons_zero, List.set_cons_succ]
            refine takeA (i := 12) (v := ?_) rfl (fun _ _ _ h => h) (Or.inl ⟨by rfl, ?_⟩) hHeld ?_
            rotate_left
            · (intro wx hSw; obtain ⟨⟨a0, a1, a2, a3, a4, a5, a6, a7, a8, a9, a10, a11⟩, c0, c1, c2, c3, c4⟩ := hSw; go_simp; try (with_reducible rfl))
            try simp only [Act.put, List.setIfInBounds_toArray, List.set_cons_zero, List.set_cons_succ]
            refine takeA (i := 13) (v := ?_) rfl (fun _ _ _ h => h) (Or.inl ⟨by rfl, ?_⟩) hHeld ?_
            rotate_left
            · (intro wx hSw; obtain ⟨⟨a0, a1, a2, a3, a4, a5, a6, a7, a8, a9, a10, a11⟩, c0, c1, c2, c3, c4⟩ := hSw; go_simp; try (with_reducible rfl))
            try simp only [Act.put, List.setIfInBounds_toArray, List.set_cons_zero, List.set_cons_succ]
            obtain ⟨z0, z1, z2, z3, z4, z5, z6, z7, z8, z9, z10, z11⟩ := box12 k9
            have y0 := k9.frozen 0
            have y1 := k9.frozen 1
            have y2 := k9.frozen 2
            have y3 := k9.frozen 3
            have y4 := k9.frozen 4
            have y5 := k9.frozen 5
            have y6 := k9.frozen 6
            have y7 := k9.frozen 7
            have y8 := k9.frozen 8
            have y9 := k9.frozen 9
            have y10 := k9.frozen 10
            have y11 := k9.frozen 11
            refine oneT (i := 15) rfl (by kernel_rfl) (fun KK hK => ?_)
            go_simp
            have gf := grown_set12 Y3 g9 (.int .u8 129) (.int .u8 (cb : Nat)) (.int .u16 (nk : Nat)) (.int .u8 (nx : Nat)) (.int .u8 0) (.int .u16 0) (.int .u32 (bl : Nat)) (.int .u32 (oq : Nat)) (.int .u64 0) (.slice X2 nx cx2) (.slice K2 nk ck2) (.slice V2 nv cv2)
            have kf := blk_set12 k9 (.int .u8 129) (.int .u8 (cb : Nat)) (.int .u16 (nk : Nat)) (.int .u8 (nx : Nat)) (.int .u8 0) (.int .u16 0) (.int .u32 (bl : Nat)) (.int .u32 (oq : Nat)) (.int .u64 0) (.slice X2 nx cx2) (.slice K2 nk ck2) (.slice V2 nv cv2)
            have b := b.trans (below_grown gf hg9 k9.lt)
            have HX := far_own oX2 lt9 gf
            have HK := far_own oK2 lt9 gf
            have HV := far_own oV2 lt9 gf
            refine hK.out _ _ (fun _ => And.intro (box12 (k0.step b)) (box5 (k8.step b))) ?_
            clear hK KK
            try simp only [Act.put, List.setIfInBounds_toArray, List.set_cons_zero, List.set_cons_succ]
            generalize hVF : ((((((((((((Y3.setCell ⟨g9, 0, none⟩ (.int .u8 129)).setCell ⟨g9, 1, none⟩ (.int .u8 (cb : Nat))).setCell ⟨g9, 2, none⟩ (.int .u16 (nk : Nat))).setCell ⟨g9, 3, none⟩ (.int .u8 (nx : Nat))).setCell ⟨g9, 4, none⟩ (.int .u8 0)).setCell ⟨g9, 5, none⟩ (.int .u16 0)).setCell ⟨g9, 6, none⟩ (.int .u32 (bl : Nat))).setCell ⟨g9, 7, none⟩ (.int .u32 (oq : Nat))).setCell ⟨g9, 8, none⟩ (.int .u64 0)).setCell ⟨g9, 9, none⟩ (.slice X2 nx cx2)).setCell ⟨g9, 10, none⟩ (.slice K2 nk ck2)).setCell ⟨g9, 11, none⟩ (.slice V2 nv cv2)) = VF at kf b HX HK HV ⊢
            refine oneT (i := 16) rfl (by kernel_rfl) (fun KK hK => ?_)
            go_simp
            refine hK.out _ _ (fun _ => And.intro (box12 (k0.step b)) (box5 (k8.step b))) ?_
            clear hK KK
            try simp only [Act.put, List.setIfInBounds_toArray, List.set_cons_zero, List.set_cons_succ]
            refine doneT (by kernel_rfl) ?_ _
            refine NoPanic.normal ?_
            go_wp2_with fail
            go_meet
            exact ⟨g9, X2, K2, V2, cx2, ck2, cv2, rfl, rfl, kf, HX, HK, HV, hg9, b⟩
        case rest =>
          obtain ⟨g9, X2, K2, V2, cx2, ck2, cv2, rfl, rfl, kf, HX, HK, HV, hg9, b⟩ := hcut
          have hlo := b1.size
          have k8c := k8.step b
          clear kq b8 rX rK rV HMAKE HC
          obtain ⟨c0, c1', c2, c3, c4⟩ := box5 k8c
          obtain ⟨z0, z1, z2, z3, z4, z5, z6, z7, z8, z9, z10, z11⟩ := box12 kf
          have y5 := kf.frozen 5
          have y8 := kf.frozen 8
          obtain ⟨sq, e16, hsq⟩ : ∃ sq : Nat, IntKind.u16.wrap st = (sq : Int) ∧ sq = (st % 65536).toNat := ⟨_, by simp [IntKind.wrap, IntKind.bits, IntKind.signed]; omega, rfl⟩
          have HSQ := Lib.hid hsq
          clear hsq
          go_upto_region 8 with fail
          go_region
          have gf := grown_trans (rdr_grown_set wc g9 5 (.int .u16 (sq : Nat))) (rdr_grown_set _ g9 8 (.int .u64 (cas : Nat)))
          have bw : Below W8.heap.size W8 ((wc.setCell ⟨g9, 5, none⟩ (.int .u16 (sq : Nat))).setCell ⟨g9, 8, none⟩ (.int .u64 (cas : Nat))).drew := (b.trans (below_grown gf hg9 kf.lt)).drew
          have kw : Blk ((wc.setCell ⟨g9, 5, none⟩ (.int .u16 (sq : Nat))).setCell ⟨g9, 8, none⟩ (.int .u64 (cas : Nat))).drew g9 #[.int .u8 129, .int .u8 (cb : Nat), .int .u16 (nk : Nat), .int .u8 (nx : Nat), .int .u8 0, .int .u16 (sq : Nat), .int .u32 (bl : Nat), .int .u32 (oq : Nat), .int .u64 (cas : Nat), .slice X2 nx cx2, .slice K2 nk ck2, .slice V2 nv cv2] 61 := (kf.set_ 5 (.int .u16 (sq : Nat))).set_ 8 (.int .u64 (cas : Nat))
          have rX := HX _ gf
          replace rX : Rd ((wc.setCell ⟨g9, 5, none⟩ (.int .u16 (sq : Nat))).setCell ⟨g9, 8, none⟩ (.int .u64 (cas : Nat))).drew ((wc.setCell ⟨g9, 5, none⟩ (.int .u16 (sq : Nat))).setCell ⟨g9, 8, none⟩ (.int .u64 (cas : Nat))).drew.heap.size X2 nx cx2 lx := rX
          have rK := HK _ gf
          replace rK : Rd ((wc.setCell ⟨g9, 5, none⟩ (.int .u16 (sq : Nat))).setCell ⟨g9, 8, none⟩ (.int .u64 (cas : Nat))).drew ((wc.setCell ⟨g9, 5, none⟩ (.int .u16 (sq : Nat))).setCell ⟨g9, 8, none⟩ (.int .u64 (cas : Nat))).drew.heap.size K2 nk ck2 lk := rK
          have rV := HV _ gf
          replace rV : Rd ((wc.setCell ⟨g9, 5, none⟩ (.int .u16 (sq : Nat))).setCell ⟨g9, 8, none⟩ (.int .u64 (cas : Nat))).drew ((wc.setCell ⟨g9, 5, none⟩ (.int .u16 (sq : Nat))).setCell ⟨g9, 8, none⟩ (.int .u64 (cas : Nat))).drew.heap.size V2 nv cv2 lv := rV
          clear gf HX HK HV kf b c0 c1' c2 c3 c4 z0 z1 z2 z3 z4 z5 z6 z7 z8 z9 z10 z11 y5 y8 k8c k8
          generalize ((wc.setCell ⟨g9, 5, none⟩ (.int .u16 (sq : Nat))).setCell ⟨g9, 8, none⟩ (.int .u64 (cas : Nat))).drew = W9 at bw kw rX rK rV ⊢
          have k0 := k0.step bw
          have o1 := Own.below o1 bw
          have b1 := below_step b1 bw
          have hput : Calls Try.prog 58 #[.agg #[.int .u8 129, .int .u8 (cb : Nat), .int .u16 (nk : Nat), .int .u8 (nx : Nat), .int .u8 0, .int .u16 (sq : Nat), .int .u32 (bl : Nat), .int .u32 (oq : Nat), .int .u64 (cas : Nat), .slice X2 nx cx2, .slice K2 nk ck2, .slice V2 nv cv2]] W9 (PutOk (24 + nx + nk + nv) (hdB 129 cb nk nx 0 sq bl oq cas ++ lx ++ lk ++ lv) W9) := by
            have hb := HBL.out
            have hf := HFIT.out
            have hsq := HSQ.out
            unfold tooLong at hf
            exact put_O 129 cb nk nx 0 sq bl oq cas ⟨by omega, hcb, by omega, by omega, by omega, by omega, by omega, hoq, hcas⟩ X2 K2 V2 nx cx2 nk ck2 nv cv2 hsum (by rw [mayB_yes (Or.inr rfl)]; simp; omega) rfl rfl hb.symm (by omega) lx lk lv W9 rX rK rV
          have HPUT := Lib.hid hput
          obtain ⟨t0, t1, t2, t3, t4, t5, t6, t7, t8, t9, t10, t11⟩ := box12 kw
          have hle : nx + nk + nv ≤ 2048 := by
            have hf := HFIT.out
            unfold tooLong at hf
            omega
          have HJ2 : Hid (putB cb oq (List.take (k + 1) L) = putB cb oq (List.take k L) ++ (hdB 129 cb nk nx 0 sq bl oq cas ++ (lx ++ (lk ++ lv)))) := Lib.hid (by rw [HJ.out, HSQ.out, HBL.out]; simp only [Sd.bytes, List.append_assoc])
          clear hput rX rK rV bw kw HSQ HJ HBL
          go_wp2_with fail
          refine HPUT.out.mono ?_
          rintro e w2 ⟨AP, cP, rfl, oP, bP⟩
          have k0 := k0.step bP
          have o1 := Own.below o1 bP
          have b1 := below_step b1 bP
          have rP := oP.rd
          have hlq2 := k0.lt
          clear oP bP HPUT
          go_wp2_with (at_builtin; refine wpList_app8 _ rfl _ _ rfl (w.heap.size + 1) A1 N c1 _ rfl o1 _ AP (24 + nx + nk + nv) cP _ rfl rP (by omega) (by omega) ?_)
          intro A5 c5 w5 o5 b5
          have b6 := b1.trans (b5.mono (Nat.le_succ _))
          have k6 : Blk w5 w.heap.size _ _ := (b5.block _ (Nat.lt_succ_self _)).trans k0
          rw [← HJ2.out] at o5
          clear b5 k0 b1 o1 rP
          go_wp2_with fail
          go_roundw
          case rel => exact ⟨k + 1, A5, N + (24 + nx + nk + nv), c5, hlt, by go_num, rfl, o5, by omega, fun j s hj hs => (by
            by_cases e : j = k
            · subst e
              have := hs.symm.trans HS.out
              injection this with this
              subst this
              exact HFIT.out
            · exact HF.out j s (by omega) hs), b6, k6⟩
          case measure => simp [intOf]; omega
    · obtain rfl : k = L.length := by omega
      have hall : ∀ s ∈ L, s.fits := fun s hs => by
        obtain ⟨j, hj, rfl⟩ := List.getElem_of_mem hs
        exact HF.out j _ hj (List.getElem?_eq_getElem hj)
      rw [List.take_length] at o1
      have hNl := o1.len
      go_wp2_with fail
      go_ret2
      exact Or.inl ⟨hall, A1, c1, N, hNl.symm, rfl, o1.more (by omega), b1⟩
end
section
open Go.RowKit
def isRead (op : Int) : Bool := op == 0 || op == 29
def isCount (op : Int) : Bool := op == 5 || op == 6
set_option maxRecDepth 100000 in
set_option maxHeartbeats 1000000 in
theorem rdop_any (op : Int) (w : World) : Calls Try.prog 78 #[.int .i64 op] w fun e w' => e = .returned (.bool (isRead op)) ∧ w = w' := by
  unfold isRead
  by_cases h0 : op = 0
  · subst h0
    go_enter Try.func78, Try.ntmps78
    go_wp2_with fail
    go_ret
    exact ⟨rfl, rfl⟩
  · have e0 : (op == 0) = false := beq_eq_false_iff_ne.2 h0
    go_enter Try.func78, Try.ntmps78
    go_wp2_with fail
    go_ret
    exact ⟨by first | rfl | (rw [e0, Bool.false_or]; rfl) | (simp [e0]; rfl), rfl⟩
set_option maxRecDepth 100000 in
set_option maxHeartbeats 1000000 in
theorem ctop_any (op : Int) (w : World) : Calls Try.prog 79 #[.int .i64 op] w fun e w' => e = .returned (.bool (isCount op)) ∧ w = w' := by
  unfold isCount
  by_cases h0 : op = 5
  · subst h0
    go_enter Try.func79, Try.ntmps79
    go_wp2_with fail
    go_ret
    exact ⟨rfl, rfl⟩
  · have e0 : (op == 5) = false := beq_eq_false_iff_ne.2 h0
    go_enter Try.func79, Try.ntmps79
    go_wp2_with fail
    go_ret
    exact ⟨by first | rfl | (rw [e0, Bool.false_or]; rfl) | (simp [e0]; rfl), rfl⟩
def SayQ (nw : Bool) (g5 : Nat) (w : World) (e : Ending) (w' : World) : Prop := e = .returned (.tuple #[]) ∧ Blk w' g5 #[.bool nw] 4 ∧ w.grownBy w' (some g5)
set_option maxRecDepth 100000 in
set_option maxHeartbeats 1000000 in
theorem say_any (may is wr ok : Bool) (g5 g6 : Nat) (w : World) (k5 : Blk w g5 #[.bool wr] 4) (k6 : Blk w g6 #[.bool ok] 4) :
    Calls Try.prog 77 #[.bool may, .bool is, .pointer (some ⟨g5, 0, none⟩), .pointer (some ⟨g6, 0, none⟩)] w (SayQ (wr || (is && !(ok && may))) g5 w) := by
  have c5 := box1 k5
  have c6 := box1 k6
  have y5 := k5.frozen 0
  have kn : ∀ b, Blk (w.setCell ⟨g5, 0, none⟩ (.bool b)) g5 #[.bool b] 4 := fun b => k5.set_ 0 (.bool b)
  have gn : ∀ b, w.grownBy (w.setCell ⟨g5, 0, none⟩ (.bool b)) (some g5) := fun b => rdr_grown_set w g5 0 (.bool b)
  have KN := Lib.hid kn
  have GN := Lib.hid gn
  clear kn gn k5 k6
  cases wr <;> cases is <;> cases ok <;> cases may
  all_goals
    go_enter Try.func77, Try.ntmps77
    go_wp2_with fail
    go_end0
    exact ⟨rfl, KN.out _, GN.out _⟩
def ansV (st : Int) (V : Value) (af ac an : Nat) (Sv : Value) (cl : Bool) : Value := .agg #[.int .i64 st, V, .int .u32 (af : Nat), .int .u64 (ac : Nat), .int .u64 (an : Nat), Sv, .bool cl]
def badSt (st : Int) : Bool := st != 0 && (textB st).toList.isEmpty
def CkR (RQ AN : Array Value) (ok wv : Bool) (w wx : World) : Prop := Blk wx w.heap.size RQ 26 ∧ Blk wx (w.heap.size + 1) AN 29 ∧ Blk wx (w.heap.size + 2) #[.bool wv] 4 ∧ Blk wx (w.heap.size + 3) #[.bool ok] 4 ∧ Below w.heap.size w wx
def CkA (RQ AN : Array Value) (wv : Bool) (w wx : World) : Prop := Blk wx w.heap.size RQ 26 ∧ Blk wx (w.heap.size + 1) AN 29 ∧ Blk wx (w.heap.size + 2) #[.bool wv] 4 ∧ Below w.heap.size w wx ∧ wx.heap.size = w.heap.size + 3
theorem CkR.say {RQ AN : Array Value} {ok wv nw : Bool} {w wx wy : World} (h : CkR RQ AN ok wv w wx) (hs : Blk wy (w.heap.size + 2) #[.bool nw] 4) (hg : wx.grownBy wy (some (w.heap.size + 2))) : CkR RQ AN ok nw w wy :=
  ⟨h.1.leftC hg (by omega), h.2.1.leftC hg (by omega), hs, h.2.2.2.1.leftC hg (by omega), h.2.2.2.2.trans (below_grown hg (by omega) h.2.2.1.lt)⟩
theorem CkR.drew {RQ AN : Array Value} {ok wv : Bool} {w wx : World} (h : CkR RQ AN ok wv w wx) : CkR RQ AN ok wv w wx.drew := ⟨h.1, h.2.1, h.2.2.1, h.2.2.2.1, h.2.2.2.2.drew⟩
def CkQ (wr : Bool) (w : World) (e : Ending) (w' : World) : Prop := e = .returned (.int .i64 (if wr = true then 2 else 0)) ∧ Below w.heap.size w w'
theorem CkR.alloc {RQ AN : Array Value} {ok wv : Bool} {w wx : World} (h : CkR RQ AN ok wv w wx) (o : Obj) : CkR RQ AN ok wv w (wx.alloc o) := ⟨h.1.alloc o, h.2.1.alloc o, h.2.2.1.alloc o, h.2.2.2.1.alloc o, below_a1' h.2.2.2.2 o⟩
def badStat (p : ByteArray × ByteArray) : Bool := decide ((p.1.size : Int) < 1) || decide ((250 : Int) < (p.1.size : Int)) || decide ((512 : Int) < (p.2.size : Int))
def stCells (p : ByteArray × ByteArray) : List Value := [.string p.1, .string p.2]
def wrongA (st op : Int) (nv af ac an ns : Nat) (SL : List (ByteArray × ByteArray)) : Bool :=
  ((((((badSt st || (decide (0 < nv) && !((st == 0) && (isRead op || op == 11)))) || (((af : Int) != 0) && !((st == 0) && isRead op))) || (((ac : Int) != 0) && !((st == 0) && (op != 11 && op != 16)))) || (((an : Int) != 0) && !((st == 0) && isCount op))) || (decide (0 < ns) && !((st == 0) && (op == 16)))) || decide ((512 : Int) < (nv : Int)) || decide ((16 : Int) < (ns : Int))) || SL.any badStat
theorem stat_at {w : World} {B ns c : Nat} {A : Option Addr} {SL : List (ByteArray × ByteArray)} (h : Rz w B 2 A ns c (SL.map stCells).flatten) {j : Nat} (hj : j < ns) : ∃ ad p, A = some ad ∧ SL[j]? = some p ∧ w.cell? ((ad.add (j * 2)).add 0) = some (.string p.1) ∧ w.cell? ((ad.add (j * 2)).add 1) = some (.string p.2) := by
  obtain ⟨ad, hA, hb, hl, hc⟩ := Rz.elem h (i := j) hj
  have h2 : ∀ x ∈ SL.map stCells, x.length = 2 := by
    intro x hx
    obtain ⟨p, -, rfl⟩ := List.mem_map.1 hx
    rfl
  have hlen : SL.length = ns := by
    have h1 := h.1
    have e : (SL.map stCells).flatten.length = SL.length * 2 := by
      clear h hc hl h1 hA hb hj
      induction SL with
      | nil => rfl
      | cons p l ih =>
        rw [List.map_cons, List.flatten_cons, List.length_append, ih (fun x hx => h2 x (List.mem_cons_of_mem _ hx)), List.length_cons]
        show 2 + _ = _
        omega
    omega
  have hr : SL[j]? = some (SL[j]'(by omega)) := List.getElem?_eq_getElem _
  have he := flat_elem 2 (SL.map stCells) h2 (x := stCells (SL[j]'(by omega))) (by rw [List.getElem?_map, hr]; rfl)
  refine ⟨ad, _, hA, hr, hc 0 _ ?_, hc 1 _ ?_⟩
  · rw [he]; rfl
  · rw [he]; rfl
theorem undStat : ∃ fs, Try.prog.underlying 96 = some (.struct fs) := ⟨_, Try.underlying96⟩
theorem szStat : (Try.prog.info? 96).map (·.size) = some 2 := by kernel_rfl
theorem wpl_loadSt {ops : Array Oper} {rest : List Oper} {o : Oper} {a : Act} {w : World} {Q : Exit → Act → World → Prop} (hgd : o.guard = none) (x : Operand) (ho : o.op = .load 96 x)
    (p : Addr) (hx : a.eval x = .pointer (some p)) (s1 s2 : ByteArray) (h0 : w.cell? (p.add 0) = some (.string s1)) (h1 : w.cell? (p.add 1) = some (.string s2))
    (h : wpList Try.prog ops Q rest (a.put o.dst (.agg #[.string s1, .string s2])) w) : wpList Try.prog ops Q (o :: rest) a w := by
  obtain ⟨fs, hu⟩ := undStat
  refine wpList_loadz hgd _ x ho p hx [.string s1, .string s2] _ (fun j v hv => ?_) hu rfl szStat h
  rcases j with _ | _ | j
  · have e : Value.string s1 = v := Option.some.inj hv
    rw [← e]; exact h0
  · have e : Value.string s2 = v := Option.some.inj hv
    rw [← e]; exact h1
  · cases hv
set_option maxRecDepth 100000 in
set_option maxHeartbeats 8000000 in
theorem check_any (op : Int) (qt fu : Bool) (bad : Int) (oq : Nat) (KQ VQ : Value) (fl ex cs dl ini : Nat) (st : Int) (VA : Option Addr) (nv cv af ac an : Nat) (SA : Option Addr) (ns sc : Nat) (cl : Bool) (SL : List (ByteArray × ByteArray)) (w : World) (rS : Rz w w.heap.size 2 SA ns sc (SL.map stCells).flatten) (hns : ns ≤ 9223372036854775800) (hsl : SL.length = ns) :
    Calls Try.prog 25 #[reqV op qt fu bad oq KQ VQ fl ex cs dl ini, ansV st (.slice VA nv cv) af ac an (.slice SA ns sc) cl] w (CkQ (wrongA st op nv af ac an ns SL) w) := by
  have HNS : Hid (ns ≤ 9223372036854775800) := Lib.hid hns
  have HSL : Hid (SL.length = ns) := Lib.hid hsl
  clear hns hsl
  have kq := (Blk.new w #[.int .i64 op, .bool qt, .bool fu, .int .i64 bad, .int .u32 (oq : Nat), KQ, VQ, .int .u32 (fl : Nat), .int .u32 (ex : Nat), .int .u64 (cs : Nat), .int .u64 (dl : Nat), .int .u64 (ini : Nat)] 26).alloc (.cells #[.int .i64 st, .slice VA nv cv, .int .u32 (af : Nat), .int .u64 (ac : Nat), .int .u64 (an : Nat), .slice SA ns sc, .bool cl] 29)
  have ka := Blk.new (w.alloc (.cells #[.int .i64 op, .bool qt, .bool fu, .int .i64 bad, .int .u32 (oq : Nat), KQ, VQ, .int .u32 (fl : Nat), .int .u32 (ex : Nat), .int .u64 (cs : Nat), .int .u64 (dl : Nat), .int .u64 (ini : Nat)] 26)) #[.int .i64 st, .slice VA nv cv, .int .u32 (af : Nat), .int .u64 (ac : Nat), .int .u64 (an : Nat), .slice SA ns sc, .bool cl] 29
  have b0 := below_a1' (below_a1' (Below.refl w.heap.size w) (.cells #[.int .i64 op, .bool qt, .bool fu, .int .i64 bad, .int .u32 (oq : Nat), KQ, VQ, .int .u32 (fl : Nat), .int .u32 (ex : Nat), .int .u64 (cs : Nat), .int .u64 (dl : Nat), .int .u64 (ini : Nat)] 26)) (.cells #[.int .i64 st, .slice VA nv cv, .int .u32 (af : Nat), .int .u64 (ac : Nat), .int .u64 (an : Nat), .slice SA ns sc, .bool cl] 29)
  rw [World.size_alloc] at ka
  unfold reqV ansV
  go_enter Try.func25, Try.ntmps25
  go_upto_region 1 with fail
  have hsz : ((w.alloc (.cells #[.int .i64 op, .bool qt, .bool fu, .int .i64 bad, .int .u32 (oq : Nat), KQ, VQ, .int .u32 (fl : Nat), .int .u32 (ex : Nat), .int .u64 (cs : Nat), .int .u64 (dl : Nat), .int .u64 (ini : Nat)] 26)).alloc (.cells #[.int .i64 st, .slice VA nv cv, .int .u32 (af : Nat), .int .u64 (ac : Nat), .int .u64 (an : Nat), .slice SA ns sc, .bool cl] 29)).heap.size = w.heap.size + 2 := by simp only [World.size_alloc]
  generalize (w.alloc (.cells #[.int .i64 op, .bool qt, .bool fu, .int .i64 bad, .int .u32 (oq : Nat), KQ, VQ, .int .u32 (fl : Nat), .int .u32 (ex : Nat), .int .u64 (cs : Nat), .int .u64 (dl : Nat), .int .u64 (ini : Nat)] 26)).alloc (.cells #[.int .i64 st, .slice VA nv cv, .int .u32 (af : Nat), .int .u64 (ac : Nat), .int .u64 (an : Nat), .slice SA ns sc, .bool cl] 29) = W0 at kq ka b0 hsz ⊢
  obtain ⟨p0, p1, p2, p3, p4, p5, p6, p7, p8, p9, p10, p11⟩ := box12 kq
  obtain ⟨q0, q1, q2, q3, q4, q5, q6⟩ := box7 ka
  have b4 : ∀ b, Below w.heap.size w (W0.alloc (.cells #[.bool b] 4)) := fun b => below_a1' b0 _
  have k4q : ∀ b, Blk (W0.alloc (.cells #[.bool b] 4)) w.heap.size #[.int .i64 op, .bool qt, .bool fu, .int .i64 bad, .int .u32 (oq : Nat), KQ, VQ, .int .u32 (fl : Nat), .int .u32 (ex : Nat), .int .u64 (cs : Nat), .int .u64 (dl : Nat), .int .u64 (ini : Nat)] 26 := fun b => kq.alloc _
  have k4a : ∀ b, Blk (W0.alloc (.cells #[.bool b] 4)) (w.heap.size + 1) #[.int .i64 st, .slice VA nv cv, .int .u32 (af : Nat), .int .u64 (ac : Nat), .int .u64 (an : Nat), .slice SA ns sc, .bool cl] 29 := fun b => ka.alloc _
  have k4n : ∀ b, Blk (W0.alloc (.cells #[.bool b] 4)) (w.heap.size + 2) #[.bool b] 4 := fun b => by have := Blk.new W0 #[.bool b] 4; rwa [hsz] at this
  have HF : Hid (∀ b, b = badSt st → CkA #[.int .i64 op, .bool qt, .bool fu, .int .i64 bad, .int .u32 (oq : Nat), KQ, VQ, .int .u32 (fl : Nat), .int .u32 (ex : Nat), .int .u64 (cs : Nat), .int .u64 (dl : Nat), .int .u64 (ini : Nat)] #[.int .i64 st, .slice VA nv cv, .int .u32 (af : Nat), .int .u64 (ac : Nat), .int .u64 (an : Nat), .slice SA ns sc, .bool cl] (badSt st) w (W0.alloc (.cells #[.bool b] 4))) := Lib.hid (fun b hb => by subst hb; exact ⟨k4q _, k4a _, k4n _, b4 _, by rw [World.size_alloc, hsz]⟩)
  clear b4 k4q k4a k4n kq ka b0
  go_cut [5] (fun s5 wx => s5 = .pointer (some ⟨w.heap.size + 2, 0, none⟩) ∧ CkA #[.int .i64 op, .bool qt, .bool fu, .int .i64 bad, .int .u32 (oq : Nat), KQ, VQ, .int .u32 (fl : Nat), .int .u32 (ex : Nat), .int .u64 (cs : Nat), .int .u64 (dl : Nat), .int .u64 (ini : Nat)] #[.int .i64 st, .slice VA nv cv, .int .u32 (af : Nat), .int .u64 (ac : Nat), .int .u64 (an : Nat), .slice SA ns sc, .bool cl] (badSt st) w wx)
  case first =>
    by_cases hst : st = 0
    · subst hst
      go_wp2_with fail
      go_meet
      exact ⟨rfl, HF.out _ (by unfold badSt; rfl)⟩
    · have e0 : (st == 0) = false := beq_eq_false_iff_ne.2 hst
      have e1 : (st != 0) = true := bne_iff_ne.2 hst
      have HT := Lib.hid (fun W => text_any st W)
      have HB : Hid (badSt st = (textB st).toList.isEmpty) := Lib.hid (by unfold badSt; rw [e1, Bool.true_and])
      clear hst
      go_wp2_with fail
      refine (HT.out _).mono ?_
      rintro e w1 ⟨rfl, rfl⟩
      go_wp2_with fail
      go_meet
      exact ⟨rfl, HF.out _ HB.out.symm⟩
  case rest =>
    clear p0 p1 p2 p3 p4 p5 p6 p7 p8 p9 p10 p11 q0 q1 q2 q3 q4 q5 q6 hsz HF
    obtain ⟨rfl, kq, ka, k5, b, hsz⟩ := hcut
    obtain ⟨p0, p1, p2, p3, p4, p5, p6, p7, p8, p9, p10, p11⟩ := box12 kq
    obtain ⟨q0, q1, q2, q3, q4, q5, q6⟩ := box7 ka
    go_upto_region 3 with fail
    have hC : CkR #[.int .i64 op, .bool qt, .bool fu, .int .i64 bad, .int .u32 (oq : Nat), KQ, VQ, .int .u32 (fl : Nat), .int .u32 (ex : Nat), .int .u64 (cs : Nat), .int .u64 (dl : Nat), .int .u64 (ini : Nat)] #[.int .i64 st, .slice VA nv cv, .int .u32 (af : Nat), .int .u64 (ac : Nat), .int .u64 (an : Nat), .slice SA ns sc, .bool cl] (st == 0) (badSt st) w (wc.alloc (.cells #[.bool (st == 0)] 4)) := ⟨kq.alloc _, ka.alloc _, k5.alloc _, by have := Blk.new wc #[.bool (st == 0)] 4; rwa [hsz] at this, below_a1' b _⟩
    clear p0 p1 p2 p3 p4 p5 p6 p7 p8 p9 p10 p11 q0 q1 q2 q3 q4 q5 q6 kq ka k5 b
    clear hsz
    generalize wc.alloc (.cells #[.bool (st == 0)] 4) = W1 at hC ⊢
    go_upto_region 4 with fail
    obtain ⟨p0, -⟩ := box12 hC.1
    go_cut [8] (fun s8 wx => s8 = .bool (op != 11 && op != 16) ∧ W1 = wx)
    case first =>
      by_cases h11 : op = 11
      · subst h11
        go_wp2_with fail
        go_meet
        exact ⟨rfl, rfl⟩
      · have e1 : (op != 11) = true := bne_iff_ne.2 h11
        have HE := Lib.hid e1
        clear h11
        go_wp2_with fail
        go_meet
        exact ⟨by rw [HE.out, Bool.true_and], rfl⟩
    case rest =>
      obtain ⟨rfl, rfl⟩ := hcut
      go_upto_region 5 with fail
      generalize hC1 : (badSt st || (decide (0 < nv) && !((st == 0) && (isRead op || op == 11)))) = wv1
      go_cut [] (fun wx => CkR #[.int .i64 op, .bool qt, .bool fu, .int .i64 bad, .int .u32 (oq : Nat), KQ, VQ, .int .u32 (fl : Nat), .int .u32 (ex : Nat), .int .u64 (cs : Nat), .int .u64 (dl : Nat), .int .u64 (ini : Nat)] #[.int .i64 st, .slice VA nv cv, .int .u32 (af : Nat), .int .u64 (ac : Nat), .int .u64 (an : Nat), .slice SA ns sc, .bool cl] (st == 0) wv1 w wx)
      case first =>
        cases hr : isRead op with
        | true =>
          have HRD : Hid (∀ W, Calls Try.prog 78 #[.int .i64 op] W fun e w' => e = .returned (.bool true) ∧ W = w') := Lib.hid (fun W => hr ▸ rdop_any op W)
          rw [hr] at hC1
          clear hr p0
          refine wp_region_noPanic ?_
          refine region_T (fun wx => Blk wx w.heap.size #[.int .i64 op, .bool qt, .bool fu, .int .i64 bad, .int .u32 (oq : Nat), KQ, VQ, .int .u32 (fl : Nat), .int .u32 (ex : Nat), .int .u64 (cs : Nat), .int .u64 (dl : Nat), .int .u64 (ini : Nat)] 26 ∧ Blk wx (w.heap.size + 1) #[.int .i64 st, .slice VA nv cv, .int .u32 (af : Nat), .int .u64 (ac : Nat), .int .u64 (an : Nat), .slice SA ns sc, .bool cl] 29) 14 (by kernel_rfl) ?_
          replace hC := hC.drew
          have hHeld := And.intro hC.1 hC.2.1
          generalize W1.drew = Y0 at hC hHeld ⊢
          refine takeA (i := 0) (v := ?_) rfl (fun _ _ _ h => h) (Or.inl ⟨by rfl, ?_⟩) hHeld ?_
          rotate_left
          · (intro wx hSw; obtain ⟨hSa, hSb⟩ := hSw; obtain ⟨a0, a1, a2, a3, a4, a5, a6, a7, a8, a9, a10, a11⟩ := box12 hSa; obtain ⟨c0, c1, c2, c3, c4, c5, c6⟩ := box7 hSb; go_simp; try (with_reducible rfl))
          try simp only [Act.put, List.setIfInBounds_toArray, List.set_cons_zero, List.set_cons_succ]
          refine takeA (i := 1) (v := ?_) rfl (fun _ _ _ h => h) (Or.inl ⟨by rfl, ?_⟩) hHeld ?_
          rotate_left
          · (intro wx hSw; obtain ⟨hSa, hSb⟩ := hSw; obtain ⟨a0, a1, a2, a3, a4, a5, a6, a7, a8, a9, a10, a11⟩ := box12 hSa; obtain ⟨c0, c1, c2, c3, c4, c5, c6⟩ := box7 hSb; go_simp; try (with_reducible rfl))
          try simp only [Act.put, List.setIfInBounds_toArray, List.set_cons_zero, List.set_cons_succ]
          refine takeA (i := 2) (v := ?_) rfl (fun _ _ _ h => h) (Or.inl ⟨by rfl, ?_⟩) hHeld ?_
          rotate_left
          · (intro wx hSw; obtain ⟨hSa, hSb⟩ := hSw; obtain ⟨a0, a1, a2, a3, a4, a5, a6, a7, a8, a9, a10, a11⟩ := box12 hSa; obtain ⟨c0, c1, c2, c3, c4, c5, c6⟩ := box7 hSb; go_simp; try (with_reducible rfl))
          try simp only [Act.put, List.setIfInBounds_toArray, List.set_cons_zero, List.set_cons_succ]
          refine takeQ (i := 3) (v := .bool (true)) rfl (by kernel_rfl) (by kernel_rfl) (by decide) (by kernel_rfl) (by kernel_rfl) (fun _ _ _ h => h) ⟨by rfl, fun wx hSw => ⟨78, #[.int .i64 op], ?_, HRD.out wx⟩⟩ hHeld ?_
          · go_simp
          try simp only [Act.put, List.setIfInBounds_toArray, List.set_cons_zero, List.set_cons_succ]
          refine takeA (i := 4) (v := ?_) rfl (fun _ _ _ h => h) (Or.inl ⟨by rfl, ?_⟩) hHeld ?_
          rotate_left
          · (intro wx hSw; obtain ⟨hSa, hSb⟩ := hSw; obtain ⟨a0, a1, a2, a3, a4, a5, a6, a7, a8, a9, a10, a11⟩ := box12 hSa; obtain ⟨c0, c1, c2, c3, c4, c5, c6⟩ := box7 hSb; go_simp; try (with_reducible rfl))
          try simp only [Act.put, List.setIfInBounds_toArray, List.set_cons_zero, List.set_cons_succ]
          refine takeA (i := 5) (v := undef) rfl (fun _ _ _ h => h) (Or.inr ⟨by rfl, rfl⟩) hHeld ?_
          try simp only [Act.put, List.setIfInBounds_toArray, List.set_cons_zero, List.set_cons_succ]
          refine takeA (i := 6) (v := undef) rfl (fun _ _ _ h => h) (Or.inr ⟨by rfl, rfl⟩) hHeld ?_
          try simp only [Act.put, List.setIfInBounds_toArray, List.set_cons_zero, List.set_cons_succ]
          refine takeA (i := 7) (v := undef) rfl (fun _ _ _ h => h) (Or.inr ⟨by rfl, rfl⟩) hHeld ?_
          try simp only [Act.put, List.setIfInBounds_toArray, List.set_cons_zero, List.set_cons_succ]
          refine takeA (i := 8) (v := ?_) rfl (fun _ _ _ h => h) (Or.inl ⟨by rfl, ?_⟩) hHeld ?_
          rotate_left
          · (intro wx hSw; obtain ⟨hSa, hSb⟩ := hSw; obtain ⟨a0, a1, a2, a3, a4, a5, a6, a7, a8, a9, a10, a11⟩ := box12 hSa; obtain ⟨c0, c1, c2, c3, c4, c5, c6⟩ := box7 hSb; go_simp; try (with_reducible rfl))
          try simp only [Act.put, List.setIfInBounds_toArray, List.set_cons_zero, List.set_cons_succ]
          refine takeA (i := 9) (v := ?_) rfl (fun _ _ _ h => h) (Or.inl ⟨by rfl, ?_⟩) hHeld ?_
          rotate_left
          · (intro wx hSw; obtain ⟨hSa, hSb⟩ := hSw; obtain ⟨a0, a1, a2, a3, a4, a5, a6, a7, a8, a9, a10, a11⟩ := box12 hSa; obtain ⟨c0, c1, c2, c3, c4, c5, c6⟩ := box7 hSb; go_simp; try (with_reducible rfl))
          try simp only [Act.put, List.setIfInBounds_toArray, List.set_cons_zero, List.set_cons_succ]
          refine takeA (i := 10) (v := ?_) rfl (fun _ _ _ h => h) (Or.inl ⟨by rfl, ?_⟩) hHeld ?_
          rotate_left
          · (intro wx hSw; obtain ⟨hSa, hSb⟩ := hSw; obtain ⟨a0, a1, a2, a3, a4, a5, a6, a7, a8, a9, a10, a11⟩ := box12 hSa; obtain ⟨c0, c1, c2, c3, c4, c5, c6⟩ := box7 hSb; go_simp; try (with_reducible rfl))
          try simp only [Act.put, List.setIfInBounds_toArray, List.set_cons_zero, List.set_cons_succ]
          refine takeA (i := 11) (v := ?_) rfl (fun _ _ _ h => h) (Or.inl ⟨by rfl, ?_⟩) hHeld ?_
          rotate_left
          · (intro wx hSw; obtain ⟨hSa, hSb⟩ := hSw; obtain ⟨a0, a1, a2, a3, a4, a5, a6, a7, a8, a9, a10, a11⟩ := box12 hSa; obtain ⟨c0, c1, c2, c3, c4, c5, c6⟩ := box7 hSb; go_simp; try (with_reducible rfl))
          try simp only [Act.put, List.setIfInBounds_toArray, List.set_cons_zero, List.set_cons_succ]
          refine takeA (i := 12) (v := ?_) rfl (fun _ _ _ h => h) (Or.inl ⟨by rfl, ?_⟩) hHeld ?_
          rotate_left
          · (intro wx hSw; obtain ⟨hSa, hSb⟩ := hSw; obtain ⟨a0, a1, a2, a3, a4, a5, a6, a7, a8, a9, a10, a11⟩ := box12 hSa; obtain ⟨c0, c1, c2, c3, c4, c5, c6⟩ := box7 hSb; go_simp; try (with_reducible rfl))
          try simp only [Act.put, List.setIfInBounds_toArray, List.set_cons_zero, List.set_cons_succ]
          refine oneT (i := 13) rfl (by kernel_rfl) (fun KK hK => ?_)
          go_simp
          refine (say_any _ _ _ _ (w.heap.size + 2) (w.heap.size + 3) _ hC.2.2.1 hC.2.2.2.1).mono ?_
          rintro e Y1 ⟨rfl, hs, hg⟩
          replace hC := hC.say hs hg
          clear hs hg
          have hHeld' := And.intro hC.1 hC.2.1
          refine hK.out _ _ (fun _ => hHeld') ?_
          clear hK KK hHeld hHeld'
          refine doneT (by kernel_rfl) ?_ _
          refine NoPanic.normal ?_
          go_wp2_with fail
          go_meet
          rw [← hC1]
          exact hC
        | false =>
          have HRD : Hid (∀ W, Calls Try.prog 78 #[.int .i64 op] W fun e w' => e = .returned (.bool false) ∧ W = w') := Lib.hid (fun W => hr ▸ rdop_any op W)
          rw [hr] at hC1
          clear hr p0
          refine wp_region_noPanic ?_
          refine region_T (fun wx => Blk wx w.heap.size #[.int .i64 op, .bool qt, .bool fu, .int .i64 bad, .int .u32 (oq : Nat), KQ, VQ, .int .u32 (fl : Nat), .int .u32 (ex : Nat), .int .u64 (cs : Nat), .int .u64 (dl : Nat), .int .u64 (ini : Nat)] 26 ∧ Blk wx (w.heap.size + 1) #[.int .i64 st, .slice VA nv cv, .int .u32 (af : Nat), .int .u64 (ac : Nat), .int .u64 (an : Nat), .slice SA ns sc, .bool cl] 29) 14 (by kernel_rfl) ?_
          replace hC := hC.drew
          have hHeld := And.intro hC.1 hC.2.1
          generalize W1.drew = Y0 at hC hHeld ⊢
          refine takeA (i := 0) (v := ?_) rfl (fun _ _ _ h => h) (Or.inl ⟨by rfl, ?_⟩) hHeld ?_
          rotate_left
          · (intro wx hSw; obtain ⟨hSa, hSb⟩ := hSw; obtain ⟨a0, a1, a2, a3, a4, a5, a6, a7, a8, a9, a10, a11⟩ := box12 hSa; obtain ⟨c0, c1, c2, c3, c4, c5, c6⟩ := box7 hSb; go_simp; try (with_reducible rfl))
          try simp only [Act.put, List.setIfInBounds_toArray, List.set_cons_zero, List.set_cons_succ]
          refine takeA (i := 1) (v := ?_) rfl (fun _ _ _ h => h) (Or.inl ⟨by rfl, ?_⟩) hHeld ?_
          rotate_left
          · (intro wx hSw; obtain ⟨hSa, hSb⟩ := hSw; obtain ⟨a0, a1, a2, a3, a4, a5, a6, a7, a8, a9, a10, a11⟩ := box12 hSa; obtain ⟨c0, c1, c2, c3, c4, c5, c6⟩ := box7 hSb; go_simp; try (with_reducible rfl))
          try simp only [Act.put, List.setIfInBounds_toArray, List.set_cons_zero, List.set_cons_succ]
          refine takeA (i := 2) (v := ?_) rfl (fun _ _ _ h => h) (Or.inl ⟨by rfl, ?_⟩) hHeld ?_
          rotate_left
          · (intro wx hSw; obtain ⟨hSa, hSb⟩ := hSw; obtain ⟨a0, a1, a2, a3, a4, a5, a6, a7, a8, a9, a10, a11⟩ := box12 hSa; obtain ⟨c0, c1, c2, c3, c4, c5, c6⟩ := box7 hSb; go_simp; try (with_reducible rfl))
          try simp only [Act.put, List.setIfInBounds_toArray, List.set_cons_zero, List.set_cons_succ]
          refine takeQ (i := 3) (v := .bool (false)) rfl (by kernel_rfl) (by kernel_rfl) (by decide) (by kernel_rfl) (by kernel_rfl) (fun _ _ _ h => h) ⟨by rfl, fun wx hSw => ⟨78, #[.int .i64 op], ?_, HRD.out wx⟩⟩ hHeld ?_
          · go_simp
          try simp only [Act.put, List.setIfInBounds_toArray, List.set_cons_zero, List.set_cons_succ]
          refine takeA (i := 4) (v := ?_) rfl (fun _ _ _ h => h) (Or.inl ⟨by rfl, ?_⟩) hHeld ?_
          rotate_left
          · (intro wx hSw; obtain ⟨hSa, hSb⟩ := hSw; obtain ⟨a0, a1, a2, a3, a4, a5, a6, a7, a8, a9, a10, a11⟩ := box12 hSa; obtain ⟨c0, c1, c2, c3, c4, c5, c6⟩ := box7 hSb; go_simp; try (with_reducible rfl))
          try simp only [Act.put, List.setIfInBounds_toArray, List.set_cons_zero, List.set_cons_succ]
          refine takeA (i := 5) (v := ?_) rfl (fun _ _ _ h => h) (Or.inl ⟨by rfl, ?_⟩) hHeld ?_
          rotate_left
          · (intro wx hSw; obtain ⟨hSa, hSb⟩ := hSw; obtain ⟨a0, a1, a2, a3, a4, a5, a6, a7, a8, a9, a10, a11⟩ := box12 hSa; obtain ⟨c0, c1, c2, c3, c4, c5, c6⟩ := box7 hSb; go_simp; try (with_reducible rfl))
          try simp only [Act.put, List.setIfInBounds_toArray, List.set_cons_zero, List.set_cons_succ]
          refine takeA (i := 6) (v := ?_) rfl (fun _ _ _ h => h) (Or.inl ⟨by rfl, ?_⟩) hHeld ?_
          rotate_left
          · (intro wx hSw; obtain ⟨hSa, hSb⟩ := hSw; obtain ⟨a0, a1, a2, a3, a4, a5, a6, a7, a8, a9, a10, a11⟩ := box12 hSa; obtain ⟨c0, c1, c2, c3, c4, c5, c6⟩ := box7 hSb; go_simp; try (with_reducible rfl))
          try simp only [Act.put, List.setIfInBounds_toArray, List.set_cons_zero, List.set_cons_succ]
          refine takeA (i := 7) (v := ?_) rfl (fun _ _ _ h => h) (Or.inl ⟨by rfl, ?_⟩) hHeld ?_
          rotate_left
          · (intro wx hSw; obtain ⟨hSa, hSb⟩ := hSw; obtain ⟨a0, a1, a2, a3, a4, a5, a6, a7, a8, a9, a10, a11⟩ := box12 hSa; obtain ⟨c0, c1, c2, c3, c4, c5, c6⟩ := box7 hSb; go_simp; try (with_reducible rfl))
          try simp only [Act.put, List.setIfInBounds_toArray, List.set_cons_zero, List.set_cons_succ]
          refine takeA (i := 8) (v := ?_) rfl (fun _ _ _ h => h) (Or.inl ⟨by rfl, ?_⟩) hHeld ?_
          rotate_left
          · (intro wx hSw; obtain ⟨hSa, hSb⟩ := hSw; obtain ⟨a0, a1, a2, a3, a4, a5, a6, a7, a8, a9, a10, a11⟩ := box12 hSa; obtain ⟨c0, c1, c2, c3, c4, c5, c6⟩ := box7 hSb; go_simp; try (with_reducible rfl))
          try simp only [Act.put, List.setIfInBounds_toArray, List.set_cons_zero, List.set_cons_succ]
          refine takeA (i := 9) (v := ?_) rfl (fun _ _ _ h => h) (Or.inl ⟨by rfl, ?_⟩) hHeld ?_
          rotate_left
          · (intro wx hSw; obtain ⟨hSa, hSb⟩ := hSw; obtain ⟨a0, a1, a2, a3, a4, a5, a6, a7, a8, a9, a10, a11⟩ := box12 hSa; obtain ⟨c0, c1, c2, c3, c4, c5, c6⟩ := box7 hSb; go_simp; try (with_reducible rfl))
          try simp only [Act.put, List.setIfInBounds_toArray, List.set_cons_zero, List.set_cons_succ]
          refine takeA (i := 10) (v := ?_) rfl (fun _ _ _ h => h) (Or.inl ⟨by rfl, ?_⟩) hHeld ?_
          rotate_left
          · (intro wx hSw; obtain ⟨hSa, hSb⟩ := hSw; obtain ⟨a0, a1, a2, a3, a4, a5, a6, a7, a8, a9, a10, a11⟩ := box12 hSa; obtain ⟨c0, c1, c2, c3, c4, c5, c6⟩ := box7 hSb; go_simp; try (with_reducible rfl))
          try simp only [Act.put, List.setIfInBounds_toArray, List.set_cons_zero, List.set_cons_succ]
          refine takeA (i := 11) (v := ?_) rfl (fun _ _ _ h => h) (Or.inl ⟨by rfl, ?_⟩) hHeld ?_
          rotate_left
          · (intro wx hSw; obtain ⟨hSa, hSb⟩ := hSw; obtain ⟨a0, a1, a2, a3, a4, a5, a6, a7, a8, a9, a10, a11⟩ := box12 hSa; obtain ⟨c0, c1, c2, c3, c4, c5, c6⟩ := box7 hSb; go_simp; try (with_reducible rfl))
          try simp only [Act.put, List.setIfInBounds_toArray, List.set_cons_zero, List.set_cons_succ]
          refine takeA (i := 12) (v := ?_) rfl (fun _ _ _ h => h) (Or.inl ⟨by rfl, ?_⟩) hHeld ?_
          rotate_left
          · (intro wx hSw; obtain ⟨hSa, hSb⟩ := hSw; obtain ⟨a0, a1, a2, a3, a4, a5, a6, a7, a8, a9, a10, a11⟩ := box12 hSa; obtain ⟨c0, c1, c2, c3, c4, c5, c6⟩ := box7 hSb; go_simp; try (with_reducible rfl))
          try simp only [Act.put, List.setIfInBounds_toArray, List.set_cons_zero, List.set_cons_succ]
          refine oneT (i := 13) rfl (by kernel_rfl) (fun KK hK => ?_)
          go_simp
          refine (say_any _ _ _ _ (w.heap.size + 2) (w.heap.size + 3) _ hC.2.2.1 hC.2.2.2.1).mono ?_
          rintro e Y1 ⟨rfl, hs, hg⟩
          replace hC := hC.say hs hg
          clear hs hg
          have hHeld' := And.intro hC.1 hC.2.1
          refine hK.out _ _ (fun _ => hHeld') ?_
          clear hK KK hHeld hHeld'
          refine doneT (by kernel_rfl) ?_ _
          refine NoPanic.normal ?_
          go_wp2_with fail
          go_meet
          rw [← hC1]
          exact hC
      case rest =>
        have HC1 := Lib.hid hC1
        clear hC hC1
        have hC := hcut
        clear hcut
        have HRD := Lib.hid (fun W => rdop_any op W)
        have HCT := Lib.hid (fun W => ctop_any op W)
        go_upto_region 6 with fail
        refine wp_region_noPanic ?_
        refine region_T (fun wx => Blk wx w.heap.size #[.int .i64 op, .bool qt, .bool fu, .int .i64 bad, .int .u32 (oq : Nat), KQ, VQ, .int .u32 (fl : Nat), .int .u32 (ex : Nat), .int .u64 (cs : Nat), .int .u64 (dl : Nat), .int .u64 (ini : Nat)] 26 ∧ Blk wx (w.heap.size + 1) #[.int .i64 st, .slice VA nv cv, .int .u32 (af : Nat), .int .u64 (ac : Nat), .int .u64 (an : Nat), .slice SA ns sc, .bool cl] 29) 8 (by kernel_rfl) ?_
        replace hC := hC.drew
        have hHeld := And.intro hC.1 hC.2.1
        generalize wc.drew = Y0 at hC hHeld ⊢
        refine takeA (i := 0) (v := ?_) rfl (fun _ _ _ h => h) (Or.inl ⟨by rfl, ?_⟩) hHeld ?_
        rotate_left
        · (intro wx hSw; obtain ⟨hSa, hSb⟩ := hSw; obtain ⟨a0, a1, a2, a3, a4, a5, a6, a7, a8, a9, a10, a11⟩ := box12 hSa; obtain ⟨c0, c1, c2, c3, c4, c5, c6⟩ := box7 hSb; go_simp; try (with_reducible rfl))
        try simp only [Act.put, List.setIfInBounds_toArray, List.set_cons_zero, List.set_cons_succ]
        refine takeA (i := 1) (v := ?_) rfl (fun _ _ _ h => h) (Or.inl ⟨by rfl, ?_⟩) hHeld ?_
        rotate_left
        · (intro wx hSw; obtain ⟨hSa, hSb⟩ := hSw; obtain ⟨a0, a1, a2, a3, a4, a5, a6, a7, a8, a9, a10, a11⟩ := box12 hSa; obtain ⟨c0, c1, c2, c3, c4, c5, c6⟩ := box7 hSb; go_simp; try (with_reducible rfl))
        try simp only [Act.put, List.setIfInBounds_toArray, List.set_cons_zero, List.set_cons_succ]
        refine takeA (i := 2) (v := ?_) rfl (fun _ _ _ h => h) (Or.inl ⟨by rfl, ?_⟩) hHeld ?_
        rotate_left
        · (intro wx hSw; obtain ⟨hSa, hSb⟩ := hSw; obtain ⟨a0, a1, a2, a3, a4, a5, a6, a7, a8, a9, a10, a11⟩ := box12 hSa; obtain ⟨c0, c1, c2, c3, c4, c5, c6⟩ := box7 hSb; go_simp; try (with_reducible rfl))
        try simp only [Act.put, List.setIfInBounds_toArray, List.set_cons_zero, List.set_cons_succ]
        refine takeQ (i := 3) (v := .bool (isRead op)) rfl (by kernel_rfl) (by kernel_rfl) (by decide) (by kernel_rfl) (by kernel_rfl) (fun _ _ _ h => h) ⟨by rfl, fun wx hSw => ⟨78, #[.int .i64 op], ?_, HRD.out wx⟩⟩ hHeld ?_
        · go_simp
        try simp only [Act.put, List.setIfInBounds_toArray, List.set_cons_zero, List.set_cons_succ]
        refine takeA (i := 4) (v := ?_) rfl (fun _ _ _ h => h) (Or.inl ⟨by rfl, ?_⟩) hHeld ?_
        rotate_left
        · (intro wx hSw; obtain ⟨hSa, hSb⟩ := hSw; obtain ⟨a0, a1, a2, a3, a4, a5, a6, a7, a8, a9, a10, a11⟩ := box12 hSa; obtain ⟨c0, c1, c2, c3, c4, c5, c6⟩ := box7 hSb; go_simp; try (with_reducible rfl))
        try simp only [Act.put, List.setIfInBounds_toArray, List.set_cons_zero, List.set_cons_succ]
        refine takeA (i := 5) (v := ?_) rfl (fun _ _ _ h => h) (Or.inl ⟨by rfl, ?_⟩) hHeld ?_
        rotate_left
        · (intro wx hSw; obtain ⟨hSa, hSb⟩ := hSw; obtain ⟨a0, a1, a2, a3, a4, a5, a6, a7, a8, a9, a10, a11⟩ := box12 hSa; obtain ⟨c0, c1, c2, c3, c4, c5, c6⟩ := box7 hSb; go_simp; try (with_reducible rfl))
        try simp only [Act.put, List.setIfInBounds_toArray, List.set_cons_zero, List.set_cons_succ]
        refine takeA (i := 6) (v := ?_) rfl (fun _ _ _ h => h) (Or.inl ⟨by rfl, ?_⟩) hHeld ?_
        rotate_left
        · (intro wx hSw; obtain ⟨hSa, hSb⟩ := hSw; obtain ⟨a0, a1, a2, a3, a4, a5, a6, a7, a8, a9, a10, a11⟩ := box12 hSa; obtain ⟨c0, c1, c2, c3, c4, c5, c6⟩ := box7 hSb; go_simp; try (with_reducible rfl))
        try simp only [Act.put, List.setIfInBounds_toArray, List.set_cons_zero, List.set_cons_succ]
        refine oneT (i := 7) rfl (by kernel_rfl) (fun KK hK => ?_)
        go_simp
        refine (say_any _ _ _ _ (w.heap.size + 2) (w.heap.size + 3) _ hC.2.2.1 hC.2.2.2.1).mono ?_
        rintro e Y1 ⟨rfl, hs, hg⟩
        replace hC := hC.say hs hg
        clear hs hg
        have hHeld' := And.intro hC.1 hC.2.1
        refine hK.out _ _ (fun _ => hHeld') ?_
        clear hK KK hHeld hHeld'
        refine doneT (by kernel_rfl) ?_ _
        refine NoPanic.normal ?_
        generalize hC2 : (wv1 || _) = wv2 at hC
        have HC2 := Lib.hid hC2
        clear hC2
        obtain ⟨p0, p1, p2, p3, p4, p5, p6, p7, p8, p9, p10, p11⟩ := box12 hC.1
        obtain ⟨q0, q1, q2, q3, q4, q5, q6⟩ := box7 hC.2.1
        go_wp2_with fail
        refine (say_any _ _ _ _ (w.heap.size + 2) (w.heap.size + 3) _ hC.2.2.1 hC.2.2.2.1).mono ?_
        rintro e Y2 ⟨rfl, hs, hg⟩
        replace hC := hC.say hs hg
        clear hs hg p0 p1 p2 p3 p4 p5 p6 p7 p8 p9 p10 p11 q0 q1 q2 q3 q4 q5 q6
        generalize hC3 : (wv2 || _) = wv3 at hC
        have HC3 := Lib.hid hC3
        clear hC3
        go_upto_region 8 with fail
        refine wp_region_noPanic ?_
        refine region_T (fun wx => Blk wx w.heap.size #[.int .i64 op, .bool qt, .bool fu, .int .i64 bad, .int .u32 (oq : Nat), KQ, VQ, .int .u32 (fl : Nat), .int .u32 (ex : Nat), .int .u64 (cs : Nat), .int .u64 (dl : Nat), .int .u64 (ini : Nat)] 26 ∧ Blk wx (w.heap.size + 1) #[.int .i64 st, .slice VA nv cv, .int .u32 (af : Nat), .int .u64 (ac : Nat), .int .u64 (an : Nat), .slice SA ns sc, .bool cl] 29) 8 (by kernel_rfl) ?_
        replace hC := hC.drew
        have hHeld := And.intro hC.1 hC.2.1
        generalize Y2.drew = Y0 at hC hHeld ⊢
        refine takeA (i := 0) (v := ?_) rfl (fun _ _ _ h => h) (Or.inl ⟨by rfl, ?_⟩) hHeld ?_
        rotate_left
        · (intro wx hSw; obtain ⟨hSa, hSb⟩ := hSw; obtain ⟨a0, a1, a2, a3, a4, a5, a6, a7, a8, a9, a10, a11⟩ := box12 hSa; obtain ⟨c0, c1, c2, c3, c4, c5, c6⟩ := box7 hSb; go_simp; try (with_reducible rfl))
        try simp only [Act.put, List.setIfInBounds_toArray, List.set_cons_zero, List.set_cons_succ]
        refine takeA (i := 1) (v := ?_) rfl (fun _ _ _ h => h) (Or.inl ⟨by rfl, ?_⟩) hHeld ?_
        rotate_left
        · (intro wx hSw; obtain ⟨hSa, hSb⟩ := hSw; obtain ⟨a0, a1, a2, a3, a4, a5, a6, a7, a8, a9, a10, a11⟩ := box12 hSa; obtain ⟨c0, c1, c2, c3, c4, c5, c6⟩ := box7 hSb; go_simp; try (with_reducible rfl))
        try simp only [Act.put, List.setIfInBounds_toArray, List.set_cons_zero, List.set_cons_succ]
        refine takeA (i := 2) (v := ?_) rfl (fun _ _ _ h => h) (Or.inl ⟨by rfl, ?_⟩) hHeld ?_
        rotate_left
        · (intro wx hSw; obtain ⟨hSa, hSb⟩ := hSw; obtain ⟨a0, a1, a2, a3, a4, a5, a6, a7, a8, a9, a10, a11⟩ := box12 hSa; obtain ⟨c0, c1, c2, c3, c4, c5, c6⟩ := box7 hSb; go_simp; try (with_reducible rfl))
        try simp only [Act.put, List.setIfInBounds_toArray, List.set_cons_zero, List.set_cons_succ]
        refine takeQ (i := 3) (v := .bool (isCount op)) rfl (by kernel_rfl) (by kernel_rfl) (by decide) (by kernel_rfl) (by kernel_rfl) (fun _ _ _ h => h) ⟨by rfl, fun wx hSw => ⟨79, #[.int .i64 op], ?_, HCT.out wx⟩⟩ hHeld ?_
        · go_simp
        try simp only [Act.put, List.setIfInBounds_toArray, List.set_cons_zero, List.set_cons_succ]
        refine takeA (i := 4) (v := ?_) rfl (fun _ _ _ h => h) (Or.inl ⟨by rfl, ?_⟩) hHeld ?_
        rotate_left
        · (intro wx hSw; obtain ⟨hSa, hSb⟩ := hSw; obtain ⟨a0, a1, a2, a3, a4, a5, a6, a7, a8, a9, a10, a11⟩ := box12 hSa; obtain ⟨c0, c1, c2, c3, c4, c5, c6⟩ := box7 hSb; go_simp; try (with_reducible rfl))
        try simp only [Act.put, List.setIfInBounds_toArray, List.set_cons_zero, List.set_cons_succ]
        refine takeA (i := 5) (v := ?_) rfl (fun _ _ _ h => h) (Or.inl ⟨by rfl, ?_⟩) hHeld ?_
        rotate_left
        · (intro wx hSw; obtain ⟨hSa, hSb⟩ := hSw; obtain ⟨a0, a1, a2, a3, a4, a5, a6, a7, a8, a9, a10, a11⟩ := box12 hSa; obtain ⟨c0, c1, c2, c3, c4, c5, c6⟩ := box7 hSb; go_simp; try (with_reducible rfl))
        try simp only [Act.put, List.setIfInBounds_toArray, List.set_cons_zero, List.set_cons_succ]
        refine takeA (i := 6) (v := ?_) rfl (fun _ _ _ h => h) (Or.inl ⟨by rfl, ?_⟩) hHeld ?_
        rotate_left
        · (intro wx hSw; obtain ⟨hSa, hSb⟩ := hSw; obtain ⟨a0, a1, a2, a3, a4, a5, a6, a7, a8, a9, a10, a11⟩ := box12 hSa; obtain ⟨c0, c1, c2, c3, c4, c5, c6⟩ := box7 hSb; go_simp; try (with_reducible rfl))
        try simp only [Act.put, List.setIfInBounds_toArray, List.set_cons_zero, List.set_cons_succ]
        refine oneT (i := 7) rfl (by kernel_rfl) (fun KK hK => ?_)
        go_simp
        refine (say_any _ _ _ _ (w.heap.size + 2) (w.heap.size + 3) _ hC.2.2.1 hC.2.2.2.1).mono ?_
        rintro e Y1 ⟨rfl, hs, hg⟩
        replace hC := hC.say hs hg
        clear hs hg
        have hHeld' := And.intro hC.1 hC.2.1
        refine hK.out _ _ (fun _ => hHeld') ?_
        clear hK KK hHeld hHeld'
        refine doneT (by kernel_rfl) ?_ _
        refine NoPanic.normal ?_
        generalize hC4 : (wv3 || _) = wv4 at hC
        have HC4 := Lib.hid hC4
        clear hC4
        obtain ⟨p0, p1, p2, p3, p4, p5, p6, p7, p8, p9, p10, p11⟩ := box12 hC.1
        obtain ⟨q0, q1, q2, q3, q4, q5, q6⟩ := box7 hC.2.1
        go_wp2_with fail
        refine (say_any _ _ _ _ (w.heap.size + 2) (w.heap.size + 3) _ hC.2.2.1 hC.2.2.2.1).mono ?_
        rintro e Y3 ⟨rfl, hs, hg⟩
        replace hC := hC.say hs hg
        clear hs hg p0 p1 p2 p3 p4 p5 p6 p7 p8 p9 p10 p11 q0 q1 q2 q3 q4 q5 q6
        generalize hC5 : (wv4 || _) = wv5 at hC
        have HC5 := Lib.hid hC5
        clear hC5
        go_upto_region 10 with fail
        generalize hC6 : (wv5 || decide ((512 : Int) < (nv : Int)) || decide ((16 : Int) < (ns : Int))) = wv6
        go_cut [] (fun wx => CkR #[.int .i64 op, .bool qt, .bool fu, .int .i64 bad, .int .u32 (oq : Nat), KQ, VQ, .int .u32 (fl : Nat), .int .u32 (ex : Nat), .int .u64 (cs : Nat), .int .u64 (dl : Nat), .int .u64 (ini : Nat)] #[.int .i64 st, .slice VA nv cv, .int .u32 (af : Nat), .int .u64 (ac : Nat), .int .u64 (an : Nat), .slice SA ns sc, .bool cl] (st == 0) wv6 w wx)
        case first =>
          obtain ⟨q0, q1, q2, q3, q4, q5, q6⟩ := box7 hC.2.1
          have w5 := box1 hC.2.2.1
          have y5 := hC.2.2.1.frozen 0
          have KN := Lib.hid (fun b => hC.say (nw := b) (hC.2.2.1.set_ 0 (.bool b)) (rdr_grown_set Y3 (w.heap.size + 2) 0 (.bool b)))
          clear hC
          cases wv5 with
          | true =>
            go_wp2_with fail
            go_meet
            rw [← hC6]
            exact KN.out _
          | false =>
            by_cases h1 : (512 : Int) < (nv : Int)
            · have e1 : ((512 : Int) < (nv : Int)) = True := eq_true h1
              have HE : Hid (wv6 = true) := Lib.hid (by rw [← hC6, decide_eq_true h1]; rfl)
              clear h1 hC6
              go_wp2_with fail
              go_meet
              rw [HE.out]
              exact KN.out _
            · have e1 : ((512 : Int) < (nv : Int)) = False := eq_false h1
              have HE : Hid (wv6 = decide ((16 : Int) < (ns : Int))) := Lib.hid (by rw [← hC6, decide_eq_false h1]; rfl)
              clear h1 hC6
              go_wp2_with fail
              go_meet
              rw [HE.out]
              exact KN.out _
        case rest =>
          have HC6 := Lib.hid hC6
          clear hC hC6
          have hC := hcut
          clear hcut
          obtain ⟨q0, q1, q2, q3, q4, q5, q6⟩ := box7 hC.2.1
          go_wp2_with fail
          clear q0 q1 q2 q3 q4 q5 q6
          go_loopw [93] (fun i wr => ∃ j : Nat, j ≤ ns ∧ i = .int .i64 (j : Nat) ∧ CkR #[.int .i64 op, .bool qt, .bool fu, .int .i64 bad, .int .u32 (oq : Nat), KQ, VQ, .int .u32 (fl : Nat), .int .u32 (ex : Nat), .int .u64 (cs : Nat), .int .u64 (dl : Nat), .int .u64 (ini : Nat)] #[.int .i64 st, .slice VA nv cv, .int .u32 (af : Nat), .int .u64 (ac : Nat), .int .u64 (an : Nat), .slice SA ns sc, .bool cl] (st == 0) (wv6 || (SL.take j).any badStat) w wr) (fun i _ => ns - (intOf i).toNat)
          case atStart => exact ⟨0, Nat.zero_le _, rfl, by simpa using hC⟩
          case round =>
            clear hC
            obtain ⟨j, hj, rfl, hC⟩ := hrel
            have hgk := hC.2.2.2.1.lt
            by_cases hlt : j < ns
            · obtain ⟨ad, p, hA, hp, h0, h1⟩ := stat_at (rS.below hC.2.2.2.2) (j := j) hlt
              subst hA
              have hlt' : ((j : Int) < (ns : Int)) = True := eq_true (by omega)
              have HLT : Hid (j + 1 ≤ ns) := Lib.hid (by omega)
              have HJP : IntKind.i64.wrap ((j : Int) + 1) = (j : Int) + 1 := IntWalk.i64_in _ (by have := HNS.out; omega)
              have HSN : Hid ((SL.take (j + 1)).any badStat = ((SL.take j).any badStat || badStat p)) := Lib.hid (by rw [List.take_add_one, hp]; simp)
              obtain ⟨s1, s2⟩ := p
              simp only at h0 h1
              clear hlt hp
              go_upto_region 14 with (first | refine wpl_loadSt rfl _ rfl (ad.add (j * 2)) (by rfl) s1 s2 h0 h1 ?_)
              have k10 := Blk.new wr #[.string s1, .string s2] 96
              replace hC := hC.alloc (.cells #[.string s1, .string s2] 96)
              clear h0 h1
              generalize wr.alloc (.cells #[.string s1, .string s2] 96) = W9 at hC k10 ⊢
              generalize wr.heap.size = g10 at k10 hgk ⊢
              obtain ⟨x0, x1⟩ := box2 k10
              have w5 := box1 hC.2.2.1
              have y5 := hC.2.2.1.frozen 0
              have KN : Hid (∀ b, b = (wv6 || (SL.take (j + 1)).any badStat) → CkR #[.int .i64 op, .bool qt, .bool fu, .int .i64 bad, .int .u32 (oq : Nat), KQ, VQ, .int .u32 (fl : Nat), .int .u32 (ex : Nat), .int .u64 (cs : Nat), .int .u64 (dl : Nat), .int .u64 (ini : Nat)] #[.int .i64 st, .slice VA nv cv, .int .u32 (af : Nat), .int .u64 (ac : Nat), .int .u64 (an : Nat), .slice (some ad) ns sc, .bool cl] (st == 0) (wv6 || (SL.take (j + 1)).any badStat) w (W9.setCell ⟨w.heap.size + 2, 0, none⟩ (.bool b))) := Lib.hid (fun b hb => hb ▸ hC.say (nw := b) (hC.2.2.1.set_ 0 (.bool b)) (rdr_grown_set W9 (w.heap.size + 2) 0 (.bool b)))
              clear hC k10
              generalize hv : (wv6 || (SL.take j).any badStat) = v at w5
              have HV : Hid ((wv6 || (SL.take (j + 1)).any badStat) = (v || badStat (s1, s2))) := Lib.hid (by rw [HSN.out, ← hv, Bool.or_assoc])
              clear hv
              have rel : ∀ b, b = (v || badStat (s1, s2)) → ∃ j' : Nat, j' ≤ ns ∧ Value.int .i64 ((j : Int) + 1) = .int .i64 (j' : Nat) ∧ CkR #[.int .i64 op, .bool qt, .bool fu, .int .i64 bad, .int .u32 (oq : Nat), KQ, VQ, .int .u32 (fl : Nat), .int .u32 (ex : Nat), .int .u64 (cs : Nat), .int .u64 (dl : Nat), .int .u64 (ini : Nat)] #[.int .i64 st, .slice VA nv cv, .int .u32 (af : Nat), .int .u64 (ac : Nat), .int .u64 (an : Nat), .slice (some ad) ns sc, .bool cl] (st == 0) (wv6 || (SL.take j').any badStat) w (W9.setCell ⟨w.heap.size + 2, 0, none⟩ (.bool b)) := fun b hb => ⟨j + 1, HLT.out, rfl, KN.out b (by rw [HV.out]; exact hb)⟩
              have HREL := Lib.hid rel
              clear rel KN
              cases v with
              | true =>
                go_wp2_with fail
                go_roundw
                case rel => exact HREL.out _ (rfl)
                case measure => have := HLT.out; simp [intOf]; omega
              | false =>
                by_cases t1 : (s1.size : Int) < 1
                · have e1 : ((s1.size : Int) < 1) = True := eq_true t1
                  have HT : Hid (true = (false || badStat (s1, s2))) := Lib.hid (by unfold badStat; rw [decide_eq_true t1]; rfl)
                  clear t1
                  go_wp2_with fail
                  go_roundw
                  case rel => exact HREL.out _ (HT.out)
                  case measure => have := HLT.out; simp [intOf]; omega
                · have e1 : ((s1.size : Int) < 1) = False := eq_false t1
                  by_cases t2 : (250 : Int) < (s1.size : Int)
                  · have e2 : ((250 : Int) < (s1.size : Int)) = True := eq_true t2
                    have HT : Hid (true = (false || badStat (s1, s2))) := Lib.hid (by unfold badStat; rw [decide_eq_false t1, decide_eq_true t2]; rfl)
                    clear t1 t2
                    go_wp2_with fail
                    go_roundw
                    case rel => exact HREL.out _ (HT.out)
                    case measure => have := HLT.out; simp [intOf]; omega
                  · have e2 : ((250 : Int) < (s1.size : Int)) = False := eq_false t2
                    have HT : Hid (decide ((512 : Int) < (s2.size : Int)) = (false || badStat (s1, s2))) := Lib.hid (by unfold badStat; rw [decide_eq_false t1, decide_eq_false t2]; rfl)
                    clear t1 t2
                    go_wp2_with fail
                    go_roundw
                    case rel => exact HREL.out _ (HT.out)
                    case measure => have := HLT.out; simp [intOf]; omega
            · have hlt' : ((j : Int) < (ns : Int)) = False := eq_false (by omega)
              have HSE : Hid ((SL.take j).any badStat = SL.any badStat) := Lib.hid (by rw [List.take_of_length_le (by rw [HSL.out]; omega)])
              rw [HSE.out] at hC
              have w5 := box1 hC.2.2.1
              have HCK : Hid (wrongA st op nv af ac an ns SL = (wv6 || SL.any badStat)) := Lib.hid (by unfold wrongA; rw [HC1.out, HC2.out, HC3.out, HC4.out, HC5.out, HC6.out])
              have hb := hC.2.2.2.2
              clear hC
              generalize (wv6 || SL.any badStat) = v at w5 HCK
              cases v with
              | true =>
                go_wp2_with fail
                go_ret
                unfold CkQ
                rw [HCK.out]
                exact ⟨rfl, hb⟩
              | false =>
                go_wp2_with fail
                go_ret
                unfold CkQ
                rw [HCK.out]
                exact ⟨rfl, hb⟩
end
section
open Go.RowKit
def silB (op : Int) (qt : Bool) (st : Int) : Bool := qt && (if isRead op = true then st == 1 else st == 0)
set_option maxRecDepth 100000 in
set_option maxHeartbeats 4000000 in
theorem silent_any (op : Int) (qt fu : Bool) (bad : Int) (oq : Nat) (KQ VQ : Value) (fl ex cs dl ini : Nat) (st : Int) (VA : Option Addr) (nv cv af ac an : Nat) (SA : Option Addr) (ns sc : Nat) (cl : Bool) (w : World) : Calls Try.prog 26 #[reqV op qt fu bad oq KQ VQ fl ex cs dl ini, ansV st (.slice VA nv cv) af ac an (.slice SA ns sc) cl] w (BoxQ' (.bool (silB op qt st)) w) := by
  have HRD := Lib.hid (fun W => rdop_any op W)
  have HB : Hid (∀ x wx, x = silB op qt st → Below w.heap.size w wx → BoxQ' (.bool (silB op qt st)) w (.returned (.bool x)) wx) := Lib.hid (fun x wx h b => ⟨by rw [h], b⟩)
  generalize hQQ : BoxQ' (.bool (silB op qt st)) w = QQ at HB ⊢
  clear hQQ
  have kq := (Blk.new w #[.int .i64 op, .bool qt, .bool fu, .int .i64 bad, .int .u32 (oq : Nat), KQ, VQ, .int .u32 (fl : Nat), .int .u32 (ex : Nat), .int .u64 (cs : Nat), .int .u64 (dl : Nat), .int .u64 (ini : Nat)] 26).alloc (.cells #[.int .i64 st, .slice VA nv cv, .int .u32 (af : Nat), .int .u64 (ac : Nat), .int .u64 (an : Nat), .slice SA ns sc, .bool cl] 29)
  have ka := Blk.new (w.alloc (.cells #[.int .i64 op, .bool qt, .bool fu, .int .i64 bad, .int .u32 (oq : Nat), KQ, VQ, .int .u32 (fl : Nat), .int .u32 (ex : Nat), .int .u64 (cs : Nat), .int .u64 (dl : Nat), .int .u64 (ini : Nat)] 26)) #[.int .i64 st, .slice VA nv cv, .int .u32 (af : Nat), .int .u64 (ac : Nat), .int .u64 (an : Nat), .slice SA ns sc, .bool cl] 29
  have b := below_a1' (below_a1' (Below.refl w.heap.size w) (.cells #[.int .i64 op, .bool qt, .bool fu, .int .i64 bad, .int .u32 (oq : Nat), KQ, VQ, .int .u32 (fl : Nat), .int .u32 (ex : Nat), .int .u64 (cs : Nat), .int .u64 (dl : Nat), .int .u64 (ini : Nat)] 26)) (.cells #[.int .i64 st, .slice VA nv cv, .int .u32 (af : Nat), .int .u64 (ac : Nat), .int .u64 (an : Nat), .slice SA ns sc, .bool cl] 29)
  rw [World.size_alloc] at ka
  unfold reqV ansV
  go_enter Try.func26, Try.ntmps26
  go_upto_region 1 with fail
  generalize (w.alloc (.cells #[.int .i64 op, .bool qt, .bool fu, .int .i64 bad, .int .u32 (oq : Nat), KQ, VQ, .int .u32 (fl : Nat), .int .u32 (ex : Nat), .int .u64 (cs : Nat), .int .u64 (dl : Nat), .int .u64 (ini : Nat)] 26)).alloc (.cells #[.int .i64 st, .slice VA nv cv, .int .u32 (af : Nat), .int .u64 (ac : Nat), .int .u64 (an : Nat), .slice SA ns sc, .bool cl] 29) = W0 at kq ka b ⊢
  obtain ⟨p0, p1, p2, p3, p4, p5, p6, p7, p8, p9, p10, p11⟩ := box12 kq
  obtain ⟨q0, q1, q2, q3, q4, q5, q6⟩ := box7 ka
  cases qt with
  | false =>
    go_wp2_with fail
    exact HB.out _ _ rfl b
  | true =>
    cases hr : isRead op with
    | true =>
      rw [hr] at HRD
      have HE : Hid ((st == 1) = silB op true st) := Lib.hid (by unfold silB; rw [hr]; rfl)
      clear hr
      go_wp2_with fail
      refine (HRD.out W0).mono ?_
      rintro e w1 ⟨rfl, rfl⟩
      go_wp2_with fail
      exact HB.out _ _ HE.out b
    | false =>
      rw [hr] at HRD
      have HE : Hid ((st == 0) = silB op true st) := Lib.hid (by unfold silB; rw [hr]; rfl)
      clear hr
      go_wp2_with fail
      refine (HRD.out W0).mono ?_
      rintro e w1 ⟨rfl, rfl⟩
      go_wp2_with fail
      exact HB.out _ _ HE.out b
end
section
open Go.RowKit
structure SP where
  st : Int
  cas : Nat
  lx : List UInt8
  lk : List UInt8
  lv : List UInt8
def Sd.sp (s : Sd) : SP := ⟨s.st, s.cas, s.lx, s.lk, s.lv⟩
def allP (op : Int) (fu : Bool) (st : Int) (af ac an : Nat) (lk lv : List UInt8) (SL : List (ByteArray × ByteArray)) : List SP :=
  if st ≠ 0 then [⟨st, 0, [], [], (textB st).data.toList⟩]
  else if isRead op = true then [⟨0, ac, highB af 4, if fu = true then lk else [], lv⟩]
  else if isCount op = true then [⟨0, ac, [], [], highB an 8⟩]
  else if op = 11 then [⟨0, 0, [], [], lv⟩]
  else if op = 16 then SL.map (fun p => ⟨0, 0, [], p.1.data.toList, p.2.data.toList⟩) ++ [⟨0, 0, [], [], []⟩]
  else [⟨0, ac, [], [], []⟩]
def AllQ21 (Ps : List SP) (w : World) (e : Ending) (w' : World) : Prop := ∃ (L : List Sd) (A : Option Addr) (c : Nat), e = .returned (.slice A L.length c) ∧ Rz w' w'.heap.size 5 A L.length c (L.map Sd.cells).flatten ∧ (∀ s ∈ L, s.Ok w') ∧ L.map Sd.sp = Ps ∧ Below w.heap.size w w'
theorem text_len (s : Int) : (textB s).size ≤ 20 := by
  unfold textB
  repeat' split
  all_goals decide
theorem conv_ok (w : World) (s : ByteArray) (hs : s.size ≤ 10000000) : ∃ A c w', (convert 9 23 (.string s)).run Try.prog w = .ok (.slice A s.size c) w' ∧ Rd w' w'.heap.size A s.size c s.data.toList ∧ Below w.heap.size w w' := by
  refine ⟨_, _, _, run_bytes_of_string w 9 23 5 s Try.underlying9 Try.underlying23 Try.underlying5, ?_, below_a1' (Below.refl w.heap.size w).drew _⟩
  have hg := grownCap_ge w s.size 0 5
  have hm := grownCap_le_maxLen w s.size 0 5 (by unfold maxLen; omega)
  generalize grownCap w s.size 0 5 = cap at hg hm
  have hl : s.data.toList.length = s.size := rfl
  refine ⟨by rw [length_cbs, hl], hg, hm, (fun h => by cases h), fun ad hA _ => ?_, fun ad i u hA hu => ?_⟩
  · injection hA with hA
    subst hA
    rw [World.size_alloc]
    exact Nat.lt_succ_self _
  · injection hA with hA
    subst hA
    rw [cbs_get?] at hu
    obtain ⟨x, hx, rfl⟩ := Option.map_eq_some_iff.1 hu
    obtain ⟨hi, hxe⟩ := List.getElem?_eq_some_iff.1 hx
    have ha : (⟨w.heap.size, 0, none⟩ : Addr).add i = ⟨w.heap.size, i, none⟩ := by
      unfold Addr.add
      by_cases h0 : i = 0
      · subst h0; rfl
      · rw [if_neg h0]; simp
    have hh : (w.drew.alloc (.cells (bytesRow s cap) 5 ((bytesRow s cap).size, (bytesRow s cap).size + 1))).heap[w.heap.size]? = some (.cells (bytesRow s cap) 5 ((bytesRow s cap).size, (bytesRow s cap).size + 1)) := heap_alloc_new w.drew _
    rw [ha, cell_of_row _ _ i _ _ _ hh, bytesRow_at s cap i (by simpa using hi)]
    subst hxe
    rfl
theorem step_conv (w : World) {ops : Array Oper} {o : Oper} {a : Act} {K : Act → World → Prop} {Q : Exit → Act → World → Prop} {E : Prop}
    (hg : Region.wanted o (yielded ops a.tmps) = true) (x : Operand) (hop : o.op = Op.convert 9 23 x) (s : ByteArray) (hs : s.size ≤ 10000000) (hx : a.eval x = .string s)
    (hK : ∀ A c w', Rd w' w'.heap.size A s.size c s.data.toList → Below w.heap.size w w' → K (a.put o.dst (.slice A s.size c)) w') :
    if Region.wanted o (yielded ops a.tmps) = true then Oper.wp Try.prog o a w K Q else E := by
  rw [if_pos hg]
  obtain ⟨A, c, w', hrun, h1, h2⟩ := conv_ok w s hs
  unfold Oper.wp
  simp [execOp, hop, hx, hrun, Result.andThen]
  exact hK A c w' h1 h2
theorem saidparts : ∃ ie z, Try.prog.info? 124 = some ie ∧ ie.zero = some z ∧ ie.size = 5 := by
  have h := saidinfo
  have h2 : ((Try.prog.info? 124).bind (·.zero)).isSome = true := by kernel_rfl
  cases hi : Try.prog.info? 124 with
  | none => rw [hi] at h; cases h
  | some ie =>
    rw [hi] at h h2
    simp only [Option.map_some, Option.some.injEq] at h
    simp only [Option.bind_some] at h2
    obtain ⟨z, hz⟩ := Option.isSome_iff_exists.1 h2
    exact ⟨ie, z, rfl, hz, h⟩
theorem step_bs5 (w : World) {ops : Array Oper} {o : Oper} {a : Act} {K : Act → World → Prop} {Q : Exit → Act → World → Prop} {E : Prop}
    (hg : Region.wanted o (yielded ops a.tmps) = true) (x : Operand) (ho : o.op = .buildSlice 116 1 #[(0, x)]) (v : Value) (hx : a.eval x = v) (hv : v.cells.size = 5)
    (hK : K (a.put o.dst (.slice (some ⟨w.heap.size, 0, none⟩) 1 1)) (w.alloc (.cells v.cells 124))) : if Region.wanted o (yielded ops a.tmps) = true then Oper.wp Try.prog o a w K Q else E := by
  rw [if_pos hg]
  obtain ⟨ie, z, hi, hz, hs⟩ := saidparts
  refine wp_buildSlice _ 124 1 _ ho v.cells ie z Try.underlying116 hi hz (by rw [hs]; decide) (by rw [hs]; decide) ?_ hK
  rw [hs]
  have e1 : (#[(0, x)].map fun (x : Nat × Operand) => (x.1, a.eval x.2)).toList = [(0, v)] := by simp [hx]
  rw [e1]
  exact fill_one (by decide) v hv _
theorem wpl_bs5 (w : World) {ops : Array Oper} {rest : List Oper} {o : Oper} {a : Act} {Q : Exit → Act → World → Prop} (hg : o.guard = none) (x : Operand) (ho : o.op = .buildSlice 116 1 #[(0, x)]) (s0 : Value) (s1 s2 s3 s4 : Value) (hx : a.eval x = .agg #[s0, s1, s2, s3, s4])
    (h : wpList Try.prog ops Q rest (a.put o.dst (.slice (some ⟨w.heap.size, 0, none⟩) 1 1)) (w.alloc (.cells #[s0, s1, s2, s3, s4] 124))) : wpList Try.prog ops Q (o :: rest) a w := by
  obtain ⟨ie, z, hi, hz, hs⟩ := saidparts
  exact wpList_bs1 hg _ x ho _ ie z (.agg #[s0, s1, s2, s3, s4]) 5 hx Try.underlying116 hi hz hs rfl (by decide) (by decide) h
theorem allQ_one (Ps : List SP) (sd : Sd) (w w1 : World) (hP : [sd.sp] = Ps) (hok : sd.Ok w1) (b : Below w.heap.size w w1) : AllQ21 Ps w (.returned (.slice (some ⟨w1.heap.size, 0, none⟩) 1 1)) (w1.alloc (.cells sd.cells.toArray 124)) := by
  have ba := below_a1' (Below.refl w1.heap.size w1) (.cells sd.cells.toArray 124)
  have hr := (Rz.new1 w1 sd.cells.toArray 124 5 rfl).more (B' := (w1.alloc (.cells sd.cells.toArray 124)).heap.size) (by rw [World.size_alloc]; exact Nat.le_refl _)
  refine ⟨[sd], _, 1, rfl, ?_, fun s hs => ?_, hP, below_step b ba⟩
  · simpa using hr
  · rw [List.mem_singleton] at hs
    subst hs
    obtain ⟨h1, h2, h3, h4⟩ := hok
    exact ⟨h1.step ba, h2.step ba, h3.step ba, h4⟩
theorem far_rd2 {V : World} {n c : Nat} {A : Option Addr} {l : List UInt8} {o : Obj} (r : Rd V V.heap.size A n c l) : ∀ wy, (V.alloc o).grownBy wy (some V.heap.size) → Rd wy wy.heap.size A n c l := fun wy h => by
  have hb := (below_a1' (Below.refl V.heap.size V) o).trans (below_grown h (Nat.le_refl _) (by rw [World.size_alloc]; exact Nat.lt_succ_self _))
  exact r.step hb
theorem blk_set5 {w : World} {g : Nat} {T : TypeId} {c0 c1 c2 c3 c4 : Value} (h : Blk w g #[c0, c1, c2, c3, c4] T) (v0 v1 v2 v3 v4 : Value) : Blk (((((w.setCell ⟨g, 0, none⟩ v0).setCell ⟨g, 1, none⟩ v1).setCell ⟨g, 2, none⟩ v2).setCell ⟨g, 3, none⟩ v3).setCell ⟨g, 4, none⟩ v4) g #[v0, v1, v2, v3, v4] T := by
  have h0 : Blk _ g #[v0, c1, c2, c3, c4] T := h.set_ 0 v0
  have h1 : Blk _ g #[v0, v1, c2, c3, c4] T := h0.set_ 1 v1
  have h2 : Blk _ g #[v0, v1, v2, c3, c4] T := h1.set_ 2 v2
  have h3 : Blk _ g #[v0, v1, v2, v3, c4] T := h2.set_ 3 v3
  have h4 : Blk _ g #[v0, v1, v2, v3, v4] T := h3.set_ 4 v4
  exact h4
theorem grown_set5 (w : World) (g : Nat) (v0 v1 v2 v3 v4 : Value) : w.grownBy (((((w.setCell ⟨g, 0, none⟩ v0).setCell ⟨g, 1, none⟩ v1).setCell ⟨g, 2, none⟩ v2).setCell ⟨g, 3, none⟩ v3).setCell ⟨g, 4, none⟩ v4) (some g) := grown_trans (grown_trans (grown_trans (grown_trans (rdr_grown_set w g 0 v0) (rdr_grown_set _ g 1 v1)) (rdr_grown_set _ g 2 v2)) (rdr_grown_set _ g 3 v3)) (rdr_grown_set _ g 4 v4)
set_option maxRecDepth 100000 in
set_option maxHeartbeats 8000000 in
theorem all_st (op : Int) (qt fu : Bool) (bad : Int) (oq : Nat) (KA : Option Addr) (nk ck : Nat) (lk : List UInt8) (VQ : Value) (fl ex cs dl ini : Nat) (st : Int) (VA : Option Addr) (nv cv : Nat) (lv : List UInt8) (af ac an : Nat) (SA : Option Addr) (ns sc : Nat) (SL : List (ByteArray × ByteArray)) (cl : Bool) (w : World) (rK : Rd w w.heap.size KA nk ck lk) (rV : Rd w w.heap.size VA nv cv lv) (hnk : nk ≤ 1000000) (hnv : nv ≤ 1000000) (haf : af < 4294967296) (hac : ac < 18446744073709551616) (han : an < 18446744073709551616) (hst : st ≠ 0) (Ps : List SP) (hPs : [(⟨st, 0, [], [], (textB st).data.toList⟩ : SP)] = Ps) : Calls Try.prog 76 #[reqV op qt fu bad oq (.slice KA nk ck) VQ fl ex cs dl ini, ansV st (.slice VA nv cv) af ac an (.slice SA ns sc) cl] w (AllQ21 Ps w) := by
  have HPS := Lib.hid hPs
  clear hPs
  have HRK := Lib.hid rK
  have HRV := Lib.hid rV
  have HNUM := Lib.hid (And.intro hnk (And.intro hnv (And.intro haf (And.intro hac han))))
  clear rK rV hnk hnv haf hac han
  have HRD := Lib.hid (fun W => rdop_any op W)
  have HCT := Lib.hid (fun W => ctop_any op W)
  have e0 : (st != 0) = true := bne_iff_ne.2 hst
  have HT := Lib.hid (fun W => text_any st W)
  clear hst
  have kq := (Blk.new w #[.int .i64 op, .bool qt, .bool fu, .int .i64 bad, .int .u32 (oq : Nat), .slice KA nk ck, VQ, .int .u32 (fl : Nat), .int .u32 (ex : Nat), .int .u64 (cs : Nat), .int .u64 (dl : Nat), .int .u64 (ini : Nat)] 26).alloc (.cells #[.int .i64 st, .slice VA nv cv, .int .u32 (af : Nat), .int .u64 (ac : Nat), .int .u64 (an : Nat), .slice SA ns sc, .bool cl] 29)
  have ka := Blk.new (w.alloc (.cells #[.int .i64 op, .bool qt, .bool fu, .int .i64 bad, .int .u32 (oq : Nat), .slice KA nk ck, VQ, .int .u32 (fl : Nat), .int .u32 (ex : Nat), .int .u64 (cs : Nat), .int .u64 (dl : Nat), .int .u64 (ini : Nat)] 26)) #[.int .i64 st, .slice VA nv cv, .int .u32 (af : Nat), .int .u64 (ac : Nat), .int .u64 (an : Nat), .slice SA ns sc, .bool cl] 29
  have b := below_a1' (below_a1' (Below.refl w.heap.size w) (.cells #[.int .i64 op, .bool qt, .bool fu, .int .i64 bad, .int .u32 (oq : Nat), .slice KA nk ck, VQ, .int .u32 (fl : Nat), .int .u32 (ex : Nat), .int .u64 (cs : Nat), .int .u64 (dl : Nat), .int .u64 (ini : Nat)] 26)) (.cells #[.int .i64 st, .slice VA nv cv, .int .u32 (af : Nat), .int .u64 (ac : Nat), .int .u64 (an : Nat), .slice SA ns sc, .bool cl] 29)
  rw [World.size_alloc] at ka
  unfold reqV ansV
  go_enter Try.func76, Try.ntmps76
  go_upto_region 1 with fail
  generalize (w.alloc (.cells #[.int .i64 op, .bool qt, .bool fu, .int .i64 bad, .int .u32 (oq : Nat), .slice KA nk ck, VQ, .int .u32 (fl : Nat), .int .u32 (ex : Nat), .int .u64 (cs : Nat), .int .u64 (dl : Nat), .int .u64 (ini : Nat)] 26)).alloc (.cells #[.int .i64 st, .slice VA nv cv, .int .u32 (af : Nat), .int .u64 (ac : Nat), .int .u64 (an : Nat), .slice SA ns sc, .bool cl] 29) = W0 at kq ka b ⊢
  obtain ⟨p0, p1, p2, p3, p4, p5, p6, p7, p8, p9, p10, p11⟩ := box12 kq
  obtain ⟨q0, q1, q2, q3, q4, q5, q6⟩ := box7 ka
  go_upto_region 2 with fail
  refine wp_region_noPanic ?_
  refine region_T (fun wx => Blk wx w.heap.size #[.int .i64 op, .bool qt, .bool fu, .int .i64 bad, .int .u32 (oq : Nat), .slice KA nk ck, VQ, .int .u32 (fl : Nat), .int .u32 (ex : Nat), .int .u64 (cs : Nat), .int .u64 (dl : Nat), .int .u64 (ini : Nat)] 26 ∧ Blk wx (w.heap.size + 1) #[.int .i64 st, .slice VA nv cv, .int .u32 (af : Nat), .int .u64 (ac : Nat), .int .u64 (an : Nat), .slice SA ns sc, .bool cl] 29) 9 (by kernel_rfl) ?_
  have bD : Below W0.heap.size W0 W0.drew := (Below.refl _ _).drew
  replace kq := kq.step bD
  replace ka := ka.step bD
  replace b := below_step b bD
  have hHeld := And.intro kq ka
  clear bD p0 p1 p2 p3 p4 p5 p6 p7 p8 p9 p10 p11 q0 q1 q2 q3 q4 q5 q6
  generalize W0.drew = Y0 at kq ka b hHeld ⊢
  refine takeA (i := 0) (v := ?_) rfl (fun _ _ _ h => h) (Or.inl ⟨by rfl, ?_⟩) hHeld ?_
  rotate_left
  · (intro wx hSw; obtain ⟨sa, sb⟩ := hSw; obtain ⟨a0, a1, a2, a3, a4, a5, a6, a7, a8, a9, a10, a11⟩ := box12 sa; obtain ⟨c0, c1, c2, c3, c4, c5, c6⟩ := box7 sb; go_simp; try (with_reducible rfl))
  try simp only [Act.put, List.setIfInBounds_toArray, List.set_cons_zero, List.set_cons_succ]
  refine takeA (i := 1) (v := ?_) rfl (fun _ _ _ h => h) (Or.inl ⟨by rfl, ?_⟩) hHeld ?_
  rotate_left
  · (intro wx hSw; obtain ⟨sa, sb⟩ := hSw; obtain ⟨a0, a1, a2, a3, a4, a5, a6, a7, a8, a9, a10, a11⟩ := box12 sa; obtain ⟨c0, c1, c2, c3, c4, c5, c6⟩ := box7 sb; go_simp; try (with_reducible rfl))
  try simp only [Act.put, List.setIfInBounds_toArray, List.set_cons_zero, List.set_cons_succ]
  refine takeA (i := 2) (v := ?_) rfl (fun _ _ _ h => h) (Or.inl ⟨by rfl, ?_⟩) hHeld ?_
  rotate_left
  · (intro wx hSw; obtain ⟨sa, sb⟩ := hSw; obtain ⟨a0, a1, a2, a3, a4, a5, a6, a7, a8, a9, a10, a11⟩ := box12 sa; obtain ⟨c0, c1, c2, c3, c4, c5, c6⟩ := box7 sb; go_simp; try (with_reducible rfl))
  try simp only [Act.put, List.setIfInBounds_toArray, List.set_cons_zero, List.set_cons_succ]
  refine takeA (i := 3) (v := ?_) rfl (fun _ _ _ h => h) (Or.inl ⟨by rfl, ?_⟩) hHeld ?_
  rotate_left
  · (intro wx hSw; obtain ⟨sa, sb⟩ := hSw; obtain ⟨a0, a1, a2, a3, a4, a5, a6, a7, a8, a9, a10, a11⟩ := box12 sa; obtain ⟨c0, c1, c2, c3, c4, c5, c6⟩ := box7 sb; go_simp; try (with_reducible rfl))
  try simp only [Act.put, List.setIfInBounds_toArray, List.set_cons_zero, List.set_cons_succ]
  refine takeQ (i := 4) (v := .string (textB st)) rfl (by kernel_rfl) (by kernel_rfl) (by decide) (by kernel_rfl) (by kernel_rfl) (fun _ _ _ h => h) ⟨by rfl, fun wx hSw => ⟨30, #[.int .i64 st], ?_, HT.out wx⟩⟩ hHeld ?_
  · go_simp
  try simp only [Act.put, List.setIfInBounds_toArray, List.set_cons_zero, List.set_cons_succ]
  refine oneT (i := 5) rfl (by kernel_rfl) (fun KK hK => ?_)
  refine step_conv _ rfl _ rfl (textB st) (by have := text_len st; omega) rfl ?_
  intro A5 c5 Y1 r5 b5
  clear hHeld
  replace kq := kq.step b5
  replace ka := ka.step b5
  replace b := below_step b b5
  have hHeld := And.intro kq ka
  clear b5
  refine hK.out _ _ (fun _ => hHeld) ?_
  clear hK KK
  try simp only [Act.put, List.setIfInBounds_toArray, List.set_cons_zero, List.set_cons_succ]
  refine takeA (i := 6) (v := ?_) rfl (fun _ _ _ h => h) (Or.inl ⟨by rfl, ?_⟩) hHeld ?_
  rotate_left
  · (intro wx hSw; obtain ⟨sa, sb⟩ := hSw; obtain ⟨a0, a1, a2, a3, a4, a5, a6, a7, a8, a9, a10, a11⟩ := box12 sa; obtain ⟨c0, c1, c2, c3, c4, c5, c6⟩ := box7 sb; go_simp; try (with_reducible rfl))
  try simp only [Act.put, List.setIfInBounds_toArray, List.set_cons_zero, List.set_cons_succ]
  refine oneT (i := 7) rfl (by kernel_rfl) (fun KK hK => ?_)
  refine step_bs5 _ rfl _ rfl (.agg #[.int .i64 st, .slice none 0 0, .slice none 0 0, .slice A5 (textB st).size c5, .int .u64 0]) rfl rfl ?_
  have HQ : Hid (AllQ21 Ps w (.returned (.slice (some ⟨Y1.heap.size, 0, none⟩) 1 1)) (Y1.alloc (.cells #[.int .i64 st, .slice none 0 0, .slice none 0 0, .slice A5 (textB st).size c5, .int .u64 0] 124))) := Lib.hid (allQ_one Ps ⟨st, none, 0, 0, none, 0, 0, A5, (textB st).size, c5, 0, [], [], (textB st).data.toList⟩ w Y1 HPS.out ⟨Rd.nil _ _, Rd.nil _ _, r5, by show 0 < 18446744073709551616; omega, by have := text_len st; show 0 + 0 + (textB st).size ≤ 9223372036854775807; omega⟩ b)
  have kq2 := kq.alloc (.cells #[.int .i64 st, .slice none 0 0, .slice none 0 0, .slice A5 (textB st).size c5, .int .u64 0] 124)
  have ka2 := ka.alloc (.cells #[.int .i64 st, .slice none 0 0, .slice none 0 0, .slice A5 (textB st).size c5, .int .u64 0] 124)
  refine hK.out _ _ (fun _ => ⟨kq2, ka2⟩) ?_
  clear hK KK hHeld
  try simp only [Act.put, List.setIfInBounds_toArray, List.set_cons_zero, List.set_cons_succ]
  have hHeld := And.intro kq2 ka2
  refine takeA (i := 8) (v := ?_) rfl (fun _ _ _ h => h) (Or.inl ⟨by rfl, ?_⟩) hHeld ?_
  rotate_left
  · (intro wx hSw; obtain ⟨sa, sb⟩ := hSw; obtain ⟨a0, a1, a2, a3, a4, a5, a6, a7, a8, a9, a10, a11⟩ := box12 sa; obtain ⟨c0, c1, c2, c3, c4, c5, c6⟩ := box7 sb; go_simp; try (with_reducible rfl))
  try simp only [Act.put, List.setIfInBounds_toArray, List.set_cons_zero, List.set_cons_succ]
  refine doneT (by kernel_rfl) ?_ _
  refine NoPanic.normal ?_
  clear hHeld kq2 ka2 kq ka b r5
  go_wp2_with fail
  go_ret
  exact HQ.out
set_option maxRecDepth 100000 in
set_option maxHeartbeats 8000000 in
theorem all_ver (op : Int) (qt fu : Bool) (bad : Int) (oq : Nat) (KA : Option Addr) (nk ck : Nat) (lk : List UInt8) (VQ : Value) (fl ex cs dl ini : Nat) (st : Int) (VA : Option Addr) (nv cv : Nat) (lv : List UInt8) (af ac an : Nat) (SA : Option Addr) (ns sc : Nat) (SL : List (ByteArray × ByteArray)) (cl : Bool) (w : World) (rK : Rd w w.heap.size KA nk ck lk) (rV : Rd w w.heap.size VA nv cv lv) (hnk : nk ≤ 1000000) (hnv : nv ≤ 1000000) (haf : af < 4294967296) (hac : ac < 18446744073709551616) (han : an < 18446744073709551616) (hst : st = 0) (hr : isRead op = false) (hc : isCount op = false) (h11 : op = 11) (Ps : List SP) (hPs : [(⟨0, 0, [], [], lv⟩ : SP)] = Ps) : Calls Try.prog 76 #[reqV op qt fu bad oq (.slice KA nk ck) VQ fl ex cs dl ini, ansV st (.slice VA nv cv) af ac an (.slice SA ns sc) cl] w (AllQ21 Ps w) := by
  have HPS := Lib.hid hPs
  clear hPs
  have HRK := Lib.hid rK
  have HRV := Lib.hid rV
  have HNUM := Lib.hid (And.intro hnk (And.intro hnv (And.intro haf (And.intro hac han))))
  clear rK rV hnk hnv haf hac han
  have HRD := Lib.hid (fun W => rdop_any op W)
  have HCT := Lib.hid (fun W => ctop_any op W)
  have e1 : (op == 11) = true := beq_iff_eq.2 h11
  clear h11
  have e0 : (st != 0) = false := bne_eq_false_iff_eq.2 hst
  rw [hr] at HRD
  clear hst hr
  rw [hc] at HCT
  clear hc
  have kq := (Blk.new w #[.int .i64 op, .bool qt, .bool fu, .int .i64 bad, .int .u32 (oq : Nat), .slice KA nk ck, VQ, .int .u32 (fl : Nat), .int .u32 (ex : Nat), .int .u64 (cs : Nat), .int .u64 (dl : Nat), .int .u64 (ini : Nat)] 26).alloc (.cells #[.int .i64 st, .slice VA nv cv, .int .u32 (af : Nat), .int .u64 (ac : Nat), .int .u64 (an : Nat), .slice SA ns sc, .bool cl] 29)
  have ka := Blk.new (w.alloc (.cells #[.int .i64 op, .bool qt, .bool fu, .int .i64 bad, .int .u32 (oq : Nat), .slice KA nk ck, VQ, .int .u32 (fl : Nat), .int .u32 (ex : Nat), .int .u64 (cs : Nat), .int .u64 (dl : Nat), .int .u64 (ini : Nat)] 26)) #[.int .i64 st, .slice VA nv cv, .int .u32 (af : Nat), .int .u64 (ac : Nat), .int .u64 (an : Nat), .slice SA ns sc, .bool cl] 29
  have b := below_a1' (below_a1' (Below.refl w.heap.size w) (.cells #[.int .i64 op, .bool qt, .bool fu, .int .i64 bad, .int .u32 (oq : Nat), .slice KA nk ck, VQ, .int .u32 (fl : Nat), .int .u32 (ex : Nat), .int .u64 (cs : Nat), .int .u64 (dl : Nat), .int .u64 (ini : Nat)] 26)) (.cells #[.int .i64 st, .slice VA nv cv, .int .u32 (af : Nat), .int .u64 (ac : Nat), .int .u64 (an : Nat), .slice SA ns sc, .bool cl] 29)
  rw [World.size_alloc] at ka
  unfold reqV ansV
  go_enter Try.func76, Try.ntmps76
  go_upto_region 1 with fail
  generalize (w.alloc (.cells #[.int .i64 op, .bool qt, .bool fu, .int .i64 bad, .int .u32 (oq : Nat), .slice KA nk ck, VQ, .int .u32 (fl : Nat), .int .u32 (ex : Nat), .int .u64 (cs : Nat), .int .u64 (dl : Nat), .int .u64 (ini : Nat)] 26)).alloc (.cells #[.int .i64 st, .slice VA nv cv, .int .u32 (af : Nat), .int .u64 (ac : Nat), .int .u64 (an : Nat), .slice SA ns sc, .bool cl] 29) = W0 at kq ka b ⊢
  obtain ⟨p0, p1, p2, p3, p4, p5, p6, p7, p8, p9, p10, p11⟩ := box12 kq
  obtain ⟨q0, q1, q2, q3, q4, q5, q6⟩ := box7 ka
  go_wp2_with fail
  refine (HRD.out W0).mono ?_
  rintro e w1 ⟨rfl, rfl⟩
  go_wp2_with fail
  refine (HCT.out W0).mono ?_
  rintro e w1 ⟨rfl, rfl⟩
  have HQ : Hid (AllQ21 Ps w (.returned (.slice (some ⟨W0.heap.size, 0, none⟩) 1 1)) (W0.alloc (.cells #[.int .i64 0, .slice none 0 0, .slice none 0 0, .slice VA nv cv, .int .u64 0] 124))) := Lib.hid (allQ_one Ps ⟨0, none, 0, 0, none, 0, 0, VA, nv, cv, 0, [], [], lv⟩ w W0 HPS.out ⟨Rd.nil _ _, Rd.nil _ _, (HRV.out.below b).more b.size, by show 0 < 18446744073709551616; omega, by have := HNUM.out.2.1; show 0 + 0 + nv ≤ 9223372036854775807; omega⟩ b)
  clear kq ka b
  go_wp2_with (refine wpl_bs5 _ rfl _ rfl (.int .i64 0) (.slice none 0 0) (.slice none 0 0) (.slice VA nv cv) (.int .u64 0) rfl ?_)
  go_ret
  exact HQ.out
set_option maxRecDepth 100000 in
set_option maxHeartbeats 8000000 in
theorem all_oth (op : Int) (qt fu : Bool) (bad : Int) (oq : Nat) (KA : Option Addr) (nk ck : Nat) (lk : List UInt8) (VQ : Value) (fl ex cs dl ini : Nat) (st : Int) (VA : Option Addr) (nv cv : Nat) (lv : List UInt8) (af ac an : Nat) (SA : Option Addr) (ns sc : Nat) (SL : List (ByteArray × ByteArray)) (cl : Bool) (w : World) (rK : Rd w w.heap.size KA nk ck lk) (rV : Rd w w.heap.size VA nv cv lv) (hnk : nk ≤ 1000000) (hnv : nv ≤ 1000000) (haf : af < 4294967296) (hac : ac < 18446744073709551616) (han : an < 18446744073709551616) (hst : st = 0) (hr : isRead op = false) (hc : isCount op = false) (h11 : op ≠ 11) (h16 : op ≠ 16) (Ps : List SP) (hPs : [(⟨0, ac, [], [], []⟩ : SP)] = Ps) : Calls Try.prog 76 #[reqV op qt fu bad oq (.slice KA nk ck) VQ fl ex cs dl ini, ansV st (.slice VA nv cv) af ac an (.slice SA ns sc) cl] w (AllQ21 Ps w) := by
  have HPS := Lib.hid hPs
  clear hPs
  have HRK := Lib.hid rK
  have HRV := Lib.hid rV
  have HNUM := Lib.hid (And.intro hnk (And.intro hnv (And.intro haf (And.intro hac han))))
  clear rK rV hnk hnv haf hac han
  have HRD := Lib.hid (fun W => rdop_any op W)
  have HCT := Lib.hid (fun W => ctop_any op W)
  have e1 : (op == 11) = false := beq_eq_false_iff_ne.2 h11
  have e2 : (op == 16) = false := beq_eq_false_iff_ne.2 h16
  clear h11 h16
  have e0 : (st != 0) = false := bne_eq_false_iff_eq.2 hst
  rw [hr] at HRD
  clear hst hr
  rw [hc] at HCT
  clear hc
  have kq := (Blk.new w #[.int .i64 op, .bool qt, .bool fu, .int .i64 bad, .int .u32 (oq : Nat), .slice KA nk ck, VQ, .int .u32 (fl : Nat), .int .u32 (ex : Nat), .int .u64 (cs : Nat), .int .u64 (dl : Nat), .int .u64 (ini : Nat)] 26).alloc (.cells #[.int .i64 st, .slice VA nv cv, .int .u32 (af : Nat), .int .u64 (ac : Nat), .int .u64 (an : Nat), .slice SA ns sc, .bool cl] 29)
  have ka := Blk.new (w.alloc (.cells #[.int .i64 op, .bool qt, .bool fu, .int .i64 bad, .int .u32 (oq : Nat), .slice KA nk ck, VQ, .int .u32 (fl : Nat), .int .u32 (ex : Nat), .int .u64 (cs : Nat), .int .u64 (dl : Nat), .int .u64 (ini : Nat)] 26)) #[.int .i64 st, .slice VA nv cv, .int .u32 (af : Nat), .int .u64 (ac : Nat), .int .u64 (an : Nat), .slice SA ns sc, .bool cl] 29
  have b := below_a1' (below_a1' (Below.refl w.heap.size w) (.cells #[.int .i64 op, .bool qt, .bool fu, .int .i64 bad, .int .u32 (oq : Nat), .slice KA nk ck, VQ, .int .u32 (fl : Nat), .int .u32 (ex : Nat), .int .u64 (cs : Nat), .int .u64 (dl : Nat), .int .u64 (ini : Nat)] 26)) (.cells #[.int .i64 st, .slice VA nv cv, .int .u32 (af : Nat), .int .u64 (ac : Nat), .int .u64 (an : Nat), .slice SA ns sc, .bool cl] 29)
  rw [World.size_alloc] at ka
  unfold reqV ansV
  go_enter Try.func76, Try.ntmps76
  go_upto_region 1 with fail
  generalize (w.alloc (.cells #[.int .i64 op, .bool qt, .bool fu, .int .i64 bad, .int .u32 (oq : Nat), .slice KA nk ck, VQ, .int .u32 (fl : Nat), .int .u32 (ex : Nat), .int .u64 (cs : Nat), .int .u64 (dl : Nat), .int .u64 (ini : Nat)] 26)).alloc (.cells #[.int .i64 st, .slice VA nv cv, .int .u32 (af : Nat), .int .u64 (ac : Nat), .int .u64 (an : Nat), .slice SA ns sc, .bool cl] 29) = W0 at kq ka b ⊢
  obtain ⟨p0, p1, p2, p3, p4, p5, p6, p7, p8, p9, p10, p11⟩ := box12 kq
  obtain ⟨q0, q1, q2, q3, q4, q5, q6⟩ := box7 ka
  go_wp2_with fail
  refine (HRD.out W0).mono ?_
  rintro e w1 ⟨rfl, rfl⟩
  go_wp2_with fail
  refine (HCT.out W0).mono ?_
  rintro e w1 ⟨rfl, rfl⟩
  have HQ : Hid (AllQ21 Ps w (.returned (.slice (some ⟨W0.heap.size, 0, none⟩) 1 1)) (W0.alloc (.cells #[.int .i64 0, .slice none 0 0, .slice none 0 0, .slice none 0 0, .int .u64 (ac : Nat)] 124))) := Lib.hid (allQ_one Ps ⟨0, none, 0, 0, none, 0, 0, none, 0, 0, ac, [], [], []⟩ w W0 HPS.out ⟨Rd.nil _ _, Rd.nil _ _, Rd.nil _ _, by have := HNUM.out.2.2.2.1; exact this, by show 0 + 0 + 0 ≤ 9223372036854775807; omega⟩ b)
  clear kq ka b
  go_wp2_with (refine wpl_bs5 _ rfl _ rfl (.int .i64 0) (.slice none 0 0) (.slice none 0 0) (.slice none 0 0) (.int .u64 (ac : Nat)) rfl ?_)
  go_ret
  exact HQ.out
set_option maxRecDepth 100000 in
set_option maxHeartbeats 8000000 in
theorem all_cnt (op : Int) (qt fu : Bool) (bad : Int) (oq : Nat) (KA : Option Addr) (nk ck : Nat) (lk : List UInt8) (VQ : Value) (fl ex cs dl ini : Nat) (st : Int) (VA : Option Addr) (nv cv : Nat) (lv : List UInt8) (af ac an : Nat) (SA : Option Addr) (ns sc : Nat) (SL : List (ByteArray × ByteArray)) (cl : Bool) (w : World) (rK : Rd w w.heap.size KA nk ck lk) (rV : Rd w w.heap.size VA nv cv lv) (hnk : nk ≤ 1000000) (hnv : nv ≤ 1000000) (haf : af < 4294967296) (hac : ac < 18446744073709551616) (han : an < 18446744073709551616) (hst : st = 0) (hr : isRead op = false) (hc : isCount op = true) (Ps : List SP) (hPs : [(⟨0, ac, [], [], highB an 8⟩ : SP)] = Ps) : Calls Try.prog 76 #[reqV op qt fu bad oq (.slice KA nk ck) VQ fl ex cs dl ini, ansV st (.slice VA nv cv) af ac an (.slice SA ns sc) cl] w (AllQ21 Ps w) := by
  have HPS := Lib.hid hPs
  clear hPs
  have HRK := Lib.hid rK
  have HRV := Lib.hid rV
  have HNUM := Lib.hid (And.intro hnk (And.intro hnv (And.intro haf (And.intro hac han))))
  clear rK rV hnk hnv haf hac han
  have HRD := Lib.hid (fun W => rdop_any op W)
  have HCT := Lib.hid (fun W => ctop_any op W)
  have e0 : (st != 0) = false := bne_eq_false_iff_eq.2 hst
  rw [hr] at HRD
  clear hst hr
  rw [hc] at HCT
  clear hc
  have kq := (Blk.new w #[.int .i64 op, .bool qt, .bool fu, .int .i64 bad, .int .u32 (oq : Nat), .slice KA nk ck, VQ, .int .u32 (fl : Nat), .int .u32 (ex : Nat), .int .u64 (cs : Nat), .int .u64 (dl : Nat), .int .u64 (ini : Nat)] 26).alloc (.cells #[.int .i64 st, .slice VA nv cv, .int .u32 (af : Nat), .int .u64 (ac : Nat), .int .u64 (an : Nat), .slice SA ns sc, .bool cl] 29)
  have ka := Blk.new (w.alloc (.cells #[.int .i64 op, .bool qt, .bool fu, .int .i64 bad, .int .u32 (oq : Nat), .slice KA nk ck, VQ, .int .u32 (fl : Nat), .int .u32 (ex : Nat), .int .u64 (cs : Nat), .int .u64 (dl : Nat), .int .u64 (ini : Nat)] 26)) #[.int .i64 st, .slice VA nv cv, .int .u32 (af : Nat), .int .u64 (ac : Nat), .int .u64 (an : Nat), .slice SA ns sc, .bool cl] 29
  have b := below_a1' (below_a1' (Below.refl w.heap.size w) (.cells #[.int .i64 op, .bool qt, .bool fu, .int .i64 bad, .int .u32 (oq : Nat), .slice KA nk ck, VQ, .int .u32 (fl : Nat), .int .u32 (ex : Nat), .int .u64 (cs : Nat), .int .u64 (dl : Nat), .int .u64 (ini : Nat)] 26)) (.cells #[.int .i64 st, .slice VA nv cv, .int .u32 (af : Nat), .int .u64 (ac : Nat), .int .u64 (an : Nat), .slice SA ns sc, .bool cl] 29)
  rw [World.size_alloc] at ka
  unfold reqV ansV
  go_enter Try.func76, Try.ntmps76
  go_upto_region 1 with fail
  generalize (w.alloc (.cells #[.int .i64 op, .bool qt, .bool fu, .int .i64 bad, .int .u32 (oq : Nat), .slice KA nk ck, VQ, .int .u32 (fl : Nat), .int .u32 (ex : Nat), .int .u64 (cs : Nat), .int .u64 (dl : Nat), .int .u64 (ini : Nat)] 26)).alloc (.cells #[.int .i64 st, .slice VA nv cv, .int .u32 (af : Nat), .int .u64 (ac : Nat), .int .u64 (an : Nat), .slice SA ns sc, .bool cl] 29) = W0 at kq ka b ⊢
  obtain ⟨p0, p1, p2, p3, p4, p5, p6, p7, p8, p9, p10, p11⟩ := box12 kq
  obtain ⟨q0, q1, q2, q3, q4, q5, q6⟩ := box7 ka
  go_wp2_with fail
  refine (HRD.out W0).mono ?_
  rintro e w1 ⟨rfl, rfl⟩
  go_wp2_with fail
  refine (HCT.out W0).mono ?_
  rintro e w1 ⟨rfl, rfl⟩
  go_upto_region 9 with fail
  refine wp_region_noPanic ?_
  refine region_T (fun wx => Blk wx w.heap.size #[.int .i64 op, .bool qt, .bool fu, .int .i64 bad, .int .u32 (oq : Nat), .slice KA nk ck, VQ, .int .u32 (fl : Nat), .int .u32 (ex : Nat), .int .u64 (cs : Nat), .int .u64 (dl : Nat), .int .u64 (ini : Nat)] 26 ∧ Blk wx (w.heap.size + 1) #[.int .i64 st, .slice VA nv cv, .int .u32 (af : Nat), .int .u64 (ac : Nat), .int .u64 (an : Nat), .slice SA ns sc, .bool cl] 29) 8 (by kernel_rfl) ?_
  have bD : Below W0.heap.size W0 W0.drew := (Below.refl _ _).drew
  replace kq := kq.step bD
  replace ka := ka.step bD
  replace b := below_step b bD
  have hHeld := And.intro kq ka
  clear bD p0 p1 p2 p3 p4 p5 p6 p7 p8 p9 p10 p11 q0 q1 q2 q3 q4 q5 q6
  generalize W0.drew = Y0 at kq ka b hHeld ⊢
  refine takeA (i := 0) (v := ?_) rfl (fun _ _ _ h => h) (Or.inl ⟨by rfl, ?_⟩) hHeld ?_
  rotate_left
  · (intro wx hSw; obtain ⟨sa, sb⟩ := hSw; obtain ⟨a0, a1, a2, a3, a4, a5, a6, a7, a8, a9, a10, a11⟩ := box12 sa; obtain ⟨c0, c1, c2, c3, c4, c5, c6⟩ := box7 sb; go_simp; try (with_reducible rfl))
  try simp only [Act.put, List.setIfInBounds_toArray, List.set_cons_zero, List.set_cons_succ]
  refine takeA (i := 1) (v := ?_) rfl (fun _ _ _ h => h) (Or.inl ⟨by rfl, ?_⟩) hHeld ?_
  rotate_left
  · (intro wx hSw; obtain ⟨sa, sb⟩ := hSw; obtain ⟨a0, a1, a2, a3, a4, a5, a6, a7, a8, a9, a10, a11⟩ := box12 sa; obtain ⟨c0, c1, c2, c3, c4, c5, c6⟩ := box7 sb; go_simp; try (with_reducible rfl))
  try simp only [Act.put, List.setIfInBounds_toArray, List.set_cons_zero, List.set_cons_succ]
  refine takeA (i := 3) (v := ?_) rfl (fun _ _ _ h => h) (Or.inl ⟨by rfl, ?_⟩) hHeld ?_
  rotate_left
  · (intro wx hSw; obtain ⟨sa, sb⟩ := hSw; obtain ⟨a0, a1, a2, a3, a4, a5, a6, a7, a8, a9, a10, a11⟩ := box12 sa; obtain ⟨c0, c1, c2, c3, c4, c5, c6⟩ := box7 sb; go_simp; try (with_reducible rfl))
  try simp only [Act.put, List.setIfInBounds_toArray, List.set_cons_zero, List.set_cons_succ]
  refine takeA (i := 4) (v := ?_) rfl (fun _ _ _ h => h) (Or.inl ⟨by rfl, ?_⟩) hHeld ?_
  rotate_left
  · (intro wx hSw; obtain ⟨sa, sb⟩ := hSw; obtain ⟨a0, a1, a2, a3, a4, a5, a6, a7, a8, a9, a10, a11⟩ := box12 sa; obtain ⟨c0, c1, c2, c3, c4, c5, c6⟩ := box7 sb; go_simp; try (with_reducible rfl))
  try simp only [Act.put, List.setIfInBounds_toArray, List.set_cons_zero, List.set_cons_succ]
  have HP8 := Lib.hid (put64_any none 0 0 Y0.heap.size an HNUM.out.2.2.2.2 [] Y0 (Rd.nil _ _) (Nat.le_refl _) (by omega))
  refine oneT (i := 2) rfl (by kernel_rfl) (fun KK hK => ?_)
  go_simp
  refine HP8.out.mono ?_
  rintro e Y1 ⟨A5, c5, rfl, o5, b5⟩
  simp only [Nat.zero_add, List.nil_append] at o5 ⊢
  clear hHeld HP8
  replace kq := kq.step b5
  replace ka := ka.step b5
  replace b := below_step b b5
  have r5 := o5.rd
  have hHeld := And.intro kq ka
  clear b5 o5
  refine hK.out _ _ (fun _ => hHeld) ?_
  clear hK KK
  try simp only [Act.put, List.setIfInBounds_toArray, List.set_cons_zero, List.set_cons_succ]
  refine takeA (i := 5) (v := ?_) rfl (fun _ _ _ h => h) (Or.inl ⟨by rfl, ?_⟩) hHeld ?_
  rotate_left
  · (intro wx hSw; obtain ⟨sa, sb⟩ := hSw; obtain ⟨a0, a1, a2, a3, a4, a5, a6, a7, a8, a9, a10, a11⟩ := box12 sa; obtain ⟨c0, c1, c2, c3, c4, c5, c6⟩ := box7 sb; go_simp; try (with_reducible rfl))
  try simp only [Act.put, List.setIfInBounds_toArray, List.set_cons_zero, List.set_cons_succ]
  refine oneT (i := 6) rfl (by kernel_rfl) (fun KK hK => ?_)
  refine step_bs5 _ rfl _ rfl (.agg #[.int .i64 0, .slice none 0 0, .slice none 0 0, .slice A5 8 c5, .int .u64 (ac : Nat)]) rfl rfl ?_
  have HQ : Hid (AllQ21 Ps w (.returned (.slice (some ⟨Y1.heap.size, 0, none⟩) 1 1)) (Y1.alloc (.cells #[.int .i64 0, .slice none 0 0, .slice none 0 0, .slice A5 8 c5, .int .u64 (ac : Nat)] 124))) := Lib.hid (allQ_one Ps ⟨0, none, 0, 0, none, 0, 0, A5, 8, c5, ac, [], [], highB an 8⟩ w Y1 HPS.out ⟨Rd.nil _ _, Rd.nil _ _, r5, by have := HNUM.out.2.2.2.1; exact this, by show 0 + 0 + 8 ≤ 9223372036854775807; omega⟩ b)
  have kq2 := kq.alloc (.cells #[.int .i64 0, .slice none 0 0, .slice none 0 0, .slice A5 8 c5, .int .u64 (ac : Nat)] 124)
  have ka2 := ka.alloc (.cells #[.int .i64 0, .slice none 0 0, .slice none 0 0, .slice A5 8 c5, .int .u64 (ac : Nat)] 124)
  refine hK.out _ _ (fun _ => ⟨kq2, ka2⟩) ?_
  clear hK KK hHeld
  try simp only [Act.put, List.setIfInBounds_toArray, List.set_cons_zero, List.set_cons_succ]
  have hHeld := And.intro kq2 ka2
  refine takeA (i := 7) (v := ?_) rfl (fun _ _ _ h => h) (Or.inl ⟨by rfl, ?_⟩) hHeld ?_
  rotate_left
  · (intro wx hSw; obtain ⟨sa, sb⟩ := hSw; obtain ⟨a0, a1, a2, a3, a4, a5, a6, a7, a8, a9, a10, a11⟩ := box12 sa; obtain ⟨c0, c1, c2, c3, c4, c5, c6⟩ := box7 sb; go_simp; try (with_reducible rfl))
  try simp only [Act.put, List.setIfInBounds_toArray, List.set_cons_zero, List.set_cons_succ]
  refine doneT (by kernel_rfl) ?_ _
  refine NoPanic.normal ?_
  clear hHeld kq2 ka2 kq ka b r5
  go_wp2_with fail
  go_ret
  exact HQ.out
set_option maxRecDepth 100000 in
set_option maxHeartbeats 8000000 in
theorem all_get (op : Int) (qt fu : Bool) (bad : Int) (oq : Nat) (KA : Option Addr) (nk ck : Nat) (lk : List UInt8) (VQ : Value) (fl ex cs dl ini : Nat) (st : Int) (VA : Option Addr) (nv cv : Nat) (lv : List UInt8) (af ac an : Nat) (SA : Option Addr) (ns sc : Nat) (SL : List (ByteArray × ByteArray)) (cl : Bool) (w : World) (rK : Rd w w.heap.size KA nk ck lk) (rV : Rd w w.heap.size VA nv cv lv) (hnk : nk ≤ 1000000) (hnv : nv ≤ 1000000) (haf : af < 4294967296) (hac : ac < 18446744073709551616) (han : an < 18446744073709551616) (hst : st = 0) (hr : isRead op = true) (Ps : List SP) (hPs : [(⟨0, ac, highB af 4, if fu = true then lk else [], lv⟩ : SP)] = Ps) : Calls Try.prog 76 #[reqV op qt fu bad oq (.slice KA nk ck) VQ fl ex cs dl ini, ansV st (.slice VA nv cv) af ac an (.slice SA ns sc) cl] w (AllQ21 Ps w) := by
  have HPS := Lib.hid hPs
  clear hPs
  have HRK := Lib.hid rK
  have HRV := Lib.hid rV
  have HNUM := Lib.hid (And.intro hnk (And.intro hnv (And.intro haf (And.intro hac han))))
  clear rK rV hnk hnv haf hac han
  have HRD := Lib.hid (fun W => rdop_any op W)
  have HCT := Lib.hid (fun W => ctop_any op W)
  have e0 : (st != 0) = false := bne_eq_false_iff_eq.2 hst
  rw [hr] at HRD
  clear hst hr
  have kq := (Blk.new w #[.int .i64 op, .bool qt, .bool fu, .int .i64 bad, .int .u32 (oq : Nat), .slice KA nk ck, VQ, .int .u32 (fl : Nat), .int .u32 (ex : Nat), .int .u64 (cs : Nat), .int .u64 (dl : Nat), .int .u64 (ini : Nat)] 26).alloc (.cells #[.int .i64 st, .slice VA nv cv, .int .u32 (af : Nat), .int .u64 (ac : Nat), .int .u64 (an : Nat), .slice SA ns sc, .bool cl] 29)
  have ka := Blk.new (w.alloc (.cells #[.int .i64 op, .bool qt, .bool fu, .int .i64 bad, .int .u32 (oq : Nat), .slice KA nk ck, VQ, .int .u32 (fl : Nat), .int .u32 (ex : Nat), .int .u64 (cs : Nat), .int .u64 (dl : Nat), .int .u64 (ini : Nat)] 26)) #[.int .i64 st, .slice VA nv cv, .int .u32 (af : Nat), .int .u64 (ac : Nat), .int .u64 (an : Nat), .slice SA ns sc, .bool cl] 29
  have b := below_a1' (below_a1' (Below.refl w.heap.size w) (.cells #[.int .i64 op, .bool qt, .bool fu, .int .i64 bad, .int .u32 (oq : Nat), .slice KA nk ck, VQ, .int .u32 (fl : Nat), .int .u32 (ex : Nat), .int .u64 (cs : Nat), .int .u64 (dl : Nat), .int .u64 (ini : Nat)] 26)) (.cells #[.int .i64 st, .slice VA nv cv, .int .u32 (af : Nat), .int .u64 (ac : Nat), .int .u64 (an : Nat), .slice SA ns sc, .bool cl] 29)
  rw [World.size_alloc] at ka
  unfold reqV ansV
  go_enter Try.func76, Try.ntmps76
  go_upto_region 1 with fail
  generalize (w.alloc (.cells #[.int .i64 op, .bool qt, .bool fu, .int .i64 bad, .int .u32 (oq : Nat), .slice KA nk ck, VQ, .int .u32 (fl : Nat), .int .u32 (ex : Nat), .int .u64 (cs : Nat), .int .u64 (dl : Nat), .int .u64 (ini : Nat)] 26)).alloc (.cells #[.int .i64 st, .slice VA nv cv, .int .u32 (af : Nat), .int .u64 (ac : Nat), .int .u64 (an : Nat), .slice SA ns sc, .bool cl] 29) = W0 at kq ka b ⊢
  obtain ⟨p0, p1, p2, p3, p4, p5, p6, p7, p8, p9, p10, p11⟩ := box12 kq
  obtain ⟨q0, q1, q2, q3, q4, q5, q6⟩ := box7 ka
  go_wp2_with fail
  refine (HRD.out W0).mono ?_
  rintro e w1 ⟨rfl, rfl⟩
  go_upto_region 4 with fail
  go_cut [5] (fun s5 wx => ∃ (g5 : Nat) (A5 : Option Addr) (c5 : Nat), s5 = .pointer (some ⟨g5, 0, none⟩) ∧ Blk wx g5 #[.int .i64 0, .slice A5 4 c5, .slice none 0 0, .slice VA nv cv, .int .u64 (ac : Nat)] 124 ∧ Blk wx w.heap.size #[.int .i64 op, .bool qt, .bool fu, .int .i64 bad, .int .u32 (oq : Nat), .slice KA nk ck, VQ, .int .u32 (fl : Nat), .int .u32 (ex : Nat), .int .u64 (cs : Nat), .int .u64 (dl : Nat), .int .u64 (ini : Nat)] 26 ∧ w.heap.size + 1 < g5 ∧ (∀ wy, wx.grownBy wy (some g5) → Rd wy wy.heap.size A5 4 c5 (highB af 4)) ∧ Below w.heap.size w wx)
  case first =>
    refine wp_region_noPanic ?_
    refine region_T (fun wx => Blk wx w.heap.size #[.int .i64 op, .bool qt, .bool fu, .int .i64 bad, .int .u32 (oq : Nat), .slice KA nk ck, VQ, .int .u32 (fl : Nat), .int .u32 (ex : Nat), .int .u64 (cs : Nat), .int .u64 (dl : Nat), .int .u64 (ini : Nat)] 26 ∧ Blk wx (w.heap.size + 1) #[.int .i64 st, .slice VA nv cv, .int .u32 (af : Nat), .int .u64 (ac : Nat), .int .u64 (an : Nat), .slice SA ns sc, .bool cl] 29) 10 (by kernel_rfl) ?_
    have bD : Below W0.heap.size W0 W0.drew := (Below.refl _ _).drew
    replace kq := kq.step bD
    replace ka := ka.step bD
    replace b := below_step b bD
    have hHeld := And.intro kq ka
    clear bD p0 p1 p2 p3 p4 p5 p6 p7 p8 p9 p10 p11 q0 q1 q2 q3 q4 q5 q6
    generalize W0.drew = Y0 at kq ka b hHeld ⊢
    refine takeA (i := 0) (v := ?_) rfl (fun _ _ _ h => h) (Or.inl ⟨by rfl, ?_⟩) hHeld ?_
    rotate_left
    · (intro wx hSw; obtain ⟨sa, sb⟩ := hSw; obtain ⟨a0, a1, a2, a3, a4, a5, a6, a7, a8, a9, a10, a11⟩ := box12 sa; obtain ⟨c0, c1, c2, c3, c4, c5, c6⟩ := box7 sb; go_simp; try (with_reducible rfl))
    try simp only [Act.put, List.setIfInBounds_toArray, List.set_cons_zero, List.set_cons_succ]
    refine takeA (i := 1) (v := ?_) rfl (fun _ _ _ h => h) (Or.inl ⟨by rfl, ?_⟩) hHeld ?_
    rotate_left
    · (intro wx hSw; obtain ⟨sa, sb⟩ := hSw; obtain ⟨a0, a1, a2, a3, a4, a5, a6, a7, a8, a9, a10, a11⟩ := box12 sa; obtain ⟨c0, c1, c2, c3, c4, c5, c6⟩ := box7 sb; go_simp; try (with_reducible rfl))
    try simp only [Act.put, List.setIfInBounds_toArray, List.set_cons_zero, List.set_cons_succ]
    refine takeA (i := 3) (v := ?_) rfl (fun _ _ _ h => h) (Or.inl ⟨by rfl, ?_⟩) hHeld ?_
    rotate_left
    · (intro wx hSw; obtain ⟨sa, sb⟩ := hSw; obtain ⟨a0, a1, a2, a3, a4, a5, a6, a7, a8, a9, a10, a11⟩ := box12 sa; obtain ⟨c0, c1, c2, c3, c4, c5, c6⟩ := box7 sb; go_simp; try (with_reducible rfl))
    try simp only [Act.put, List.setIfInBounds_toArray, List.set_cons_zero, List.set_cons_succ]
    refine takeA (i := 4) (v := ?_) rfl (fun _ _ _ h => h) (Or.inl ⟨by rfl, ?_⟩) hHeld ?_
    rotate_left
    · (intro wx hSw; obtain ⟨sa, sb⟩ := hSw; obtain ⟨a0, a1, a2, a3, a4, a5, a6, a7, a8, a9, a10, a11⟩ := box12 sa; obtain ⟨c0, c1, c2, c3, c4, c5, c6⟩ := box7 sb; go_simp; try (with_reducible rfl))
    try simp only [Act.put, List.setIfInBounds_toArray, List.set_cons_zero, List.set_cons_succ]
    refine takeA (i := 5) (v := ?_) rfl (fun _ _ _ h => h) (Or.inl ⟨by rfl, ?_⟩) hHeld ?_
    rotate_left
    · (intro wx hSw; obtain ⟨sa, sb⟩ := hSw; obtain ⟨a0, a1, a2, a3, a4, a5, a6, a7, a8, a9, a10, a11⟩ := box12 sa; obtain ⟨c0, c1, c2, c3, c4, c5, c6⟩ := box7 sb; go_simp; try (with_reducible rfl))
    try simp only [Act.put, List.setIfInBounds_toArray, List.set_cons_zero, List.set_cons_succ]
    refine takeA (i := 6) (v := ?_) rfl (fun _ _ _ h => h) (Or.inl ⟨by rfl, ?_⟩) hHeld ?_
    rotate_left
    · (intro wx hSw; obtain ⟨sa, sb⟩ := hSw; obtain ⟨a0, a1, a2, a3, a4, a5, a6, a7, a8, a9, a10, a11⟩ := box12 sa; obtain ⟨c0, c1, c2, c3, c4, c5, c6⟩ := box7 sb; go_simp; try (with_reducible rfl))
    try simp only [Act.put, List.setIfInBounds_toArray, List.set_cons_zero, List.set_cons_succ]
    refine twoT (i := 2) (j := 8) rfl rfl (by kernel_rfl) (fun KK hK => ?_) (fun KK hK => ?_)
    · have HP8 := Lib.hid (put32_any none 0 0 Y0.heap.size af HNUM.out.2.2.1 [] Y0 (Rd.nil _ _) (Nat.le_refl _) (by omega))
      go_simp
      refine HP8.out.mono ?_
      rintro e Y1 ⟨A5, c5, rfl, o5, b5⟩
      simp only [Nat.zero_add, List.nil_append] at o5 ⊢
      clear HP8
      have kq := kq.step b5
      have ka := ka.step b5
      have b := below_step b b5
      have hHeld := And.intro kq ka
      clear b5
      refine hK.out _ _ (fun _ => hHeld) ?_
      clear hK KK
      try simp only [Act.put, List.setIfInBounds_toArray, List.set_cons_zero, List.set_cons_succ]
      refine takeA (i := 7) (v := ?_) rfl (fun _ _ _ h => h) (Or.inl ⟨by rfl, ?_⟩) hHeld ?_
      rotate_left
      · (intro wx hSw; obtain ⟨sa, sb⟩ := hSw; obtain ⟨a0, a1, a2, a3, a4, a5, a6, a7, a8, a9, a10, a11⟩ := box12 sa; obtain ⟨c0, c1, c2, c3, c4, c5, c6⟩ := box7 sb; go_simp; try (with_reducible rfl))
      try simp only [Act.put, List.setIfInBounds_toArray, List.set_cons_zero, List.set_cons_succ]
      refine oneT (i := 8) rfl (by kernel_rfl) (fun KK hK => ?_)
      go_simp
      have ba := below_a1' (Below.refl Y1.heap.size Y1) (.cells #[.int .i64 0, .slice none 0 0, .slice none 0 0, .slice none 0 0, .int .u64 0] 124)
      have k8 := Blk.new Y1 #[.int .i64 0, .slice none 0 0, .slice none 0 0, .slice none 0 0, .int .u64 0] 124
      have hg8 := ka.lt
      have kq := kq.step ba
      have ka := ka.step ba
      have b := below_step b ba
      have r5 : ∀ wy, (Y1.alloc (.cells #[.int .i64 0, .slice none 0 0, .slice none 0 0, .slice none 0 0, .int .u64 0] 124)).grownBy wy (some Y1.heap.size) → Rd wy wy.heap.size A5 4 c5 (highB af 4) := far_rd2 o5.rd
      have hHeld := And.intro kq ka
      clear ba o5
      generalize Y1.alloc (.cells #[.int .i64 0, .slice none 0 0, .slice none 0 0, .slice none 0 0, .int .u64 0] 124) = Y2 at kq ka k8 b hHeld r5 ⊢
      generalize Y1.heap.size = g8 at k8 hg8 r5 ⊢
      refine hK.out _ _ (fun _ => hHeld) ?_
      clear hK KK
      try simp only [Act.put, List.setIfInBounds_toArray, List.set_cons_zero, List.set_cons_succ]
      obtain ⟨u0, u1, u2, u3, u4⟩ := box5 k8
      have y0 := k8.frozen 0
      have y1 := k8.frozen 1
      have y2 := k8.frozen 2
      have y3 := k8.frozen 3
      have y4 := k8.frozen 4
      refine oneT (i := 9) rfl (by kernel_rfl) (fun KK hK => ?_)
      go_simp
      refine hK.out _ _ (fun _ => ⟨kq.leftC (grown_set5 Y2 g8 (.int .i64 0) (.slice A5 4 c5) (.slice none 0 0) (.slice VA nv cv) (.int .u64 (ac : Nat))) (by omega), ka.leftC (grown_set5 Y2 g8 (.int .i64 0) (.slice A5 4 c5) (.slice none 0 0) (.slice VA nv cv) (.int .u64 (ac : Nat))) (by omega)⟩) ?_
      clear hK KK
      try simp only [Act.put, List.setIfInBounds_toArray, List.set_cons_zero, List.set_cons_succ]
      refine doneT (by kernel_rfl) ?_ _
      refine NoPanic.normal ?_
      go_wp2_with fail
      go_meet
      exact ⟨g8, A5, c5, rfl, blk_set5 k8 (.int .i64 0) (.slice A5 4 c5) (.slice none 0 0) (.slice VA nv cv) (.int .u64 (ac : Nat)), kq.leftC (grown_set5 Y2 g8 (.int .i64 0) (.slice A5 4 c5) (.slice none 0 0) (.slice VA nv cv) (.int .u64 (ac : Nat))) (by omega), hg8, fun wy h => r5 wy (grown_trans (grown_set5 Y2 g8 (.int .i64 0) (.slice A5 4 c5) (.slice none 0 0) (.slice VA nv cv) (.int .u64 (ac : Nat))) h), b.trans (below_grown (grown_set5 Y2 g8 (.int .i64 0) (.slice A5 4 c5) (.slice none 0 0) (.slice VA nv cv) (.int .u64 (ac : Nat))) (by omega) k8.lt)⟩
    · go_simp
      have ba := below_a1' (Below.refl Y0.heap.size Y0) (.cells #[.int .i64 0, .slice none 0 0, .slice none 0 0, .slice none 0 0, .int .u64 0] 124)
      have k8 := Blk.new Y0 #[.int .i64 0, .slice none 0 0, .slice none 0 0, .slice none 0 0, .int .u64 0] 124
      have hg8 := ka.lt
      have kq := kq.step ba
      have ka := ka.step ba
      have b := below_step b ba
      have hHeld := And.intro kq ka
      clear ba
      generalize Y0.alloc (.cells #[.int .i64 0, .slice none 0 0, .slice none 0 0, .slice none 0 0, .int .u64 0] 124) = Y1 at kq ka k8 b hHeld ⊢
      generalize Y0.heap.size = g8 at k8 hg8 ⊢
      refine hK.out _ _ (fun _ => hHeld) ?_
      clear hK KK
      try simp only [Act.put, List.setIfInBounds_toArray, List.set_cons_zero, List.set_cons_succ]
      have hlt := k8.lt
      refine oneT (i := 2) rfl (by kernel_rfl) (fun KK hK => ?_)
      have HP8 := Lib.hid (put32_any none 0 0 Y1.heap.size af HNUM.out.2.2.1 [] Y1 (Rd.nil _ _) (Nat.le_refl _) (by omega))
      go_simp
      refine HP8.out.mono ?_
      rintro e Y2 ⟨A5, c5, rfl, o5, b5⟩
      simp only [Nat.zero_add, List.nil_append] at o5 ⊢
      clear HP8
      have kq := kq.step b5
      have ka := ka.step b5
      have b := below_step b b5
      have k8 := k8.step b5
      have hHeld := And.intro kq ka
      clear b5
      refine hK.out _ _ (fun _ => hHeld) ?_
      clear hK KK
      try simp only [Act.put, List.setIfInBounds_toArray, List.set_cons_zero, List.set_cons_succ]
      refine takeA (i := 7) (v := ?_) rfl (fun _ _ _ h => h) (Or.inl ⟨by rfl, ?_⟩) hHeld ?_
      rotate_left
      · (intro wx hSw; obtain ⟨sa, sb⟩ := hSw; obtain ⟨a0, a1, a2, a3, a4, a5, a6, a7, a8, a9, a10, a11⟩ := box12 sa; obtain ⟨c0, c1, c2, c3, c4, c5, c6⟩ := box7 sb; go_simp; try (with_reducible rfl))
      try simp only [Act.put, List.setIfInBounds_toArray, List.set_cons_zero, List.set_cons_succ]
      obtain ⟨u0, u1, u2, u3, u4⟩ := box5 k8
      have y0 := k8.frozen 0
      have y1 := k8.frozen 1
      have y2 := k8.frozen 2
      have y3 := k8.frozen 3
      have y4 := k8.frozen 4
      refine oneT (i := 9) rfl (by kernel_rfl) (fun KK hK => ?_)
      go_simp
      refine hK.out _ _ (fun _ => ⟨kq.leftC (grown_set5 Y2 g8 (.int .i64 0) (.slice A5 4 c5) (.slice none 0 0) (.slice VA nv cv) (.int .u64 (ac : Nat))) (by omega), ka.leftC (grown_set5 Y2 g8 (.int .i64 0) (.slice A5 4 c5) (.slice none 0 0) (.slice VA nv cv) (.int .u64 (ac : Nat))) (by omega)⟩) ?_
      clear hK KK
      try simp only [Act.put, List.setIfInBounds_toArray, List.set_cons_zero, List.set_cons_succ]
      refine doneT (by kernel_rfl) ?_ _
      refine NoPanic.normal ?_
      go_wp2_with fail
      go_meet
      exact ⟨g8, A5, c5, rfl, blk_set5 k8 (.int .i64 0) (.slice A5 4 c5) (.slice none 0 0) (.slice VA nv cv) (.int .u64 (ac : Nat)), kq.leftC (grown_set5 Y2 g8 (.int .i64 0) (.slice A5 4 c5) (.slice none 0 0) (.slice VA nv cv) (.int .u64 (ac : Nat))) (by omega), hg8, fun wy h => (o5.kept (grown_trans (grown_set5 Y2 g8 (.int .i64 0) (.slice A5 4 c5) (.slice none 0 0) (.slice VA nv cv) (.int .u64 (ac : Nat))) h) hlt).rd, b.trans (below_grown (grown_set5 Y2 g8 (.int .i64 0) (.slice A5 4 c5) (.slice none 0 0) (.slice VA nv cv) (.int .u64 (ac : Nat))) (by omega) k8.lt)⟩
  case rest =>
    obtain ⟨g5, A5, c5, rfl, k5, kq, hg5, r5, b⟩ := hcut
    clear ka p0 p1 p2 p3 p4 p5 p6 p7 p8 p9 p10 p11 q0 q1 q2 q3 q4 q5 q6
    obtain ⟨p0, p1, p2, p3, p4, p5, p6, p7, p8, p9, p10, p11⟩ := box12 kq
    cases fu with
    | false =>
      have rX := r5 wc (World.grownBy.refl wc _)
      have HQ : Hid (AllQ21 Ps w (.returned (.slice (some ⟨wc.heap.size, 0, none⟩) 1 1)) (wc.alloc (.cells #[.int .i64 0, .slice A5 4 c5, .slice none 0 0, .slice VA nv cv, .int .u64 (ac : Nat)] 124))) := Lib.hid (allQ_one Ps ⟨0, A5, 4, c5, none, 0, 0, VA, nv, cv, ac, highB af 4, [], lv⟩ w wc HPS.out ⟨rX, Rd.nil _ _, (HRV.out.below b).more b.size, HNUM.out.2.2.2.1, by have := HNUM.out; show 4 + 0 + nv ≤ 9223372036854775807; omega⟩ b)
      obtain ⟨h0, h1, h2, h3, h4⟩ := box5 k5
      clear kq k5 b rX
      go_wp2_with (refine wpl_bs5 _ rfl _ rfl (.int .i64 0) (.slice A5 4 c5) (.slice none 0 0) (.slice VA nv cv) (.int .u64 (ac : Nat)) rfl ?_)
      go_ret
      exact HQ.out
    | true =>
      obtain ⟨h0, h1, h2, h3, h4⟩ := box5 k5
      have y2 := k5.frozen 2
      go_upto_region 7 with fail
      have gq := rdr_grown_set wc g5 2 (.slice KA nk ck)
      have rX := r5 _ gq
      have b' := b.trans (below_grown gq (by omega) k5.lt)
      have k5' : Blk (wc.setCell ⟨g5, 2, none⟩ (.slice KA nk ck)) g5 #[.int .i64 0, .slice A5 4 c5, .slice KA nk ck, .slice VA nv cv, .int .u64 (ac : Nat)] 124 := k5.set_ 2 _
      clear gq b y2 h0 h1 h2 h3 h4 k5 r5 kq
      generalize wc.setCell ⟨g5, 2, none⟩ (.slice KA nk ck) = W7 at rX b' k5' ⊢
      have b := b'
      have k5 := k5'
      clear b' k5' p0 p1 p2 p3 p4 p5 p6 p7 p8 p9 p10 p11
      have HQ : Hid (AllQ21 Ps w (.returned (.slice (some ⟨W7.heap.size, 0, none⟩) 1 1)) (W7.alloc (.cells #[.int .i64 0, .slice A5 4 c5, .slice KA nk ck, .slice VA nv cv, .int .u64 (ac : Nat)] 124))) := Lib.hid (allQ_one Ps ⟨0, A5, 4, c5, KA, nk, ck, VA, nv, cv, ac, highB af 4, lk, lv⟩ w W7 HPS.out ⟨rX, (HRK.out.below b).more b.size, (HRV.out.below b).more b.size, HNUM.out.2.2.2.1, by have := HNUM.out; show 4 + nk + nv ≤ 9223372036854775807; omega⟩ b)
      obtain ⟨h0, h1, h2, h3, h4⟩ := box5 k5
      clear k5 b rX
      go_wp2_with (refine wpl_bs5 _ rfl _ rfl (.int .i64 0) (.slice A5 4 c5) (.slice KA nk ck) (.slice VA nv cv) (.int .u64 (ac : Nat)) rfl ?_)
      go_ret
      exact HQ.out
end
section
open Go.RowKit
theorem wpl_conv (w : World) {ops : Array Oper} {rest : List Oper} {o : Oper} {a : Act} {Q : Exit → Act → World → Prop} (hg : Region.wanted o (yielded ops a.tmps) = true) (x : Operand) (hop : o.op = Op.convert 9 23 x) (s : ByteArray) (hs : s.size ≤ 10000000) (hx : a.eval x = .string s)
    (hK : ∀ A c w', Rd w' w'.heap.size A s.size c s.data.toList → (∀ k, obk A = some k → w.heap.size ≤ k ∧ k < w'.heap.size) → Below w.heap.size w w' → wpList Try.prog ops Q rest (a.put o.dst (.slice A s.size c)) w') : wpList Try.prog ops Q (o :: rest) a w := by
  refine wpList_want hg fun K hK' => ?_
  obtain ⟨A, c, w', hrun, h1, h2⟩ := conv_ok w s hs
  have hA : ∀ k, obk A = some k → w.heap.size ≤ k ∧ k < w'.heap.size := by
    have hr2 := run_bytes_of_string w 9 23 5 s Try.underlying9 Try.underlying23 Try.underlying5
    rw [hr2] at hrun
    injection hrun with e1 e2
    injection e1 with e1
    subst e1 e2
    intro k hk
    have hk : w.heap.size = k := Option.some.inj hk
    subst hk
    exact ⟨Nat.le_refl _, by rw [World.size_alloc]; exact Nat.lt_succ_self _⟩
  unfold Oper.wp
  simp [execOp, hop, hx, hrun, Result.andThen]
  exact hK' _ _ (hK A c w' h1 hA h2)
theorem saidfull : (Try.prog.info? 124).map (fun i => (i.size, i.bytes, i.zero.map (fun z => z.cells.size))) = some (5, 88, some 5) := by kernel_rfl
theorem saidparts2 : ∃ i z, Try.prog.info? 124 = some i ∧ i.zero = some z ∧ i.size = 5 ∧ i.bytes = 88 ∧ z.cells.size = 5 := by
  have h := saidfull
  cases hi : Try.prog.info? 124 with
  | none => rw [hi] at h; cases h
  | some i =>
    rw [hi] at h
    simp only [Option.map_some, Option.some.injEq, Prod.mk.injEq] at h
    obtain ⟨h1, h2, h3⟩ := h
    cases hz : i.zero with
    | none => rw [hz] at h3; cases h3
    | some z =>
      rw [hz] at h3
      simp only [Option.map_some, Option.some.injEq] at h3
      exact ⟨i, z, rfl, hz, h1, h2, h3⟩
theorem wpl_apS (w : World) {ops : Array Oper} {rest : List Oper} {o : Oper} {a : Act} {Q : Exit → Act → World → Prop}
    (hg : Region.wanted o (yielded ops a.tmps) = true) (s x : Operand) (hop : o.op = Op.call { callee := Callee.builtin Builtin.append, args := #[s, x], argTypes := #[116, 116] })
    (B : Nat) (A : Option Addr) (n c : Nat) (xs : List Value) (hs : a.eval s = .slice A n c) (hown : Oz w B 124 5 A n c xs)
    (B2 : Nat) (A2 : Option Addr) (m c2 : Nat) (news : List Value) (hx : a.eval x = .slice A2 m c2) (hr : Rz w B2 5 A2 m c2 news) (h1 : ∀ u ∈ news, u.oneCell' = true)
    (hbytes : n + m ≤ 200000000000) (hbase : B ≤ w.heap.size)
    (hK : ∀ A' c' w', Oz w' B 124 5 A' (n + m) c' (xs ++ news) → w.grownBy w' (obk A) → (obk A' = obk A ∨ obk A' = some w.heap.size) → wpList Try.prog ops Q rest (a.put o.dst (.slice A' (n + m) c')) w') :
    wpList Try.prog ops Q (o :: rest) a w := by
  obtain ⟨i, z, hi, hz, hsz, hby, hzs⟩ := saidparts2
  refine wpList_want hg fun K hK' => ?_
  obtain ⟨A', c', w', hrun, r1, r2, r3⟩ := run_appz (P := Try.prog) w B 116 o.type 124 i z 5 88 Try.underlying116 hi hz hsz hby hzs (by omega) A n c xs hown B2 A2 m c2 news hr h1 (by unfold maxLen; omega) (by omega) hbase
  rw [obk_eq] at r2 r3
  rw [obk_eq] at r3
  unfold Oper.wp
  simp [execOp, hop, resolve, invoke, builtin, hs, hx, hrun, Result.andThen]
  exact hK' _ _ (hK A' c' w' r1 r2 r3)
def OkF (s : Sd) (w : World) (F : Nat → Prop) : Prop := (s.X = none ∧ s.nx = 0 ∧ s.cx = 0 ∧ s.lx = []) ∧ RdF w F s.K s.nk s.ck s.lk ∧ RdF w F s.V s.nv s.cv s.lv ∧ s.cas < 18446744073709551616 ∧ s.nx + s.nk + s.nv ≤ 9223372036854775807
theorem OkF.ok {s : Sd} {w : World} {F : Nat → Prop} (h : OkF s w F) : s.Ok w := by
  obtain ⟨⟨h1, h2, h3, h4⟩, h5, h6, h7, h8⟩ := h
  refine ⟨?_, h5.1, h6.1, h7, h8⟩
  rw [h1, h2, h3, h4]
  exact Rd.nil _ _
theorem OkF.kp {s : Sd} {w w' : World} {F F' : Nat → Prop} (h : OkF s w F) {G : Nat → Prop} (hk : Kp w w' G) (hG : ∀ k, k < w.heap.size → G k → F k) (hF : ∀ k, k < w.heap.size → F' k → F k) : OkF s w' F' := ⟨h.1, h.2.1.kp hk hG hF, h.2.2.1.kp hk hG hF, h.2.2.2⟩
def statSP (p : ByteArray × ByteArray) : SP := ⟨0, 0, [], p.1.data.toList, p.2.data.toList⟩
def StR (w : World) (B : Nat) (SL : List (ByteArray × ByteArray)) (j : Nat) (OA : Option Addr) (oc : Nat) (L : List Sd) (wr : World) : Prop :=
  Oz wr B 124 5 OA j oc (L.map Sd.cells).flatten ∧ L.length = j ∧ (∀ s ∈ L, OkF s wr (fun k => obk OA = some k)) ∧ L.map Sd.sp = (SL.take j).map statSP ∧ Below w.heap.size w wr
section
variable {w wr w' : World} {B j oc : Nat} {SL : List (ByteArray × ByteArray)} {OA : Option Addr} {L : List Sd}
theorem StR.step (h : StR w B SL j OA oc L wr) (b : Below wr.heap.size wr w') : StR w B SL j OA oc L w' :=
  ⟨h.1.step b, h.2.1, fun s hs => (h.2.2.1 s hs).kp (Kp.of_below b (fun _ => False)) (fun _ _ h => h.elim) (fun _ _ h => h), h.2.2.2.1, below_step h.2.2.2.2 b⟩
theorem StR.app (h : StR w B SL j OA oc L wr) (hB : w.heap.size ≤ B) {OA' : Option Addr} {oc' : Nat} {s : Sd} {Ps : List SP} (ho : Oz w' B 124 5 OA' (j + 1) oc' ((L.map Sd.cells).flatten ++ s.cells)) (gg : wr.grownBy w' (obk OA)) (hA : obk OA' = obk OA ∨ obk OA' = some wr.heap.size) (hs : OkF s wr (fun k => obk OA = some k)) (hP : (SL.take j).map statSP ++ [s.sp] = Ps) :
    Oz w' B 124 5 OA' (j + 1) oc' ((L ++ [s]).map Sd.cells).flatten ∧ (L ++ [s]).length = j + 1 ∧ (∀ x ∈ L ++ [s], OkF x w' (fun k => obk OA' = some k)) ∧ (L ++ [s]).map Sd.sp = Ps ∧ Below w.heap.size w w' := by
  have hk := Kp.of_row gg
  have hlo := h.1.at'
  have hF : ∀ k, k < wr.heap.size → obk OA' = some k → obk OA = some k := fun k hl h => by
    rcases hA with e | e
    · rw [← e]; exact h
    · rw [e] at h; injection h with h; omega
  refine ⟨by rw [List.map_append, List.flatten_append]; simpa using ho, by rw [List.length_append, h.2.1]; rfl, fun x hx => ?_, by rw [List.map_append, h.2.2.2.1]; exact hP, h.2.2.2.2.trans (hk.below (fun k e => ?_) h.2.2.2.2.size)⟩
  · rcases List.mem_append.1 hx with hx | hx
    · exact (h.2.2.1 x hx).kp hk (fun k _ e => e.symm) hF
    · rw [List.mem_singleton] at hx
      subst hx
      exact hs.kp hk (fun k _ e => e.symm) hF
  · have := (hlo k (by rw [obk_eq]; exact e.symm)).1
    omega
end
set_option maxRecDepth 100000 in
set_option maxHeartbeats 8000000 in
theorem all_stat (op : Int) (qt fu : Bool) (bad : Int) (oq : Nat) (KA : Option Addr) (nk ck : Nat) (VQ : Value) (fl ex cs dl ini : Nat) (st : Int) (VA : Option Addr) (nv cv af ac an : Nat) (SA : Option Addr) (ns sc : Nat) (SL : List (ByteArray × ByteArray)) (cl : Bool) (w : World) (rS : Rz w w.heap.size 2 SA ns sc (SL.map stCells).flatten) (hsl : SL.length = ns) (hns : ns ≤ 1000) (hsz : ∀ p ∈ SL, p.1.size ≤ 10000 ∧ p.2.size ≤ 10000) (hst : st = 0) (hr : isRead op = false) (hc : isCount op = false) (h16 : op = 16) (Ps : List SP) (hPs : SL.map statSP ++ [(⟨0, 0, [], [], []⟩ : SP)] = Ps) : Calls Try.prog 76 #[reqV op qt fu bad oq (.slice KA nk ck) VQ fl ex cs dl ini, ansV st (.slice VA nv cv) af ac an (.slice SA ns sc) cl] w (AllQ21 Ps w) := by
  have HPS := Lib.hid hPs
  clear hPs
  have HRD := Lib.hid (fun W => rdop_any op W)
  have HCT := Lib.hid (fun W => ctop_any op W)
  have HRS := Lib.hid rS
  have HSL := Lib.hid hsl
  have HNS := Lib.hid hns
  have HSZ := Lib.hid hsz
  clear rS hsl hns hsz
  have e0 : (st != 0) = false := bne_eq_false_iff_eq.2 hst
  rw [hr] at HRD
  rw [hc] at HCT
  clear hst hr hc
  have e1 : (op == 11) = false := beq_eq_false_iff_ne.2 (by omega)
  have e2 : (op == 16) = true := beq_iff_eq.2 h16
  clear h16
  have kq := (Blk.new w #[.int .i64 op, .bool qt, .bool fu, .int .i64 bad, .int .u32 (oq : Nat), .slice KA nk ck, VQ, .int .u32 (fl : Nat), .int .u32 (ex : Nat), .int .u64 (cs : Nat), .int .u64 (dl : Nat), .int .u64 (ini : Nat)] 26).alloc (.cells #[.int .i64 st, .slice VA nv cv, .int .u32 (af : Nat), .int .u64 (ac : Nat), .int .u64 (an : Nat), .slice SA ns sc, .bool cl] 29)
  have ka := Blk.new (w.alloc (.cells #[.int .i64 op, .bool qt, .bool fu, .int .i64 bad, .int .u32 (oq : Nat), .slice KA nk ck, VQ, .int .u32 (fl : Nat), .int .u32 (ex : Nat), .int .u64 (cs : Nat), .int .u64 (dl : Nat), .int .u64 (ini : Nat)] 26)) #[.int .i64 st, .slice VA nv cv, .int .u32 (af : Nat), .int .u64 (ac : Nat), .int .u64 (an : Nat), .slice SA ns sc, .bool cl] 29
  have b := below_a1' (below_a1' (Below.refl w.heap.size w) (.cells #[.int .i64 op, .bool qt, .bool fu, .int .i64 bad, .int .u32 (oq : Nat), .slice KA nk ck, VQ, .int .u32 (fl : Nat), .int .u32 (ex : Nat), .int .u64 (cs : Nat), .int .u64 (dl : Nat), .int .u64 (ini : Nat)] 26)) (.cells #[.int .i64 st, .slice VA nv cv, .int .u32 (af : Nat), .int .u64 (ac : Nat), .int .u64 (an : Nat), .slice SA ns sc, .bool cl] 29)
  rw [World.size_alloc] at ka
  unfold reqV ansV
  go_enter Try.func76, Try.ntmps76
  go_upto_region 1 with fail
  generalize (w.alloc (.cells #[.int .i64 op, .bool qt, .bool fu, .int .i64 bad, .int .u32 (oq : Nat), .slice KA nk ck, VQ, .int .u32 (fl : Nat), .int .u32 (ex : Nat), .int .u64 (cs : Nat), .int .u64 (dl : Nat), .int .u64 (ini : Nat)] 26)).alloc (.cells #[.int .i64 st, .slice VA nv cv, .int .u32 (af : Nat), .int .u64 (ac : Nat), .int .u64 (an : Nat), .slice SA ns sc, .bool cl] 29) = W0 at kq ka b ⊢
  obtain ⟨p0, p1, p2, p3, p4, p5, p6, p7, p8, p9, p10, p11⟩ := box12 kq
  obtain ⟨q0, q1, q2, q3, q4, q5, q6⟩ := box7 ka
  go_wp2_with fail
  refine (HRD.out W0).mono ?_
  rintro e w1 ⟨rfl, rfl⟩
  go_wp2_with fail
  refine (HCT.out W0).mono ?_
  rintro e w1 ⟨rfl, rfl⟩
  go_wp2_with fail
  clear p0 p1 p2 p3 p4 p5 p6 p7 p8 p9 p10 p11 q0 q1 q2 q3 q4 q5 q6
  have hlt0 := ka.lt
  have hS0 : StR w (w.heap.size + 2) SL 0 none 0 [] W0 := ⟨Oz.nil _ _ _ _, rfl, (fun _ h => by cases h), rfl, b⟩
  clear kq ka b
  go_loopw [6, 66] (fun s6 s66 wr => ∃ (j : Nat) (OA : Option Addr) (oc : Nat) (L : List Sd), j ≤ ns ∧ s66 = .int .i64 (j : Nat) ∧ s6 = .slice OA j oc ∧ w.heap.size + 2 ≤ wr.heap.size ∧ StR w (w.heap.size + 2) SL j OA oc L wr) (fun _ s66 _ => ns - (intOf s66).toNat)
  case atStart => exact ⟨0, none, 0, [], Nat.zero_le _, rfl, rfl, hlt0, hS0⟩
  case round =>
    clear hS0 hlt0
    obtain ⟨j, OA, oc, L, hj, rfl, rfl, hwz, hS⟩ := hrel
    have HWZ := Lib.hid hwz
    by_cases hlt : j < ns
    · obtain ⟨ad, p, hA, hp, h0, h1⟩ := stat_at (HRS.out.below hS.2.2.2.2) (j := j) hlt
      subst hA
      have hlt' : ((j : Int) < (ns : Int)) = True := eq_true (by omega)
      have HLT : Hid (j + 1 ≤ ns) := Lib.hid (by omega)
      have HJP : IntKind.i64.wrap ((j : Int) + 1) = (j : Int) + 1 := IntWalk.i64_in _ (by have := HNS.out; omega)
      have HSN : Hid ((SL.take j).map statSP ++ [statSP p] = (SL.take (j + 1)).map statSP) := Lib.hid (by rw [List.take_add_one, hp, List.map_append]; rfl)
      have hpz := HSZ.out p (List.mem_of_getElem? hp)
      obtain ⟨s1, s2⟩ := p
      simp only at h0 h1 hpz
      obtain ⟨hz1, hz2⟩ := hpz
      clear hlt hp hj
      go_upto_region 17 with (first | refine wpl_loadSt rfl _ rfl (ad.add (j * 2)) (by rfl) s1 s2 h0 h1 ?_)
      have k8 := Blk.new wr #[.string s1, .string s2] 96
      have ba := below_a1' (Below.refl wr.heap.size wr) (.cells #[.string s1, .string s2] 96)
      replace hS := hS.step ba
      have hwz := Nat.le_trans HWZ.out ba.size
      clear ba h0 h1
      generalize wr.alloc (.cells #[.string s1, .string s2] 96) = W3 at hS k8 hwz ⊢
      generalize wr.heap.size = g8 at k8 ⊢
      obtain ⟨x0, x1⟩ := box2 k8
      go_wp2_with (refine wpl_conv _ rfl _ rfl s1 (by omega) rfl ?_)
      intro A5 c5 w5 r5 hA5 b5
      have ob5 := fun k h => (hS.1.at' k h).2
      have rF5 : RdF w5 (fun k => obk OA = some k) A5 s1.size c5 s1.data.toList := ⟨r5, fun k hk => ⟨(hA5 k hk).2, fun h => by have := ob5 k (by rw [obk_eq]; exact h); have := (hA5 k hk).1; omega⟩⟩
      replace hS := hS.step b5
      replace k8 := k8.step b5
      have hwz := Nat.le_trans hwz b5.size
      clear b5 r5 hA5 ob5 x0 x1
      obtain ⟨x0, x1⟩ := box2 k8
      go_wp2_with (refine wpl_conv _ rfl _ rfl s2 (by omega) rfl ?_)
      intro A6 c6 w6 r6 hA6 b6
      have ob6 := fun k h => (hS.1.at' k h).2
      have rF6 : RdF w6 (fun k => obk OA = some k) A6 s2.size c6 s2.data.toList := ⟨r6, fun k hk => ⟨(hA6 k hk).2, fun h => by have := ob6 k (by rw [obk_eq]; exact h); have := (hA6 k hk).1; omega⟩⟩
      replace hS := hS.step b6
      replace rF5 := rF5.kp (Kp.of_below b6 (fun _ => False)) (fun _ _ h => h.elim) (fun _ _ h => h)
      have hwz := Nat.le_trans hwz b6.size
      clear b6 r6 hA6 ob6 x0 x1 k8
      have rn := Rz.new1 w6 #[.int .i64 0, .slice none 0 0, .slice A5 s1.size c5, .slice A6 s2.size c6, .int .u64 0] 124 5 rfl
      have ba := below_a1' (Below.refl w6.heap.size w6) (.cells #[.int .i64 0, .slice none 0 0, .slice A5 s1.size c5, .slice A6 s2.size c6, .int .u64 0] 124)
      have hSa := hS.step ba
      have rF5a := rF5.kp (Kp.of_below ba (fun _ => False)) (fun _ _ h => h.elim) (fun _ _ h => (show (fun k => obk OA = some k) _ from h))
      have rF6a := rF6.kp (Kp.of_below ba (fun _ => False)) (fun _ _ h => h.elim) (fun _ _ h => (show (fun k => obk OA = some k) _ from h))
      have hwza := Nat.le_trans hwz ba.size
      have hj1 := HLT.out
      have hn1 := HNS.out
      clear hS rF5 rF6 ba
      go_wp2_with (first | refine wpl_bs5 _ rfl _ rfl (.int .i64 0) (.slice none 0 0) (.slice A5 s1.size c5) (.slice A6 s2.size c6) (.int .u64 0) rfl ?_ | (at_builtin; refine wpl_apS _ rfl _ _ rfl (w.heap.size + 2) OA j oc (L.map Sd.cells).flatten rfl hSa.1 _ _ 1 1 _ rfl rn (by intro u hu; simp at hu; rcases hu with rfl | rfl | rfl | rfl | rfl <;> rfl) (by omega) hwza ?_))
      intro OA' oc' w7 o7 gg hA7
      have hS7 := hSa.app (s := ⟨0, none, 0, 0, A5, s1.size, c5, A6, s2.size, c6, 0, [], s1.data.toList, s2.data.toList⟩) (by omega) o7 gg (by rw [World.size_alloc]; exact hA7) ⟨⟨rfl, rfl, rfl, rfl⟩, rF5a, rF6a, by show 0 < 18446744073709551616; omega, by show 0 + s1.size + s2.size ≤ 9223372036854775807; omega⟩ HSN.out
      have hwz7 := Nat.le_trans hwza gg.size
      clear hSa rn rF5a rF6a gg hA7 o7 hwza hwz HWZ
      go_wp2_with fail
      go_roundw
      case rel => exact ⟨j + 1, OA', oc', _, HLT.out, by first | rfl | go_num, rfl, hwz7, hS7⟩
      case measure => have := HLT.out; simp [intOf]; omega
    · obtain rfl : j = ns := by omega
      have hlt' : ((j : Int) < (j : Int)) = False := eq_false (by omega)
      have HPE : Hid ((SL.take j).map statSP ++ [(⟨0, 0, [], [], []⟩ : SP)] = Ps) := Lib.hid (by rw [List.take_of_length_le (by rw [HSL.out]; exact Nat.le_refl _)]; exact HPS.out)
      have rn := Rz.new1 wr #[.int .i64 0, .slice none 0 0, .slice none 0 0, .slice none 0 0, .int .u64 0] 124 5 rfl
      have ba := below_a1' (Below.refl wr.heap.size wr) (.cells #[.int .i64 0, .slice none 0 0, .slice none 0 0, .slice none 0 0, .int .u64 0] 124)
      have hSa := hS.step ba
      have hwza := Nat.le_trans hwz ba.size
      have hn1 := HNS.out
      clear hlt hj hS ba
      go_wp2_with (first | refine wpl_bs5 _ rfl _ rfl (.int .i64 0) (.slice none 0 0) (.slice none 0 0) (.slice none 0 0) (.int .u64 0) rfl ?_ | (at_builtin; refine wpl_apS _ rfl _ _ rfl (w.heap.size + 2) OA j oc (L.map Sd.cells).flatten rfl hSa.1 _ _ 1 1 _ rfl rn (by intro u hu; simp at hu; rcases hu with rfl | rfl | rfl <;> rfl) (by omega) hwza ?_))
      intro OA' oc' w7 o7 gg hA7
      have hS7 := hSa.app (s := ⟨0, none, 0, 0, none, 0, 0, none, 0, 0, 0, [], [], []⟩) (by omega) o7 gg (by rw [World.size_alloc]; exact hA7) ⟨⟨rfl, rfl, rfl, rfl⟩, ⟨Rd.nil _ _, fun k h => by cases h⟩, ⟨Rd.nil _ _, fun k h => by cases h⟩, by show 0 < 18446744073709551616; omega, by show 0 + 0 + 0 ≤ 9223372036854775807; omega⟩ HPE.out
      have HQ : Hid (AllQ21 Ps w (.returned (.slice OA' (j + 1) oc')) w7) := Lib.hid (by have h2 := hS7.2.1; have h1 := hS7.1; rw [← h2] at h1 ⊢; exact ⟨_, OA', oc', rfl, h1.rz, fun s hs => (hS7.2.2.1 s hs).ok, hS7.2.2.2.1, hS7.2.2.2.2⟩)
      clear hSa hS7 rn gg hA7 o7 hwza
      go_wp2_with fail
      go_ret
      exact HQ.out
end
section
open Go.RowKit
def SP.bytes (cb oq : Nat) (p : SP) : List UInt8 := hdB 129 cb p.lk.length p.lx.length 0 (p.st % 65536).toNat (p.lx.length + p.lk.length + p.lv.length) oq p.cas ++ p.lx ++ p.lk ++ p.lv
def SP.fits (p : SP) : Prop := ¬ tooLong p.lx.length p.lk.length p.lv.length
def spB (cb oq : Nat) (Ps : List SP) : List UInt8 := (Ps.map (SP.bytes cb oq)).flatten
theorem sd_bytes {s : Sd} {w : World} (h : s.Ok w) (cb oq : Nat) : s.bytes cb oq = s.sp.bytes cb oq := by
  obtain ⟨h1, h2, h3, -⟩ := h
  unfold Sd.bytes SP.bytes Sd.sp
  rw [← h1.len, ← h2.len, ← h3.len]
theorem sd_fits {s : Sd} {w : World} (h : s.Ok w) : s.fits ↔ s.sp.fits := by
  obtain ⟨h1, h2, h3, -⟩ := h
  unfold Sd.fits SP.fits Sd.sp
  rw [← h1.len, ← h2.len, ← h3.len]
theorem sd_all {L : List Sd} {w : World} (h : ∀ s ∈ L, s.Ok w) (cb oq : Nat) : putB cb oq L = spB cb oq (L.map Sd.sp) := by
  unfold putB spB
  rw [List.map_map]
  congr 1
  exact List.map_congr_left fun s hs => sd_bytes (h s hs) cb oq
theorem sd_allf {L : List Sd} {w : World} (h : ∀ s ∈ L, s.Ok w) : (∀ s ∈ L, s.fits) ↔ ∀ p ∈ L.map Sd.sp, p.fits := by
  constructor
  · intro hf p hp
    obtain ⟨s, hs, rfl⟩ := List.mem_map.1 hp
    exact (sd_fits (h s hs)).1 (hf s hs)
  · intro hf s hs
    exact (sd_fits (h s hs)).2 (hf _ (List.mem_map.2 ⟨s, hs, rfl⟩))
theorem all_any (op : Int) (qt fu : Bool) (bad : Int) (oq : Nat) (KA : Option Addr) (nk ck : Nat) (lk : List UInt8) (VQ : Value) (fl ex cs dl ini : Nat) (st : Int) (VA : Option Addr) (nv cv : Nat) (lv : List UInt8) (af ac an : Nat) (SA : Option Addr) (ns sc : Nat) (SL : List (ByteArray × ByteArray)) (cl : Bool) (w : World) (rK : Rd w w.heap.size KA nk ck lk) (rV : Rd w w.heap.size VA nv cv lv) (rS : Rz w w.heap.size 2 SA ns sc (SL.map stCells).flatten) (hsl : SL.length = ns) (hnk : nk ≤ 1000000) (haf : af < 4294967296) (hac : ac < 18446744073709551616) (han : an < 18446744073709551616) (hnv : nv ≤ 1000000) (hns : ns ≤ 1000) (hsz : ∀ p ∈ SL, p.1.size ≤ 10000 ∧ p.2.size ≤ 10000) : Calls Try.prog 76 #[reqV op qt fu bad oq (.slice KA nk ck) VQ fl ex cs dl ini, ansV st (.slice VA nv cv) af ac an (.slice SA ns sc) cl] w (AllQ21 (allP op fu st af ac an lk lv SL) w) := by
  unfold allP
  by_cases hst : st = 0
  · rw [if_neg (by simpa using hst)]
    cases hr : isRead op with
    | true => exact all_get op qt fu bad oq KA nk ck lk VQ fl ex cs dl ini st VA nv cv lv af ac an SA ns sc SL cl w rK rV hnk hnv haf hac han hst hr _ rfl
    | false =>
      rw [if_neg (by decide)]
      cases hc : isCount op with
      | true => exact all_cnt op qt fu bad oq KA nk ck lk VQ fl ex cs dl ini st VA nv cv lv af ac an SA ns sc SL cl w rK rV hnk hnv haf hac han hst hr hc _ rfl
      | false =>
        rw [if_neg (by decide)]
        by_cases h11 : op = 11
        · rw [if_pos h11]
          exact all_ver op qt fu bad oq KA nk ck lk VQ fl ex cs dl ini st VA nv cv lv af ac an SA ns sc SL cl w rK rV hnk hnv haf hac han hst hr hc h11 _ rfl
        · rw [if_neg h11]
          by_cases h16 : op = 16
          · rw [if_pos h16]
            exact all_stat op qt fu bad oq KA nk ck VQ fl ex cs dl ini st VA nv cv af ac an SA ns sc SL cl w rS hsl hns hsz hst hr hc h16 _ rfl
          · rw [if_neg h16]
            exact all_oth op qt fu bad oq KA nk ck lk VQ fl ex cs dl ini st VA nv cv lv af ac an SA ns sc SL cl w rK rV hnk hnv haf hac han hst hr hc h11 h16 _ rfl
  · rw [if_pos hst]
    exact all_st op qt fu bad oq KA nk ck lk VQ fl ex cs dl ini st VA nv cv lv af ac an SA ns sc SL cl w rK rV hnk hnv haf hac han hst _ rfl
instance (p : SP) : Decidable p.fits := by unfold SP.fits tooLong; infer_instance
def ofR (op : Int) (qt fu : Bool) (oq : Nat) (st : Int) (nv af ac an ns : Nat) (lk lv : List UInt8) (SL : List (ByteArray × ByteArray)) : List UInt8 × Int :=
  if wrongA st op nv af ac an ns SL = true then ([], 2) else if silB op qt st = true then ([], 0)
  else if ∀ p ∈ allP op fu st af ac an lk lv SL, p.fits then (spB (codeB op qt fu) oq (allP op fu st af ac an lk lv SL), 0) else ([], 2)
def OfQ (r : List UInt8 × Int) (w : World) (e : Ending) (w' : World) : Prop := ∃ (N : Nat) (A : Option Addr) (c : Nat), e = .returned (.tuple #[.slice A N c, .int .i64 r.2]) ∧ Own w' w.heap.size A N c r.1 ∧ Below w.heap.size w w'
theorem wrong_lens {st op : Int} {nv af ac an ns : Nat} {SL : List (ByteArray × ByteArray)} (h : wrongA st op nv af ac an ns SL = false) : nv ≤ 512 ∧ ns ≤ 16 ∧ ∀ p ∈ SL, p.1.size ≤ 250 ∧ p.2.size ≤ 512 := by
  unfold wrongA at h
  rw [Bool.or_eq_false_iff, Bool.or_eq_false_iff, Bool.or_eq_false_iff] at h
  obtain ⟨⟨⟨-, h1⟩, h2⟩, h3⟩ := h
  have h1 := of_decide_eq_false h1
  have h2 := of_decide_eq_false h2
  refine ⟨by omega, by omega, fun p hp => ?_⟩
  have h4 : badStat p = false := by
    cases hb : badStat p with
    | false => rfl
    | true => rw [List.any_eq_true.2 ⟨p, hp, hb⟩] at h3; cases h3
  unfold badStat at h4
  rw [Bool.or_eq_false_iff, Bool.or_eq_false_iff] at h4
  have h5 := of_decide_eq_false h4.1.2
  have h6 := of_decide_eq_false h4.2
  omega
theorem allP_len (op : Int) (fu : Bool) (st : Int) (af ac an : Nat) (lk lv : List UInt8) (SL : List (ByteArray × ByteArray)) (h : SL.length ≤ 16) : (allP op fu st af ac an lk lv SL).length ≤ 17 := by
  unfold allP
  repeat' split
  all_goals simp
  all_goals omega
set_option maxRecDepth 100000 in
set_option maxHeartbeats 4000000 in
theorem of_wrong (op : Int) (qt fu : Bool) (bad : Int) (oq : Nat) (KA : Option Addr) (nk ck : Nat) (lk : List UInt8) (VQ : Value) (fl ex cs dl ini : Nat) (st : Int) (VA : Option Addr) (nv cv : Nat) (lv : List UInt8) (af ac an : Nat) (SA : Option Addr) (ns sc : Nat) (SL : List (ByteArray × ByteArray)) (cl : Bool) (w : World) (rK : Rd w w.heap.size KA nk ck lk) (rV : Rd w w.heap.size VA nv cv lv) (rS : Rz w w.heap.size 2 SA ns sc (SL.map stCells).flatten) (hsl : SL.length = ns) (hnk : nk ≤ 1000000) (haf : af < 4294967296) (hac : ac < 18446744073709551616) (han : an < 18446744073709551616) (hns : ns ≤ 9223372036854775800) (hoq : oq < 4294967296) (hw : wrongA st op nv af ac an ns SL = true) : Calls Try.prog 22 #[reqV op qt fu bad oq (.slice KA nk ck) VQ fl ex cs dl ini, ansV st (.slice VA nv cv) af ac an (.slice SA ns sc) cl] w (OfQ ([], 2) w) := by
  have HCK := Lib.hid (fun W (b : Below w.heap.size w W) => check_any op qt fu bad oq (.slice KA nk ck) VQ fl ex cs dl ini st VA nv cv af ac an SA ns sc cl SL W ((rS.below b).more b.size) hns hsl)
  have HSI := Lib.hid (fun W => silent_any op qt fu bad oq (.slice KA nk ck) VQ fl ex cs dl ini st VA nv cv af ac an SA ns sc cl W)
  unfold reqV ansV at HCK HSI
  rw [hw] at HCK
  clear hw rK rV rS hsl hnk haf hac han hns
  have kq := (Blk.new w #[.int .i64 op, .bool qt, .bool fu, .int .i64 bad, .int .u32 (oq : Nat), .slice KA nk ck, VQ, .int .u32 (fl : Nat), .int .u32 (ex : Nat), .int .u64 (cs : Nat), .int .u64 (dl : Nat), .int .u64 (ini : Nat)] 26).alloc (.cells #[.int .i64 st, .slice VA nv cv, .int .u32 (af : Nat), .int .u64 (ac : Nat), .int .u64 (an : Nat), .slice SA ns sc, .bool cl] 29)
  have ka := Blk.new (w.alloc (.cells #[.int .i64 op, .bool qt, .bool fu, .int .i64 bad, .int .u32 (oq : Nat), .slice KA nk ck, VQ, .int .u32 (fl : Nat), .int .u32 (ex : Nat), .int .u64 (cs : Nat), .int .u64 (dl : Nat), .int .u64 (ini : Nat)] 26)) #[.int .i64 st, .slice VA nv cv, .int .u32 (af : Nat), .int .u64 (ac : Nat), .int .u64 (an : Nat), .slice SA ns sc, .bool cl] 29
  have b := below_a1' (below_a1' (Below.refl w.heap.size w) (.cells #[.int .i64 op, .bool qt, .bool fu, .int .i64 bad, .int .u32 (oq : Nat), .slice KA nk ck, VQ, .int .u32 (fl : Nat), .int .u32 (ex : Nat), .int .u64 (cs : Nat), .int .u64 (dl : Nat), .int .u64 (ini : Nat)] 26)) (.cells #[.int .i64 st, .slice VA nv cv, .int .u32 (af : Nat), .int .u64 (ac : Nat), .int .u64 (an : Nat), .slice SA ns sc, .bool cl] 29)
  rw [World.size_alloc] at ka
  unfold reqV ansV
  go_enter Try.func22, Try.ntmps22
  go_upto_region 1 with fail
  generalize (w.alloc (.cells #[.int .i64 op, .bool qt, .bool fu, .int .i64 bad, .int .u32 (oq : Nat), .slice KA nk ck, VQ, .int .u32 (fl : Nat), .int .u32 (ex : Nat), .int .u64 (cs : Nat), .int .u64 (dl : Nat), .int .u64 (ini : Nat)] 26)).alloc (.cells #[.int .i64 st, .slice VA nv cv, .int .u32 (af : Nat), .int .u64 (ac : Nat), .int .u64 (an : Nat), .slice SA ns sc, .bool cl] 29) = W0 at kq ka b ⊢
  obtain ⟨p0, p1, p2, p3, p4, p5, p6, p7, p8, p9, p10, p11⟩ := box12 kq
  obtain ⟨q0, q1, q2, q3, q4, q5, q6⟩ := box7 ka
  go_wp2_with fail
  refine (HCK.out W0 b).mono ?_
  rintro e w1 ⟨rfl, b1⟩
  replace b := below_step b b1
  go_wp2_with fail
  go_ret2
  exact ⟨0, none, 0, rfl, Own.nil _ _, b⟩
set_option maxRecDepth 100000 in
set_option maxHeartbeats 4000000 in
theorem of_sil (op : Int) (qt fu : Bool) (bad : Int) (oq : Nat) (KA : Option Addr) (nk ck : Nat) (lk : List UInt8) (VQ : Value) (fl ex cs dl ini : Nat) (st : Int) (VA : Option Addr) (nv cv : Nat) (lv : List UInt8) (af ac an : Nat) (SA : Option Addr) (ns sc : Nat) (SL : List (ByteArray × ByteArray)) (cl : Bool) (w : World) (rK : Rd w w.heap.size KA nk ck lk) (rV : Rd w w.heap.size VA nv cv lv) (rS : Rz w w.heap.size 2 SA ns sc (SL.map stCells).flatten) (hsl : SL.length = ns) (hnk : nk ≤ 1000000) (haf : af < 4294967296) (hac : ac < 18446744073709551616) (han : an < 18446744073709551616) (hns : ns ≤ 9223372036854775800) (hoq : oq < 4294967296) (hw : wrongA st op nv af ac an ns SL = false) (hs : silB op qt st = true) : Calls Try.prog 22 #[reqV op qt fu bad oq (.slice KA nk ck) VQ fl ex cs dl ini, ansV st (.slice VA nv cv) af ac an (.slice SA ns sc) cl] w (OfQ ([], 0) w) := by
  have HCK := Lib.hid (fun W (b : Below w.heap.size w W) => check_any op qt fu bad oq (.slice KA nk ck) VQ fl ex cs dl ini st VA nv cv af ac an SA ns sc cl SL W ((rS.below b).more b.size) hns hsl)
  have HSI := Lib.hid (fun W => silent_any op qt fu bad oq (.slice KA nk ck) VQ fl ex cs dl ini st VA nv cv af ac an SA ns sc cl W)
  unfold reqV ansV at HCK HSI
  rw [hw] at HCK
  rw [hs] at HSI
  clear hw hs rK rV rS hsl hnk haf hac han hns
  have kq := (Blk.new w #[.int .i64 op, .bool qt, .bool fu, .int .i64 bad, .int .u32 (oq : Nat), .slice KA nk ck, VQ, .int .u32 (fl : Nat), .int .u32 (ex : Nat), .int .u64 (cs : Nat), .int .u64 (dl : Nat), .int .u64 (ini : Nat)] 26).alloc (.cells #[.int .i64 st, .slice VA nv cv, .int .u32 (af : Nat), .int .u64 (ac : Nat), .int .u64 (an : Nat), .slice SA ns sc, .bool cl] 29)
  have ka := Blk.new (w.alloc (.cells #[.int .i64 op, .bool qt, .bool fu, .int .i64 bad, .int .u32 (oq : Nat), .slice KA nk ck, VQ, .int .u32 (fl : Nat), .int .u32 (ex : Nat), .int .u64 (cs : Nat), .int .u64 (dl : Nat), .int .u64 (ini : Nat)] 26)) #[.int .i64 st, .slice VA nv cv, .int .u32 (af : Nat), .int .u64 (ac : Nat), .int .u64 (an : Nat), .slice SA ns sc, .bool cl] 29
  have b := below_a1' (below_a1' (Below.refl w.heap.size w) (.cells #[.int .i64 op, .bool qt, .bool fu, .int .i64 bad, .int .u32 (oq : Nat), .slice KA nk ck, VQ, .int .u32 (fl : Nat), .int .u32 (ex : Nat), .int .u64 (cs : Nat), .int .u64 (dl : Nat), .int .u64 (ini : Nat)] 26)) (.cells #[.int .i64 st, .slice VA nv cv, .int .u32 (af : Nat), .int .u64 (ac : Nat), .int .u64 (an : Nat), .slice SA ns sc, .bool cl] 29)
  rw [World.size_alloc] at ka
  unfold reqV ansV
  go_enter Try.func22, Try.ntmps22
  go_upto_region 1 with fail
  generalize (w.alloc (.cells #[.int .i64 op, .bool qt, .bool fu, .int .i64 bad, .int .u32 (oq : Nat), .slice KA nk ck, VQ, .int .u32 (fl : Nat), .int .u32 (ex : Nat), .int .u64 (cs : Nat), .int .u64 (dl : Nat), .int .u64 (ini : Nat)] 26)).alloc (.cells #[.int .i64 st, .slice VA nv cv, .int .u32 (af : Nat), .int .u64 (ac : Nat), .int .u64 (an : Nat), .slice SA ns sc, .bool cl] 29) = W0 at kq ka b ⊢
  obtain ⟨p0, p1, p2, p3, p4, p5, p6, p7, p8, p9, p10, p11⟩ := box12 kq
  obtain ⟨q0, q1, q2, q3, q4, q5, q6⟩ := box7 ka
  go_wp2_with fail
  refine (HCK.out W0 b).mono ?_
  rintro e w1 ⟨rfl, b1⟩
  clear p0 p1 p2 p3 p4 p5 p6 p7 p8 p9 p10 p11 q0 q1 q2 q3 q4 q5 q6
  replace kq := kq.step b1
  replace ka := ka.step b1
  replace b := below_step b b1
  clear b1
  obtain ⟨p0, p1, p2, p3, p4, p5, p6, p7, p8, p9, p10, p11⟩ := box12 kq
  obtain ⟨q0, q1, q2, q3, q4, q5, q6⟩ := box7 ka
  go_wp2_with fail
  refine (HSI.out w1).mono ?_
  rintro e w2 ⟨rfl, b1⟩
  replace b := below_step b b1
  go_wp2_with fail
  go_ret2
  exact ⟨0, none, 0, rfl, Own.nil _ _, b⟩
set_option maxRecDepth 100000 in
set_option maxHeartbeats 4000000 in
theorem of_put (op : Int) (qt fu : Bool) (bad : Int) (oq : Nat) (KA : Option Addr) (nk ck : Nat) (lk : List UInt8) (VQ : Value) (fl ex cs dl ini : Nat) (st : Int) (VA : Option Addr) (nv cv : Nat) (lv : List UInt8) (af ac an : Nat) (SA : Option Addr) (ns sc : Nat) (SL : List (ByteArray × ByteArray)) (cl : Bool) (w : World) (rK : Rd w w.heap.size KA nk ck lk) (rV : Rd w w.heap.size VA nv cv lv) (rS : Rz w w.heap.size 2 SA ns sc (SL.map stCells).flatten) (hsl : SL.length = ns) (hnk : nk ≤ 1000000) (haf : af < 4294967296) (hac : ac < 18446744073709551616) (han : an < 18446744073709551616) (hns : ns ≤ 9223372036854775800) (hoq : oq < 4294967296) (hw : wrongA st op nv af ac an ns SL = false) (hs : silB op qt st = false) : Calls Try.prog 22 #[reqV op qt fu bad oq (.slice KA nk ck) VQ fl ex cs dl ini, ansV st (.slice VA nv cv) af ac an (.slice SA ns sc) cl] w (OfQ (if ∀ p ∈ allP op fu st af ac an lk lv SL, p.fits then (spB (codeB op qt fu) oq (allP op fu st af ac an lk lv SL), 0) else ([], 2)) w) := by
  obtain ⟨wl1, wl2, wl3⟩ := wrong_lens hw
  have HCK := Lib.hid (fun W (b : Below w.heap.size w W) => check_any op qt fu bad oq (.slice KA nk ck) VQ fl ex cs dl ini st VA nv cv af ac an SA ns sc cl SL W ((rS.below b).more b.size) hns hsl)
  have HSI := Lib.hid (fun W => silent_any op qt fu bad oq (.slice KA nk ck) VQ fl ex cs dl ini st VA nv cv af ac an SA ns sc cl W)
  unfold reqV ansV at HCK HSI
  have HAL : Hid (∀ W, Below w.heap.size w W → Calls Try.prog 76 #[.agg #[.int .i64 op, .bool qt, .bool fu, .int .i64 bad, .int .u32 (oq : Nat), .slice KA nk ck, VQ, .int .u32 (fl : Nat), .int .u32 (ex : Nat), .int .u64 (cs : Nat), .int .u64 (dl : Nat), .int .u64 (ini : Nat)], .agg #[.int .i64 st, .slice VA nv cv, .int .u32 (af : Nat), .int .u64 (ac : Nat), .int .u64 (an : Nat), .slice SA ns sc, .bool cl]] W (AllQ21 (allP op fu st af ac an lk lv SL) W)) := Lib.hid (fun W b => all_any op qt fu bad oq KA nk ck lk VQ fl ex cs dl ini st VA nv cv lv af ac an SA ns sc SL cl W ((rK.below b).more b.size) ((rV.below b).more b.size) ((rS.below b).more b.size) hsl hnk haf hac han (by omega) (by omega) (fun p hp => by have := wl3 p hp; omega))
  have HPL : Hid ((allP op fu st af ac an lk lv SL).length ≤ 17) := Lib.hid (allP_len _ _ _ _ _ _ _ _ _ (by omega))
  have HPU : Hid (∀ W L A c, L.length ≤ 1000 → Rz W W.heap.size 5 A L.length c (L.map Sd.cells).flatten → (∀ s ∈ L, s.Ok W) → Calls Try.prog 75 #[.agg #[.int .i64 op, .bool qt, .bool fu, .int .i64 bad, .int .u32 (oq : Nat), .slice KA nk ck, VQ, .int .u32 (fl : Nat), .int .u32 (ex : Nat), .int .u64 (cs : Nat), .int .u64 (dl : Nat), .int .u64 (ini : Nat)], .slice A L.length c] W (PutsQ (codeB op qt fu) oq L W)) := Lib.hid (fun W L A c hL r hok => puts_any op qt fu bad oq hoq (.slice KA nk ck) VQ fl ex cs dl ini L A c hL W r hok)
  rw [hw] at HCK
  rw [hs] at HSI
  clear hw hs rK rV rS hsl hnk haf hac han hns wl1 wl2 wl3 hoq
  generalize allP op fu st af ac an lk lv SL = Ps at HAL HPL ⊢
  generalize hcb : codeB op qt fu = cb at HPU ⊢
  clear hcb
  obtain ⟨R, hR⟩ : ∃ R, R = (if ∀ p ∈ Ps, p.fits then (spB cb oq Ps, (0 : Int)) else ([], 2)) := ⟨_, rfl⟩
  rw [← hR]
  have HR := Lib.hid hR
  clear hR
  have kq := (Blk.new w #[.int .i64 op, .bool qt, .bool fu, .int .i64 bad, .int .u32 (oq : Nat), .slice KA nk ck, VQ, .int .u32 (fl : Nat), .int .u32 (ex : Nat), .int .u64 (cs : Nat), .int .u64 (dl : Nat), .int .u64 (ini : Nat)] 26).alloc (.cells #[.int .i64 st, .slice VA nv cv, .int .u32 (af : Nat), .int .u64 (ac : Nat), .int .u64 (an : Nat), .slice SA ns sc, .bool cl] 29)
  have ka := Blk.new (w.alloc (.cells #[.int .i64 op, .bool qt, .bool fu, .int .i64 bad, .int .u32 (oq : Nat), .slice KA nk ck, VQ, .int .u32 (fl : Nat), .int .u32 (ex : Nat), .int .u64 (cs : Nat), .int .u64 (dl : Nat), .int .u64 (ini : Nat)] 26)) #[.int .i64 st, .slice VA nv cv, .int .u32 (af : Nat), .int .u64 (ac : Nat), .int .u64 (an : Nat), .slice SA ns sc, .bool cl] 29
  have b := below_a1' (below_a1' (Below.refl w.heap.size w) (.cells #[.int .i64 op, .bool qt, .bool fu, .int .i64 bad, .int .u32 (oq : Nat), .slice KA nk ck, VQ, .int .u32 (fl : Nat), .int .u32 (ex : Nat), .int .u64 (cs : Nat), .int .u64 (dl : Nat), .int .u64 (ini : Nat)] 26)) (.cells #[.int .i64 st, .slice VA nv cv, .int .u32 (af : Nat), .int .u64 (ac : Nat), .int .u64 (an : Nat), .slice SA ns sc, .bool cl] 29)
  rw [World.size_alloc] at ka
  unfold reqV ansV
  go_enter Try.func22, Try.ntmps22
  go_upto_region 1 with fail
  generalize (w.alloc (.cells #[.int .i64 op, .bool qt, .bool fu, .int .i64 bad, .int .u32 (oq : Nat), .slice KA nk ck, VQ, .int .u32 (fl : Nat), .int .u32 (ex : Nat), .int .u64 (cs : Nat), .int .u64 (dl : Nat), .int .u64 (ini : Nat)] 26)).alloc (.cells #[.int .i64 st, .slice VA nv cv, .int .u32 (af : Nat), .int .u64 (ac : Nat), .int .u64 (an : Nat), .slice SA ns sc, .bool cl] 29) = W0 at kq ka b ⊢
  obtain ⟨p0, p1, p2, p3, p4, p5, p6, p7, p8, p9, p10, p11⟩ := box12 kq
  obtain ⟨q0, q1, q2, q3, q4, q5, q6⟩ := box7 ka
  go_wp2_with fail
  refine (HCK.out W0 b).mono ?_
  rintro e w1 ⟨rfl, b1⟩
  clear p0 p1 p2 p3 p4 p5 p6 p7 p8 p9 p10 p11 q0 q1 q2 q3 q4 q5 q6
  replace kq := kq.step b1
  replace ka := ka.step b1
  replace b := below_step b b1
  clear b1
  obtain ⟨p0, p1, p2, p3, p4, p5, p6, p7, p8, p9, p10, p11⟩ := box12 kq
  obtain ⟨q0, q1, q2, q3, q4, q5, q6⟩ := box7 ka
  go_wp2_with fail
  refine (HSI.out w1).mono ?_
  rintro e w2 ⟨rfl, b1⟩
  clear p0 p1 p2 p3 p4 p5 p6 p7 p8 p9 p10 p11 q0 q1 q2 q3 q4 q5 q6
  replace kq := kq.step b1
  replace ka := ka.step b1
  replace b := below_step b b1
  clear b1
  obtain ⟨p0, p1, p2, p3, p4, p5, p6, p7, p8, p9, p10, p11⟩ := box12 kq
  obtain ⟨q0, q1, q2, q3, q4, q5, q6⟩ := box7 ka
  go_upto_region 6 with fail
  refine wp_region_noPanic ?_
  refine region_T (fun wx => Blk wx w.heap.size #[.int .i64 op, .bool qt, .bool fu, .int .i64 bad, .int .u32 (oq : Nat), .slice KA nk ck, VQ, .int .u32 (fl : Nat), .int .u32 (ex : Nat), .int .u64 (cs : Nat), .int .u64 (dl : Nat), .int .u64 (ini : Nat)] 26 ∧ Blk wx (w.heap.size + 1) #[.int .i64 st, .slice VA nv cv, .int .u32 (af : Nat), .int .u64 (ac : Nat), .int .u64 (an : Nat), .slice SA ns sc, .bool cl] 29) 9 (by kernel_rfl) ?_
  have bD : Below w2.heap.size w2 w2.drew := (Below.refl _ _).drew
  replace kq := kq.step bD
  replace ka := ka.step bD
  replace b := below_step b bD
  have hHeld := And.intro kq ka
  clear bD p0 p1 p2 p3 p4 p5 p6 p7 p8 p9 p10 p11 q0 q1 q2 q3 q4 q5 q6
  generalize w2.drew = Y0 at kq ka b hHeld ⊢
  refine takeA (i := 0) (v := ?_) rfl (fun _ _ _ h => h) (Or.inl ⟨by rfl, ?_⟩) hHeld ?_
  rotate_left
  · (intro wx hSw; obtain ⟨sa, sb⟩ := hSw; obtain ⟨a0, a1, a2, a3, a4, a5, a6, a7, a8, a9, a10, a11⟩ := box12 sa; obtain ⟨c0, c1, c2, c3, c4, c5, c6⟩ := box7 sb; go_simp; try (with_reducible rfl))
  try simp only [Act.put, List.setIfInBounds_toArray, List.set_cons_zero, List.set_cons_succ]
  refine takeA (i := 1) (v := ?_) rfl (fun _ _ _ h => h) (Or.inl ⟨by rfl, ?_⟩) hHeld ?_
  rotate_left
  · (intro wx hSw; obtain ⟨sa, sb⟩ := hSw; obtain ⟨a0, a1, a2, a3, a4, a5, a6, a7, a8, a9, a10, a11⟩ := box12 sa; obtain ⟨c0, c1, c2, c3, c4, c5, c6⟩ := box7 sb; go_simp; try (with_reducible rfl))
  try simp only [Act.put, List.setIfInBounds_toArray, List.set_cons_zero, List.set_cons_succ]
  refine takeA (i := 2) (v := ?_) rfl (fun _ _ _ h => h) (Or.inl ⟨by rfl, ?_⟩) hHeld ?_
  rotate_left
  · (intro wx hSw; obtain ⟨sa, sb⟩ := hSw; obtain ⟨a0, a1, a2, a3, a4, a5, a6, a7, a8, a9, a10, a11⟩ := box12 sa; obtain ⟨c0, c1, c2, c3, c4, c5, c6⟩ := box7 sb; go_simp; try (with_reducible rfl))
  try simp only [Act.put, List.setIfInBounds_toArray, List.set_cons_zero, List.set_cons_succ]
  refine oneT (i := 3) rfl (by kernel_rfl) (fun KK hK => ?_)
  go_simp
  refine (HAL.out Y0 b).mono ?_
  rintro e Y1 ⟨L, A1, c1, rfl, rL, okL, hPs, b1⟩
  clear hHeld
  replace kq := kq.step b1
  replace ka := ka.step b1
  replace b := below_step b b1
  have hHeld := And.intro kq ka
  have hLn : L.length ≤ 1000 := by have h := HPL.out; rw [← hPs, List.length_map] at h; omega
  have HP1 := Lib.hid (HPU.out Y1 L A1 c1 hLn rL okL)
  have HOK := Lib.hid okL
  have HPE := Lib.hid hPs
  clear b1 rL okL hPs hLn
  refine hK.out _ _ (fun _ => hHeld) ?_
  clear hK KK
  try simp only [Act.put, List.setIfInBounds_toArray, List.set_cons_zero, List.set_cons_succ]
  refine oneT (i := 4) rfl (by kernel_rfl) (fun KK hK => ?_)
  go_simp
  refine HP1.out.mono ?_
  intro e Y2 hpq
  have HPF : Hid ((∀ p ∈ Ps, p.fits) ↔ ∀ s ∈ L, s.fits) := Lib.hid (by rw [← HPE.out]; exact (sd_allf HOK.out).symm)
  have HPB : Hid (putB cb oq L = spB cb oq Ps) := Lib.hid (by rw [← HPE.out]; exact sd_all HOK.out cb oq)
  rcases hpq with ⟨hf, A2, c2, N2, hN2, rfl, o2, b2⟩ | ⟨hf, rfl, b2⟩
  · have HQ : Hid (OfQ R w (.returned (.tuple #[.slice A2 N2 c2, .int .i64 0])) Y2) := Lib.hid (by rw [HR.out, if_pos (HPF.out.2 hf)]; exact ⟨N2, A2, c2, rfl, by rw [← HPB.out]; exact o2.more b.size, below_step b b2⟩)
    clear hf hN2 o2
    clear hHeld
    have kq := kq.step b2
    have ka := ka.step b2
    have b := below_step b b2
    have hHeld := And.intro kq ka
    refine hK.out _ _ (fun _ => hHeld) ?_
    clear hK KK
    try simp only [Act.put, List.setIfInBounds_toArray, List.set_cons_zero, List.set_cons_succ]
    refine takeA (i := 5) (v := ?_) rfl (fun _ _ _ h => h) (Or.inl ⟨by rfl, ?_⟩) hHeld ?_
    rotate_left
    · (intro wx hSw; obtain ⟨sa, sb⟩ := hSw; obtain ⟨a0, a1, a2, a3, a4, a5, a6, a7, a8, a9, a10, a11⟩ := box12 sa; obtain ⟨c0, c1, c2, c3, c4, c5, c6⟩ := box7 sb; go_simp; try (with_reducible rfl))
    try simp only [Act.put, List.setIfInBounds_toArray, List.set_cons_zero, List.set_cons_succ]
    refine takeA (i := 6) (v := ?_) rfl (fun _ _ _ h => h) (Or.inl ⟨by rfl, ?_⟩) hHeld ?_
    rotate_left
    · (intro wx hSw; obtain ⟨sa, sb⟩ := hSw; obtain ⟨a0, a1, a2, a3, a4, a5, a6, a7, a8, a9, a10, a11⟩ := box12 sa; obtain ⟨c0, c1, c2, c3, c4, c5, c6⟩ := box7 sb; go_simp; try (with_reducible rfl))
    try simp only [Act.put, List.setIfInBounds_toArray, List.set_cons_zero, List.set_cons_succ]
    refine takeA (i := 7) (v := ?_) rfl (fun _ _ _ h => h) (Or.inl ⟨by rfl, ?_⟩) hHeld ?_
    rotate_left
    · (intro wx hSw; obtain ⟨sa, sb⟩ := hSw; obtain ⟨a0, a1, a2, a3, a4, a5, a6, a7, a8, a9, a10, a11⟩ := box12 sa; obtain ⟨c0, c1, c2, c3, c4, c5, c6⟩ := box7 sb; go_simp; try (with_reducible rfl))
    try simp only [Act.put, List.setIfInBounds_toArray, List.set_cons_zero, List.set_cons_succ]
    refine takeA (i := 8) (v := ?_) rfl (fun _ _ _ h => h) (Or.inl ⟨by rfl, ?_⟩) hHeld ?_
    rotate_left
    · (intro wx hSw; obtain ⟨sa, sb⟩ := hSw; obtain ⟨a0, a1, a2, a3, a4, a5, a6, a7, a8, a9, a10, a11⟩ := box12 sa; obtain ⟨c0, c1, c2, c3, c4, c5, c6⟩ := box7 sb; go_simp; try (with_reducible rfl))
    try simp only [Act.put, List.setIfInBounds_toArray, List.set_cons_zero, List.set_cons_succ]
    refine doneT (by kernel_rfl) ?_ _
    refine NoPanic.normal ?_
    clear hHeld
    go_wp2_with fail
    go_ret2
    exact HQ.out
  · have HQ : Hid (OfQ R w (.returned (.tuple #[.slice none 0 0, .int .i64 2])) Y2) := Lib.hid (by rw [HR.out, if_neg (fun h => hf (HPF.out.1 h))]; exact ⟨0, none, 0, rfl, Own.nil _ _, below_step b b2⟩)
    clear hf
    clear hHeld
    have kq := kq.step b2
    have ka := ka.step b2
    have b := below_step b b2
    have hHeld := And.intro kq ka
    refine hK.out _ _ (fun _ => hHeld) ?_
    clear hK KK
    try simp only [Act.put, List.setIfInBounds_toArray, List.set_cons_zero, List.set_cons_succ]
    refine takeA (i := 5) (v := ?_) rfl (fun _ _ _ h => h) (Or.inl ⟨by rfl, ?_⟩) hHeld ?_
    rotate_left
    · (intro wx hSw; obtain ⟨sa, sb⟩ := hSw; obtain ⟨a0, a1, a2, a3, a4, a5, a6, a7, a8, a9, a10, a11⟩ := box12 sa; obtain ⟨c0, c1, c2, c3, c4, c5, c6⟩ := box7 sb; go_simp; try (with_reducible rfl))
    try simp only [Act.put, List.setIfInBounds_toArray, List.set_cons_zero, List.set_cons_succ]
    refine takeA (i := 6) (v := ?_) rfl (fun _ _ _ h => h) (Or.inl ⟨by rfl, ?_⟩) hHeld ?_
    rotate_left
    · (intro wx hSw; obtain ⟨sa, sb⟩ := hSw; obtain ⟨a0, a1, a2, a3, a4, a5, a6, a7, a8, a9, a10, a11⟩ := box12 sa; obtain ⟨c0, c1, c2, c3, c4, c5, c6⟩ := box7 sb; go_simp; try (with_reducible rfl))
    try simp only [Act.put, List.setIfInBounds_toArray, List.set_cons_zero, List.set_cons_succ]
    refine takeA (i := 7) (v := ?_) rfl (fun _ _ _ h => h) (Or.inl ⟨by rfl, ?_⟩) hHeld ?_
    rotate_left
    · (intro wx hSw; obtain ⟨sa, sb⟩ := hSw; obtain ⟨a0, a1, a2, a3, a4, a5, a6, a7, a8, a9, a10, a11⟩ := box12 sa; obtain ⟨c0, c1, c2, c3, c4, c5, c6⟩ := box7 sb; go_simp; try (with_reducible rfl))
    try simp only [Act.put, List.setIfInBounds_toArray, List.set_cons_zero, List.set_cons_succ]
    refine takeA (i := 8) (v := ?_) rfl (fun _ _ _ h => h) (Or.inl ⟨by rfl, ?_⟩) hHeld ?_
    rotate_left
    · (intro wx hSw; obtain ⟨sa, sb⟩ := hSw; obtain ⟨a0, a1, a2, a3, a4, a5, a6, a7, a8, a9, a10, a11⟩ := box12 sa; obtain ⟨c0, c1, c2, c3, c4, c5, c6⟩ := box7 sb; go_simp; try (with_reducible rfl))
    try simp only [Act.put, List.setIfInBounds_toArray, List.set_cons_zero, List.set_cons_succ]
    refine doneT (by kernel_rfl) ?_ _
    refine NoPanic.normal ?_
    clear hHeld
    go_wp2_with fail
    go_ret2
    exact HQ.out
theorem of_any (op : Int) (qt fu : Bool) (bad : Int) (oq : Nat) (KA : Option Addr) (nk ck : Nat) (lk : List UInt8) (VQ : Value) (fl ex cs dl ini : Nat) (st : Int) (VA : Option Addr) (nv cv : Nat) (lv : List UInt8) (af ac an : Nat) (SA : Option Addr) (ns sc : Nat) (SL : List (ByteArray × ByteArray)) (cl : Bool) (w : World) (rK : Rd w w.heap.size KA nk ck lk) (rV : Rd w w.heap.size VA nv cv lv) (rS : Rz w w.heap.size 2 SA ns sc (SL.map stCells).flatten) (hsl : SL.length = ns) (hnk : nk ≤ 1000000) (haf : af < 4294967296) (hac : ac < 18446744073709551616) (han : an < 18446744073709551616) (hns : ns ≤ 9223372036854775800) (hoq : oq < 4294967296) : Calls Try.prog 22 #[reqV op qt fu bad oq (.slice KA nk ck) VQ fl ex cs dl ini, ansV st (.slice VA nv cv) af ac an (.slice SA ns sc) cl] w (OfQ (ofR op qt fu oq st nv af ac an ns lk lv SL) w) := by
  unfold ofR
  by_cases hw : wrongA st op nv af ac an ns SL = true
  · rw [if_pos hw]
    exact of_wrong op qt fu bad oq KA nk ck lk VQ fl ex cs dl ini st VA nv cv lv af ac an SA ns sc SL cl w rK rV rS hsl hnk haf hac han hns hoq hw
  rw [if_neg hw]
  by_cases hs : silB op qt st = true
  · rw [if_pos hs]
    exact of_sil op qt fu bad oq KA nk ck lk VQ fl ex cs dl ini st VA nv cv lv af ac an SA ns sc SL cl w rK rV rS hsl hnk haf hac han hns hoq (Bool.eq_false_iff.2 hw) hs
  rw [if_neg hs]
  exact of_put op qt fu bad oq KA nk ck lk VQ fl ex cs dl ini st VA nv cv lv af ac an SA ns sc SL cl w rK rV rS hsl hnk haf hac han hns hoq (Bool.eq_false_iff.2 hw) (Bool.eq_false_iff.2 hs)
end
section
open Go.RowKit
def malB : List UInt8 := spB (codeB 0 false false) 0 [⟨4, 0, [], [], (textB 4).data.toList⟩]
def MalQ (w : World) (e : Ending) (w' : World) : Prop := ∃ (N : Nat) (A : Option Addr) (c : Nat), e = .returned (.slice A N c) ∧ Own w' w.heap.size A N c malB ∧ Below w.heap.size w w'
theorem mal_done (w W : World) (b : Below w.heap.size w W) (A5 : Option Addr) (c5 : Nat) (sd : Sd) (hsd : sd = ⟨4, none, 0, 0, none, 0, 0, A5, (textB 4).size, c5, 0, [], [], (textB 4).data.toList⟩) (e : Ending) (w' : World) (h : PutsQ (codeB 0 false false) 0 [sd] W e w') :
    ∃ (N : Nat) (A : Option Addr) (c : Nat), e = .returned (.tuple #[.slice A N c, .int .i64 0]) ∧ Own w' w.heap.size A N c malB ∧ Below w.heap.size w w' := by
  rcases h with ⟨-, A, c, N, -, rfl, o, b1⟩ | ⟨hf, -, -⟩
  · have hm : putB (codeB 0 false false) 0 [sd] = malB := by
      subst hsd
      unfold putB malB spB Sd.bytes SP.bytes
      rfl
    rw [hm] at o
    exact ⟨N, A, c, rfl, o.more b.size, below_step b b1⟩
  · exfalso
    refine hf fun s hs => ?_
    rw [List.mem_singleton] at hs
    subst hs
    subst hsd
    show ¬ tooLong 0 0 (textB 4).size
    unfold tooLong
    decide
theorem mal_row (w Y1 : World) (A5 : Option Addr) (c5 : Nat) (r5 : Rd Y1 Y1.heap.size A5 (textB 4).size c5 (textB 4).data.toList) (b5 : Below w.heap.size w Y1) :
    Rz (Y1.alloc (.cells #[.int .i64 4, .slice none 0 0, .slice none 0 0, .slice A5 (textB 4).size c5, .int .u64 0] 124)) (Y1.alloc (.cells #[.int .i64 4, .slice none 0 0, .slice none 0 0, .slice A5 (textB 4).size c5, .int .u64 0] 124)).heap.size 5 (some ⟨Y1.heap.size, 0, none⟩) 1 1 ([(⟨4, none, 0, 0, none, 0, 0, A5, (textB 4).size, c5, 0, [], [], (textB 4).data.toList⟩ : Sd)].map Sd.cells).flatten ∧ (∀ s ∈ [(⟨4, none, 0, 0, none, 0, 0, A5, (textB 4).size, c5, 0, [], [], (textB 4).data.toList⟩ : Sd)], s.Ok (Y1.alloc (.cells #[.int .i64 4, .slice none 0 0, .slice none 0 0, .slice A5 (textB 4).size c5, .int .u64 0] 124))) ∧ Below w.heap.size w (Y1.alloc (.cells #[.int .i64 4, .slice none 0 0, .slice none 0 0, .slice A5 (textB 4).size c5, .int .u64 0] 124)) := by
  have ba := below_a1' (Below.refl Y1.heap.size Y1) (.cells #[.int .i64 4, .slice none 0 0, .slice none 0 0, .slice A5 (textB 4).size c5, .int .u64 0] 124)
  have hr := (Rz.new1 Y1 #[.int .i64 4, .slice none 0 0, .slice none 0 0, .slice A5 (textB 4).size c5, .int .u64 0] 124 5 rfl).more (B' := (Y1.alloc (.cells #[.int .i64 4, .slice none 0 0, .slice none 0 0, .slice A5 (textB 4).size c5, .int .u64 0] 124)).heap.size) (by rw [World.size_alloc]; exact Nat.le_refl _)
  refine ⟨by simpa [Sd.cells] using hr, fun s hs => ?_, below_step b5 ba⟩
  rw [List.mem_singleton] at hs
  subst hs
  exact ⟨Rd.nil _ _, Rd.nil _ _, r5.step ba, (by show 0 < 18446744073709551616; decide), (by have := text_len 4; show 0 + 0 + (textB 4).size ≤ 9223372036854775807; omega)⟩
set_option maxRecDepth 100000 in
set_option maxHeartbeats 8000000 in
theorem mal_any (w : World) : Calls Try.prog 32 #[] w (MalQ w) := by
  have HT := Lib.hid (fun W => text_any 4 W)
  have HPU : Hid (∀ W L A c, L.length ≤ 1000 → Rz W W.heap.size 5 A L.length c (L.map Sd.cells).flatten → (∀ s ∈ L, s.Ok W) → Calls Try.prog 75 #[.agg #[.int .i64 0, .bool false, .bool false, .int .i64 0, .int .u32 (0 : Nat), .slice none 0 0, .slice none 0 0, .int .u32 (0 : Nat), .int .u32 (0 : Nat), .int .u64 (0 : Nat), .int .u64 (0 : Nat), .int .u64 (0 : Nat)], .slice A L.length c] W (PutsQ (codeB 0 false false) 0 L W)) := Lib.hid (fun W L A c hL r hok => puts_any 0 false false 0 0 (by decide) (.slice none 0 0) (.slice none 0 0) 0 0 0 0 0 L A c hL W r hok)
  go_enter Try.func32, Try.ntmps32
  go_wp2_with fail
  refine (HT.out _).mono ?_
  rintro e w1 ⟨rfl, rfl⟩
  go_wp2_with (refine wpl_conv _ rfl _ rfl (textB 4) (by have := text_len 4; omega) rfl ?_)
  intro A5 c5 Y1 r5 hA5 b5
  clear hA5
  have HQ1 : Hid (Rz (Y1.alloc (.cells #[.int .i64 4, .slice none 0 0, .slice none 0 0, .slice A5 (textB 4).size c5, .int .u64 0] 124)) (Y1.alloc (.cells #[.int .i64 4, .slice none 0 0, .slice none 0 0, .slice A5 (textB 4).size c5, .int .u64 0] 124)).heap.size 5 (some ⟨Y1.heap.size, 0, none⟩) 1 1 ([(⟨4, none, 0, 0, none, 0, 0, A5, (textB 4).size, c5, 0, [], [], (textB 4).data.toList⟩ : Sd)].map Sd.cells).flatten ∧ (∀ s ∈ [(⟨4, none, 0, 0, none, 0, 0, A5, (textB 4).size, c5, 0, [], [], (textB 4).data.toList⟩ : Sd)], s.Ok (Y1.alloc (.cells #[.int .i64 4, .slice none 0 0, .slice none 0 0, .slice A5 (textB 4).size c5, .int .u64 0] 124))) ∧ Below w.heap.size w (Y1.alloc (.cells #[.int .i64 4, .slice none 0 0, .slice none 0 0, .slice A5 (textB 4).size c5, .int .u64 0] 124))) := Lib.hid (mal_row w Y1 A5 c5 r5 b5)
  clear r5 b5
  go_wp2_with (refine wpl_bs5 _ rfl _ rfl (.int .i64 4) (.slice none 0 0) (.slice none 0 0) (.slice A5 (textB 4).size c5) (.int .u64 0) rfl ?_)
  generalize Y1.alloc (.cells #[.int .i64 4, .slice none 0 0, .slice none 0 0, .slice A5 (textB 4).size c5, .int .u64 0] 124) = Y2 at HQ1 ⊢
  go_wp2_with fail
  refine (HPU.out Y2 [(⟨4, none, 0, 0, none, 0, 0, A5, (textB 4).size, c5, 0, [], [], (textB 4).data.toList⟩ : Sd)] _ _ (Nat.succ_le_succ (Nat.zero_le 999)) HQ1.out.1 HQ1.out.2.1).mono ?_
  intro e Y3 hpq
  obtain ⟨N, A, c, rfl, o, b⟩ := mal_done w Y2 HQ1.out.2.2 A5 c5 _ rfl e Y3 hpq
  have HQ : Hid (MalQ w (.returned (.slice A N c)) Y3) := Lib.hid ⟨N, A, c, rfl, o, b⟩
  clear hpq o b
  go_wp2_with fail
  go_ret
  exact HQ.out
end
section
open Go.RowKit
end
end Go.Proofs.Ytnghmgbmflcngaa

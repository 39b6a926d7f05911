/- The parser: New, Feed, Held, Next. Conditions: typed in each theorem. -/
import Derived.Test.YtnghmgbmflcngaaPrc
import Derived.Test.YtnghmgbmflcngaaQue
import Derived.Test.YtnghmgbmflcngaaFru
import Derived.Test.YtnghmgbmflcngaaFrg
import Derived.Deep.DeepCutAuto
namespace Go.Proofs.Ytnghmgbmflcngaa
set_option linter.unusedVariables false
open Go.RowKit

/-- A parser: its box, its bytes. -/
def PrsA (w : World) (g : Nat) (A : Option Addr) (n c : Nat) (l : List UInt8) (br : Bool) : Prop := Blk w g #[.slice A n c, .bool br] 127 ∧ Que w (g + 1) A n c l
/-- What a call on a parser leaves alone: all but two blocks. -/
structure TwoK (w w' : World) (g : Nat) (r : Option Nat) : Prop where
  os : w'.os = w.os
  tape : w'.tape = w.tape
  output : w'.output = w.output
  size : w.heap.size ≤ w'.heap.size
  block : ∀ k, k < w.heap.size → k ≠ g → some k ≠ r → w'.heap[k]? = w.heap[k]?
theorem TwoK.of_grown {w w' : World} {g : Nat} {r : Option Nat} (h : w.grownBy w' (some g)) : TwoK w w' g r := ⟨h.os, h.tape, h.output, h.size, fun k hk hg _ => h.block k hk (fun e => hg (by injection e))⟩
theorem TwoK.below {w w' : World} {g B : Nat} {r : Option Nat} (h : TwoK w w' g r) (hg : B ≤ g) (hr : ∀ k, r = some k → B ≤ k) (hB : B ≤ w.heap.size) : Below B w w' :=
  ⟨h.os, h.tape, h.output, h.size, fun k hk => h.block k (by omega) (by omega) (fun e => by have := hr k e.symm; omega)⟩
theorem PrsA.lt {w : World} {g n c : Nat} {A : Option Addr} {l : List UInt8} {br : Bool} (h : PrsA w g A n c l br) : g < w.heap.size := h.1.lt
theorem PrsA.step {w w' : World} {g n c : Nat} {A : Option Addr} {l : List UInt8} {br : Bool} (h : PrsA w g A n c l br) (hb : Below w.heap.size w w') : PrsA w' g A n c l br := ⟨h.1.step hb, h.2.below hb⟩
set_option maxRecDepth 100000 in
set_option maxHeartbeats 600000 in
theorem new_any (w : World) : Calls Try.prog 34 #[] w fun e w' => e = .returned (.pointer (some ⟨w.heap.size, 0, none⟩)) ∧ PrsA w' w.heap.size none 0 0 [] false ∧ Below w.heap.size w w' := by
  go_enter Try.func34, Try.ntmps34
  go_wp2_with fail
  go_ret
  exact ⟨rfl, ⟨Blk.new w _ _, Que.nil _ _⟩, below_a1' (Below.refl _ _) _⟩
set_option maxRecDepth 100000 in
set_option maxHeartbeats 600000 in
theorem held_any (g n c : Nat) (A : Option Addr) (l : List UInt8) (br : Bool) (w : World) (h : PrsA w g A n c l br) : Calls Try.prog 38 #[.pointer (some ⟨g, 0, none⟩)] w fun e w' => e = .returned (.int .i64 (n : Nat)) ∧ w = w' := by
  obtain ⟨p0, p1⟩ := box2 h.1
  go_enter Try.func38, Try.ntmps38
  go_wp2_with fail
  go_ret
  exact ⟨rfl, rfl⟩
set_option maxRecDepth 100000 in
set_option maxHeartbeats 600000 in
theorem held_nil (w : World) : Calls Try.prog 38 #[.pointer none] w fun e w' => e = .returned (.int .i64 0) ∧ w = w' := by
  go_enter Try.func38, Try.ntmps38
  go_wp2_with fail
  go_ret
  exact ⟨rfl, rfl⟩
set_option maxRecDepth 100000 in
set_option maxHeartbeats 600000 in
theorem feed_nil (A2 : Option Addr) (m c2 : Nat) (w : World) : Calls Try.prog 36 #[.pointer none, .slice A2 m c2] w fun e w' => e = .returned (.int .i64 1) ∧ w = w' := by
  go_enter Try.func36, Try.ntmps36
  go_wp2_with fail
  go_ret
  exact ⟨rfl, rfl⟩
set_option maxRecDepth 100000 in
set_option maxHeartbeats 600000 in
theorem feed_broken (g n c : Nat) (A : Option Addr) (l : List UInt8) (A2 : Option Addr) (m c2 : Nat) (w : World) (h : PrsA w g A n c l true) : Calls Try.prog 36 #[.pointer (some ⟨g, 0, none⟩), .slice A2 m c2] w fun e w' => e = .returned (.int .i64 300) ∧ w = w' := by
  obtain ⟨p0, p1⟩ := box2 h.1
  go_enter Try.func36, Try.ntmps36
  go_wp2_with fail
  go_ret
  exact ⟨rfl, rfl⟩
set_option maxRecDepth 100000 in
set_option maxHeartbeats 600000 in
theorem feed_long (g n c : Nat) (A : Option Addr) (l : List UInt8) (A2 : Option Addr) (m c2 : Nat) (w : World) (h : PrsA w g A n c l false) (hm : 65536 < n + m) (hn : n + m ≤ 9223372036854775807) : Calls Try.prog 36 #[.pointer (some ⟨g, 0, none⟩), .slice A2 m c2] w fun e w' => e = .returned (.int .i64 3) ∧ w = w' := by
  obtain ⟨p0, p1⟩ := box2 h.1
  have W1 : IntKind.i64.wrap ((n : Int) + (m : Int)) = (n : Int) + (m : Int) := IntWalk.i64_in _ (by omega)
  have L1 : ((65536 : Int) < (n : Int) + (m : Int)) = True := eq_true (by omega)
  clear hm hn
  go_enter Try.func36, Try.ntmps36
  go_wp2_with fail
  go_ret
  exact ⟨rfl, rfl⟩
def FeedOk (g n m : Nat) (A : Option Addr) (l : List UInt8) (w : World) (e : Ending) (w' : World) : Prop := ∃ (A' : Option Addr) (c' : Nat), e = .returned (.int .i64 0) ∧ PrsA w' g A' (n + m) c' l false ∧ TwoK w w' g (Value.slice A n 0).ownBlock ∧ ((Value.slice A' n 0).ownBlock = (Value.slice A n 0).ownBlock ∨ (Value.slice A' n 0).ownBlock = some w.heap.size)
theorem ob_eq (A : Option Addr) (n c n' c' : Nat) : (Value.slice A n c).ownBlock = (Value.slice A n' c').ownBlock := by cases A <;> rfl
set_option maxRecDepth 100000 in
set_option maxHeartbeats 600000 in
theorem feed_ok (g n c : Nat) (A : Option Addr) (l : List UInt8) (A2 : Option Addr) (m c2 : Nat) (l2 : List UInt8) (w : World) (h : PrsA w g A n c l false) (r : Rd w w.heap.size A2 m c2 l2) (hm : n + m ≤ 65536) : Calls Try.prog 36 #[.pointer (some ⟨g, 0, none⟩), .slice A2 m c2] w (FeedOk g n m A (l ++ l2) w) := by
  have hlt := h.lt
  obtain ⟨kb, hq⟩ := h
  obtain ⟨p0, p1⟩ := box2 kb
  have W1 : IntKind.i64.wrap ((n : Int) + (m : Int)) = (n : Int) + (m : Int) := IntWalk.i64_in _ (by omega)
  have L1 : ((65536 : Int) < (n : Int) + (m : Int)) = False := eq_false (by omega)
  have HM := Lib.hid hm
  clear hm
  go_enter Try.func36, Try.ntmps36
  go_wp2_with (at_builtin; refine wpList_appQ _ rfl _ _ rfl (g + 1) A n c l rfl hq w.heap.size A2 m c2 l2 rfl r (by have := HM.out; omega) (by omega) ?_)
  intro A' c' w1 q1 g1 ho
  have hne : ∀ k, (Value.slice A n c).ownBlock = some k → g + 1 ≤ k := fun k hk => (hq.owner k hk).1
  have k1 : Blk w1 g #[.slice A n c, .bool false] 127 := (g1.block g hlt (fun e => by have := hne g e.symm; omega)).trans kb
  have y0 := k1.frozen 0
  clear p0 p1
  obtain ⟨p0, p1⟩ := box2 k1
  have HG := Lib.hid g1
  have HO := Lib.hid ho
  have HE := Lib.hid hne
  clear g1 ho hne hq kb
  go_wp2_with fail
  go_ret
  have gs := rdr_grown_set w1 g 0 (.slice A' (n + m) c')
  have g1 := HG.out
  refine ⟨A', c', rfl, ⟨k1.set_ 0 _, q1.kept gs (fun k hk => by injection hk with hk; omega)⟩, ⟨gs.os.trans g1.os, gs.tape.trans g1.tape, gs.output.trans g1.output, Nat.le_trans g1.size gs.size, fun k hk hkg hkr => ?_⟩, ?_⟩
  · exact (gs.block k (Nat.lt_of_lt_of_le hk g1.size) (fun e => hkg (by injection e))).trans (g1.block k hk (by rw [ob_eq A n c n 0]; exact hkr))
  · rw [ob_eq A' n 0 (n + m) c', ob_eq A n 0 n c]
    exact HO.out
def NextNo (err : Int) (w : World) (e : Ending) (w' : World) : Prop := e = .returned (.tuple #[.agg #[.int .i64 0, .bool false, .bool false, .int .i64 0, .int .u32 0, .slice none 0 0, .slice none 0 0, .int .u32 0, .int .u32 0, .int .u64 0, .int .u64 0, .int .u64 0], .bool false, .int .i64 err]) ∧ Below w.heap.size w w'
set_option maxRecDepth 100000 in
set_option maxHeartbeats 600000 in
theorem next_nil (w : World) : Calls Try.prog 49 #[.pointer none] w (NextNo 1 w) := by
  go_enter Try.func49, Try.ntmps49
  go_wp2_with fail
  refine bodyPost_ret (v := .tuple #[.agg #[.int .i64 0, .bool false, .bool false, .int .i64 0, .int .u32 0, .slice none 0 0, .slice none 0 0, .int .u32 0, .int .u32 0, .int .u64 0, .int .u64 0, .int .u64 0], .bool false, .int .i64 1]) (by simp [results, Try.results49, go_sem]) rfl ?_
  exact ⟨rfl, below_a1' (Below.refl _ _) _⟩
set_option maxRecDepth 100000 in
set_option maxHeartbeats 600000 in
theorem next_broken (g n c : Nat) (A : Option Addr) (l : List UInt8) (w : World) (h : PrsA w g A n c l true) : Calls Try.prog 49 #[.pointer (some ⟨g, 0, none⟩)] w (NextNo 300 w) := by
  have kb := h.1.alloc (.cells #[.int .i64 0, .bool false, .bool false, .int .i64 0, .int .u32 0, .slice none 0 0, .slice none 0 0, .int .u32 0, .int .u32 0, .int .u64 0, .int .u64 0, .int .u64 0] 26)
  obtain ⟨p0, p1⟩ := box2 kb
  go_enter Try.func49, Try.ntmps49
  go_wp2_with fail
  refine bodyPost_ret (v := .tuple #[.agg #[.int .i64 0, .bool false, .bool false, .int .i64 0, .int .u32 0, .slice none 0 0, .slice none 0 0, .int .u32 0, .int .u32 0, .int .u64 0, .int .u64 0, .int .u64 0], .bool false, .int .i64 300]) (by simp [results, Try.results49, go_sem]) rfl ?_
  exact ⟨rfl, below_a1' (Below.refl _ _) _⟩
set_option maxRecDepth 100000 in
set_option maxHeartbeats 600000 in
theorem next_short (g n c : Nat) (A : Option Addr) (l : List UInt8) (w : World) (h : PrsA w g A n c l false) (hn : needE l = 9) : Calls Try.prog 49 #[.pointer (some ⟨g, 0, none⟩)] w (NextNo 0 w) := by
  have HC : Hid (∀ W, Rd W W.heap.size A n c l → Calls Try.prog 96 #[.slice A n c] W (NeedQ (needN l : Nat) 9 W)) := Lib.hid (fun W r => hn ▸ need_any A n c l W r)
  clear hn
  have k2 := Blk.new w #[.int .i64 0, .bool false, .bool false, .int .i64 0, .int .u32 0, .slice none 0 0, .slice none 0 0, .int .u32 0, .int .u32 0, .int .u64 0, .int .u64 0, .int .u64 0] 26
  have b := below_a1' (Below.refl w.heap.size w) (.cells #[.int .i64 0, .bool false, .bool false, .int .i64 0, .int .u32 0, .slice none 0 0, .slice none 0 0, .int .u32 0, .int .u32 0, .int .u64 0, .int .u64 0, .int .u64 0] 26)
  have kb := h.1.step b
  have hq := h.2.below b
  have hlt := h.lt
  clear h
  go_enter Try.func49, Try.ntmps49
  go_upto_region 1 with fail
  generalize w.alloc (.cells #[.int .i64 0, .bool false, .bool false, .int .i64 0, .int .u32 0, .slice none 0 0, .slice none 0 0, .int .u32 0, .int .u32 0, .int .u64 0, .int .u64 0, .int .u64 0] 26) = W0 at k2 b kb hq ⊢
  obtain ⟨p0, p1⟩ := box2 kb
  go_wp2_with fail
  refine (HC.out W0 hq.rd).mono ?_
  rintro e w1 ⟨rfl, bb⟩
  replace k2 := k2.step bb
  replace kb := kb.step bb
  replace hq := Que.below hq bb
  replace b := below_step b bb
  clear bb p0 p1
  obtain ⟨p0, p1⟩ := box2 kb
  have y0 := k2.frozen 0
  have y1 := k2.frozen 1
  have y2 := k2.frozen 2
  have y3 := k2.frozen 3
  have y4 := k2.frozen 4
  have y5 := k2.frozen 5
  have y6 := k2.frozen 6
  have y7 := k2.frozen 7
  have y8 := k2.frozen 8
  have y9 := k2.frozen 9
  have y10 := k2.frozen 10
  have y11 := k2.frozen 11
  obtain ⟨u0, u1, u2, u3, u4, u5, u6, u7, u8, u9, u10, u11⟩ := box12 k2
  have kf := blk_set12 k2 (.int .i64 0) (.bool false) (.bool false) (.int .i64 0) (.int .u32 0) (.slice none 0 0) (.slice none 0 0) (.int .u32 0) (.int .u32 0) (.int .u64 0) (.int .u64 0) (.int .u64 0)
  have gs := grown_set12 w1 w.heap.size (.int .i64 0) (.bool false) (.bool false) (.int .i64 0) (.int .u32 0) (.slice none 0 0) (.slice none 0 0) (.int .u32 0) (.int .u32 0) (.int .u64 0) (.int .u64 0) (.int .u64 0)
  have bf := b.trans (below_grown gs (Nat.le_refl _) k2.lt)
  obtain ⟨t0, t1, t2, t3, t4, t5, t6, t7, t8, t9, t10, t11⟩ := box12 kf
  clear kf gs b k2 kb
  go_wp2_with fail
  refine bodyPost_ret (v := .tuple #[.agg #[.int .i64 0, .bool false, .bool false, .int .i64 0, .int .u32 0, .slice none 0 0, .slice none 0 0, .int .u32 0, .int .u32 0, .int .u64 0, .int .u64 0, .int .u64 0], .bool false, .int .i64 0]) (by simp [results, Try.results49, go_sem, t0, t1, t2, t3, t4, t5, t6, t7, t8, t9, t10, t11]) rfl ?_
  exact ⟨rfl, bf⟩
end Go.Proofs.Ytnghmgbmflcngaa

/- Package icehouselaw06's wakes answers true. Conditions: none. -/
import Derived.Test.YtkdkmdjfimnkaaaRei
import Derived.Test.YtkdkmdjfimnkaaaOpen
import Derived.Lib.SlBytesConst
namespace Go.Proofs.Ytkdkmdjfimnkaaa
set_option linter.unusedVariables false
open Go.RowKit

theorem rd_row {w : World} {g k : Nat} {cs : Array Value} {l : List UInt8} {p : Nat × Nat} (h : w.heap[g]? = some (.cells cs 5 p)) (hk : l.length = k) (hm : k ≤ maxLen) (hx : cs.toList = cbs l) : Rd w w.heap.size (some ⟨g, 0, none⟩) k k l := by
  have hlt := (Array.getElem?_eq_some_iff.1 h).1
  refine ⟨by rw [length_cbs]; exact hk, Nat.le_refl _, hm, (fun h => by cases h), fun ad hA _ => by injection hA with h; subst h; exact hlt, fun ad i u hA hu => ?_⟩
  injection hA with e
  subst e
  rw [← hx] at hu
  have ha : (⟨g, 0, none⟩ : Addr).add i = ⟨g, i, none⟩ := by
    unfold Addr.add
    by_cases hi : i = 0
    · subst hi; rfl
    · rw [if_neg hi]; simp
  rw [ha, cell_of_row w g i _ _ p h]
  simpa using hu
def wakL : List UInt8 := [1, 0, 0, 0, 0, 0, 0, 0, 0, 0, 0, 0, 0, 0, 0, 0, 1, 0, 1, 0, 2, 97, 120, 121]
theorem wak_enc (AK AV : Option Addr) (W : World) (rk : Rd W W.heap.size AK 1 1 [97]) (rv : Rd W W.heap.size AV 2 2 [120, 121]) :
    Calls Try.prog 16 #[.agg #[.int .i64 1, .int .u32 0, .int .u32 0, .int .u64 1, .slice AK 1 1, .slice AV 2 2]] W (EncQ 24 wakL W) := by
  have h := enc_ok 1 0 0 1 (by omega) (by omega) (by omega) (by omega) AK AV 1 1 2 2 [97] [120, 121] W rk rv (by decide)
  rw [show recB 1 0 0 1 [97] [120, 121] = wakL from by decide +kernel] at h
  exact h
def WakDec (W : World) (e : Ending) (w' : World) : Prop := ∃ K ck V cv, e = .returned (.tuple #[.agg #[.int .i64 1, .int .u32 0, .int .u32 0, .int .u64 1, .slice K 1 ck, .slice V 2 cv], .int .i64 24, .int .i64 0]) ∧ Own w' W.heap.size K 1 ck [97] ∧ Own w' W.heap.size V 2 cv [120, 121] ∧ Below W.heap.size W w'
theorem wak_dec (A : Option Addr) (c : Nat) (W : World) (r : Rd W W.heap.size A 24 c wakL) : Calls Try.prog 15 #[.slice A 24 c] W (WakDec W) := by
  refine (dec_ok A 24 c wakL W r (by omega) (by decide +kernel) (by decide +kernel)).mono ?_
  intro e w' h
  unfold DecOk at h
  rw [show fld wakL 0 1 = 1 from by decide +kernel, show fld wakL 1 4 = 0 from by decide +kernel, show fld wakL 5 4 = 0 from by decide +kernel, show fld wakL 9 8 = 1 from by decide +kernel, show fld wakL 17 2 = 1 from by decide +kernel, show fld wakL 19 2 = 2 from by decide +kernel,
    show (wakL.drop 21).take 1 = [97] from by decide +kernel, show ((wakL.drop 21).drop 1).take 2 = [120, 121] from by decide +kernel] at h
  exact h
theorem wak_same (AK AV K V : Option Addr) (ck cv : Nat) (W : World) (r1 : Rd W W.heap.size AK 1 1 [97]) (r2 : Rd W W.heap.size AV 2 2 [120, 121]) (r3 : Rd W W.heap.size K 1 ck [97]) (r4 : Rd W W.heap.size V 2 cv [120, 121]) :
    Calls Try.prog 12 #[.agg #[.int .i64 1, .int .u32 0, .int .u32 0, .int .u64 1, .slice AK 1 1, .slice AV 2 2], .agg #[.int .i64 1, .int .u32 0, .int .u32 0, .int .u64 1, .slice K 1 ck, .slice V 2 cv]] W (PSame true W) :=
  psame_5 1 1 0 0 0 0 1 1 AK AV K V 1 1 2 2 1 ck 2 cv [97] [120, 121] [97] [120, 121] W r1 r2 r3 r4 rfl rfl rfl rfl (by decide)
theorem wak_check (W : World) : Calls Try.prog 18 #[.agg #[.int .i64 0, .int .u32 0, .int .u32 0, .int .u64 0, .slice none 0 0, .slice none 0 0]] W fun e w' => e = .returned (.int .i64 160) ∧ Below W.heap.size W w' :=
  check_any 0 0 0 0 none none 0 0 0 0 W
set_option maxRecDepth 20000 in
set_option maxHeartbeats 4000000 in
theorem wakes06 (w : World) :
    Calls Try.prog 10 #[] w fun e w' => e = .returned (.bool true) ∧ Below w.heap.size w w' := by
  have kc := fun (w : World) (C : Array Value) (n c : Nat) => Lib.run_convert_bytes_const (P := Try.prog) w 24 5 C n c Try.underlying24 Try.underlying5
  have kd := fun (w : World) (o : Obj) (C : Array Value) (n c : Nat) => Lib.run_convert_bytes_const (P := Try.prog) (w.alloc o) 24 5 C n c Try.underlying24 Try.underlying5
  simp only [World.size_alloc] at kd
  have b := Below.refl w.heap.size w
  go_enter Try.func10, Try.ntmps10
  go_wp2_with fail
  have hA : (((w.alloc (.cells #[.int .u8 97] 5 (1, 2))).alloc (.cells #[.int .u8 120, .int .u8 121] 5 (2, 3))).alloc (.cells #[.int .i64 1, .int .u32 0, .int .u32 0, .int .u64 1, .slice (some ⟨w.heap.size, 0, none⟩) 1 1, .slice (some ⟨w.heap.size + 1, 0, none⟩) 2 2] 26)).heap[w.heap.size]? = some (.cells #[.int .u8 97] 5 (1, 2)) := (Below.heap_alloc _ _ _ (by simp; omega)).trans ((Below.heap_alloc _ _ _ (by simp)).trans (heap_alloc_new w _))
  have hB : (((w.alloc (.cells #[.int .u8 97] 5 (1, 2))).alloc (.cells #[.int .u8 120, .int .u8 121] 5 (2, 3))).alloc (.cells #[.int .i64 1, .int .u32 0, .int .u32 0, .int .u64 1, .slice (some ⟨w.heap.size, 0, none⟩) 1 1, .slice (some ⟨w.heap.size + 1, 0, none⟩) 2 2] 26)).heap[w.heap.size + 1]? = some (.cells #[.int .u8 120, .int .u8 121] 5 (2, 3)) := (Below.heap_alloc _ _ _ (by simp)).trans (by have := heap_alloc_new (w.alloc (.cells #[.int .u8 97] 5 (1, 2))) (.cells #[.int .u8 120, .int .u8 121] 5 (2, 3)); rwa [World.size_alloc] at this)
  have hC : Blk (((w.alloc (.cells #[.int .u8 97] 5 (1, 2))).alloc (.cells #[.int .u8 120, .int .u8 121] 5 (2, 3))).alloc (.cells #[.int .i64 1, .int .u32 0, .int .u32 0, .int .u64 1, .slice (some ⟨w.heap.size, 0, none⟩) 1 1, .slice (some ⟨w.heap.size + 1, 0, none⟩) 2 2] 26)) (w.heap.size + 2) #[.int .i64 1, .int .u32 0, .int .u32 0, .int .u64 1, .slice (some ⟨w.heap.size, 0, none⟩) 1 1, .slice (some ⟨w.heap.size + 1, 0, none⟩) 2 2] 26 := by
    have := Blk.new ((w.alloc (.cells #[.int .u8 97] 5 (1, 2))).alloc (.cells #[.int .u8 120, .int .u8 121] 5 (2, 3))) #[.int .i64 1, .int .u32 0, .int .u32 0, .int .u64 1, .slice (some ⟨w.heap.size, 0, none⟩) 1 1, .slice (some ⟨w.heap.size + 1, 0, none⟩) 2 2] 26
    rwa [World.size_alloc, World.size_alloc] at this
  replace b : Below w.heap.size w (((w.alloc (.cells #[.int .u8 97] 5 (1, 2))).alloc (.cells #[.int .u8 120, .int .u8 121] 5 (2, 3))).alloc (.cells #[.int .i64 1, .int .u32 0, .int .u32 0, .int .u64 1, .slice (some ⟨w.heap.size, 0, none⟩) 1 1, .slice (some ⟨w.heap.size + 1, 0, none⟩) 2 2] 26)) := below_a1' (below_a1' (below_a1' b _) _) _
  generalize ((w.alloc (.cells #[.int .u8 97] 5 (1, 2))).alloc (.cells #[.int .u8 120, .int .u8 121] 5 (2, 3))).alloc (.cells #[.int .i64 1, .int .u32 0, .int .u32 0, .int .u64 1, .slice (some ⟨w.heap.size, 0, none⟩) 1 1, .slice (some ⟨w.heap.size + 1, 0, none⟩) 2 2] 26) = W0 at hA hB hC b ⊢
  clear kc kd
  have rA := rd_row (l := [97]) hA rfl (by simp [maxLen]) rfl
  have rB := rd_row (l := [120, 121]) hB rfl (by simp [maxLen]) rfl
  refine (wak_enc _ _ W0 rA rB).mono ?_
  rintro e w1 ⟨A1, c1, rfl, o1, b1⟩
  replace rA := (rA.below b1).more b1.size
  replace rB := (rB.below b1).more b1.size
  replace hC := hC.step b1
  replace b := below_step b b1
  clear hA hB b1
  go_wp2_with fail
  refine (wak_dec A1 c1 w1 o1.rd).mono ?_
  rintro e w2 ⟨K, ck, V, cv, rfl, oK, oV, b2⟩
  have rK := oK.rd
  have rV := oV.rd
  have ba := below_a1' (Below.refl w2.heap.size w2) (.cells #[.int .i64 1, .int .u32 0, .int .u32 0, .int .u64 1, .slice K 1 ck, .slice V 2 cv] 26)
  have hD := Blk.new w2 #[.int .i64 1, .int .u32 0, .int .u32 0, .int .u64 1, .slice K 1 ck, .slice V 2 cv] 26
  replace rA := ((rA.below b2).more b2.size |>.below ba).more ba.size
  replace rB := ((rB.below b2).more b2.size |>.below ba).more ba.size
  replace rK := (rK.below ba).more ba.size
  replace rV := (rV.below ba).more ba.size
  replace hC := (hC.step b2).step ba
  replace b := below_step (below_step b b2) ba
  have hst := run_strA rV
  have HS := Lib.hid (wak_same _ _ K V ck cv _ rA rB rK rV)
  obtain ⟨q0, q1, q2, q3, q4, q5⟩ := box6 hC
  obtain ⟨z0, z1, z2, z3, z4, z5⟩ := box6 hD
  clear oK oV b2 ba rA rB rK rV o1 hC hD
  go_wp2_with fail
  refine HS.out.mono ?_
  rintro e w3 ⟨rfl, b3⟩
  replace b := below_step b b3
  go_wp2_with fail
  refine (wak_check _).mono ?_
  rintro e w4 ⟨rfl, b4⟩
  replace b := below_step b b4
  go_wp2_with fail
  go_ret
  exact ⟨rfl, b⟩
end Go.Proofs.Ytkdkmdjfimnkaaa

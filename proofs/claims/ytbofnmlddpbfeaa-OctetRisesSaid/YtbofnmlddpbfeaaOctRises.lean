/- OctetRises: of two numbers the greater one's bytes are greater, byte by byte. Conditions: none. -/
import Derived.Test.YtbofnmlddpbfeaaWake01
import Derived.Test.YtbofnmlddpbfeaaOpen
import Derived.Deep.RegionHeld3
import Derived.Deep.DrawnRows
import Derived.Laws.IdiomStrings
import Derived.Lib.Strings
namespace Go.Proofs.Ytbofnmlddpbfeaa
set_option linter.unusedVariables false
open Go.ChangeShapes Go.WideShapes Go.ChangeAt Go.RowKit

theorem run_str {w : World} {B : Nat} {A : Option Addr} {n c : Nat} {l : List UInt8} (h : Rd w B A n c l) (hn : 0 < n) :
    (convert 22 9 (.slice A n c)).run Try.prog w = .ok (.string ⟨l.toArray⟩) w := by
  obtain ⟨ad, x, rfl, -, -, -⟩ := h.at_ hn
  have hl := h.len
  subst hl
  refine run_convert_bytes_back w 22 9 5 ad c l Try.underlying22 Try.underlying5 Try.underlying9 fun j hj => ?_
  have := h.2.2.2.2.2 ad j (cb l[j]) rfl (by rw [cbs_get?, List.getElem?_eq_getElem hj]; rfl)
  exact this

theorem bytesLess_high : ∀ (n x y : Nat), x < 256 ^ n → y < 256 ^ n → Op.bytesLess (highB x n) (highB y n) = decide (x < y)
  | 0, x, y, hx, hy => by simp [highB, Op.bytesLess] at *; omega
  | n + 1, x, y, hx, hy => by
    rw [highB_cons, highB_cons]
    have hp : 0 < 256 ^ n := Nat.pos_of_ne_zero (by simp)
    rw [Nat.pow_succ, Nat.mul_comm] at hx hy
    have ax : x / 256 ^ n < 256 := Nat.div_lt_of_lt_mul (by rw [Nat.mul_comm]; exact hx)
    have ay : y / 256 ^ n < 256 := Nat.div_lt_of_lt_mul (by rw [Nat.mul_comm]; exact hy)
    have ih := bytesLess_high n (x % 256 ^ n) (y % 256 ^ n) (Nat.mod_lt _ hp) (Nat.mod_lt _ hp)
    rw [highB_mod n x n (Nat.le_refl _), highB_mod n y n (Nat.le_refl _)] at ih
    have dx := Nat.div_add_mod x (256 ^ n)
    have dy := Nat.div_add_mod y (256 ^ n)
    have mx := Nat.mod_lt x hp
    have my := Nat.mod_lt y hp
    unfold Op.bytesLess
    rw [ih]
    generalize 256 ^ n = P at *
    generalize x / P = a at *
    generalize y / P = b at *
    generalize x % P = s at *
    generalize y % P = t at *
    have e1 : decide (UInt8.ofNat a < UInt8.ofNat b) = decide (a < b) := by
      rw [decide_eq_decide, UInt8.lt_iff_toNat_lt]; simp; omega
    have e2 : (UInt8.ofNat a == UInt8.ofNat b) = (a == b) := by
      rw [Bool.eq_iff_iff]; simp [← UInt8.toNat_inj]; omega
    rw [e1, e2]
    rcases Nat.lt_trichotomy a b with h | h | h
    · have : P * a + P ≤ P * b := by rw [← Nat.mul_succ]; exact Nat.mul_le_mul_left _ h
      simp [h]; omega
    · subst h
      simp
      omega
    · have : P * b + P ≤ P * a := by rw [← Nat.mul_succ]; exact Nat.mul_le_mul_left _ h
      rw [show decide (x < y) = false from decide_eq_false (by omega), show decide (a < b) = false from decide_eq_false (by omega), show (a == b) = false from by simp; omega]
      rfl
theorem put64_nil (x : Nat) (hx : x < 18446744073709551616) (w : World) :
    Calls Try.prog 33 #[.slice none 0 0, .int .u64 x] w fun e w' => ∃ A' c', e = .returned (.slice A' 8 c') ∧ Rd w' w'.heap.size A' 8 c' (highB x 8) ∧ Below w.heap.size w w' :=
  (put64_any none 0 0 0 x hx [] w (Rd.nil _ _) (Nat.zero_le _) (by omega)).mono fun e w' ⟨A, c, he, ho, hb⟩ => ⟨A, c, by simpa using he, by simpa using ho.rd, hb⟩
theorem put32_nil (x : Nat) (hx : x < 4294967296) (w : World) :
    Calls Try.prog 34 #[.slice none 0 0, .int .u32 x] w fun e w' => ∃ A' c', e = .returned (.slice A' 4 c') ∧ Rd w' w'.heap.size A' 4 c' (highB x 4) ∧ Below w.heap.size w w' :=
  (put32_any none 0 0 0 x hx [] w (Rd.nil _ _) (Nat.zero_le _) (by omega)).mono fun e w' ⟨A, c, he, ho, hb⟩ => ⟨A, c, by simpa using he, by simpa using ho.rd, hb⟩
theorem ltBool {x y : Nat} : decide ((x : Int) < (y : Int)) = decide (x < y) := by rw [decide_eq_decide]; omega

/-- S may grow. -/
theorem grow_ {P : Program} {md : Region.Mode} {ops : Array Oper} {Q : Exit → Act → World → Prop} {S S' : World → Prop} (hS : ∀ w, S' w → S w) : ∀ {fuel : Nat} {listed : Array Bool} {a : Act} {w : World},
    wpAnyH P md ops Q S' fuel listed a w → wpAnyH P md ops Q S fuel listed a w
  | 0, _, _, _, h => h
  | fuel + 1, _, _, _, h => ⟨h.1, fun i hi => wpOp_mono (fun _ _ h' => ⟨hS _ h'.1, grow_ hS h'.2⟩) (h.2 i hi)⟩
theorem take_ {P : Program} {md : Region.Mode} {ops : Array Oper} {Q : Exit → Act → World → Prop} {S : World → Prop} {i : Nat} {oi : Oper} {v : Value} {fuel : Nat} {listed : Array Bool} {a : Act} {w : World} (hi : ops.toList[i]? = some oi)
    (hs : Region.noSelect ops = true) (hf : Region.free md ops listed i = true) (hr : (Region.ready md ops listed).contains i = true)
    (hQ : ∀ c a w, Q (.panic c) (a.put oi.dst v) w → Q (.panic c) a w) (hy : YieldsIf P ops S oi v a) (hS : S w)
    (h : wpAnyH P md ops Q S fuel (listed.setIfInBounds i true) (a.put oi.dst v) w) : wpAnyH P md ops Q S (fuel + 1) listed a w :=
  wpAnyH_take (by rw [← Array.getElem?_toList]; exact hi) hs hf hr hQ hy hS h
theorem cons_ {P : Program} {md : Region.Mode} {ops : Array Oper} {Q : Exit → Act → World → Prop} {S : World → Prop} {fuel : Nat} {listed : Array Bool} {a : Act} {w : World} {i : Nat} {o : Oper} {rs : List Nat} (ho : ops.toList[i]? = some o)
    (h : ∀ K' : Act → World → Prop, Shut (∀ a w, S w → (S w → wpAnyH P md ops Q S fuel (listed.setIfInBounds i true) a w) → K' a w) → if Region.wanted o (yielded ops a.tmps) = true then Oper.wp P o a w K' Q else K' (a.put o.dst undef) w)
    (hs : AllReadyH P md ops Q S fuel listed a w rs) : AllReadyH P md ops Q S fuel listed a w (i :: rs) :=
  AllReadyH.cons (by rw [← Array.getElem?_toList]; exact ho) h hs

set_option maxRecDepth 20000 in
set_option maxHeartbeats 4000000 in
theorem walk_rises (x0 : Nat) (x1 : Nat) (b8 b4 : Bool) (w : World) (hx0 : x0 < 18446744073709551616) (hx1 : x1 < 18446744073709551616)
    (hl8 : Op.bytesLess (highB x0 8) (highB x1 8) = b8) (hd8 : decide ((x0 : Int) < (x1 : Int)) = b8) (he8 : decide (x0 < x1) = b8)
    (hl4 : Op.bytesLess (highB (x0 % 4294967296) 4) (highB (x1 % 4294967296) 4) = b4) (hd4 : decide ((x0 : Int) % 4294967296 < (x1 : Int) % 4294967296) = b4) (he4 : decide (x0 % 4294967296 < x1 % 4294967296) = b4) :
    Calls Try.prog 9 #[.int .u64 x0, .int .u64 x1] w fun e w' => e = .returned (.bool true) ∧ Below w.heap.size w w' := by
  have b := Below.refl w.heap.size w
  have w0 : IntKind.u32.wrap (x0 : Int) = (x0 : Int) % 4294967296 := by rw [IntKind.wrap_u32]
  have w1' : IntKind.u32.wrap (x1 : Int) = (x1 : Int) % 4294967296 := by rw [IntKind.wrap_u32]
  have p0 : ∀ W, Calls Try.prog 34 #[.slice none 0 0, .int .u32 ((x0 : Int) % 4294967296)] W fun e w' => ∃ A' c', e = .returned (.slice A' 4 c') ∧ Rd w' w'.heap.size A' 4 c' (highB (x0 % 4294967296) 4) ∧ Below W.heap.size W w' := fun W => by
    have := put32_nil (x0 % 4294967296) (Nat.mod_lt _ (by decide)) W
    rw [← modu32] at this; exact this
  have p1 : ∀ W, Calls Try.prog 34 #[.slice none 0 0, .int .u32 ((x1 : Int) % 4294967296)] W fun e w' => ∃ A' c', e = .returned (.slice A' 4 c') ∧ Rd w' w'.heap.size A' 4 c' (highB (x1 % 4294967296) 4) ∧ Below W.heap.size W w' := fun W => by
    have := put32_nil (x1 % 4294967296) (Nat.mod_lt _ (by decide)) W
    rw [← modu32] at this; exact this
  have P0 := Lib.hid p0
  have P1 := Lib.hid p1
  clear p0 p1
  go_enter Try.func9, Try.ntmps9
  go_wp2_with fail
  refine (wakes01 _).mono ?_
  rintro e w1 ⟨rfl, b1⟩
  replace b := below_step b b1
  clear b1
  go_wp2_with fail
  refine wp_region_held_drew (S := fun _ => True) (by kernel_rfl) trivial (fun hHeld => ?_)
  refine take_ (i := 0) (v := ?_) rfl (by kernel_rfl) (by kernel_rfl) (by kernel_rfl) (fun _ _ _ h => h) (Or.inl ⟨by rfl, ?_⟩) hHeld ?_
  rotate_left
  · (intro wx hSw; (try dsimp only at hSw); go_simp; try (with_reducible rfl))
  try simp only [Act.put, List.setIfInBounds_toArray, List.set_cons_zero, List.set_cons_succ]
  refine take_ (i := 3) (v := ?_) rfl (by kernel_rfl) (by kernel_rfl) (by kernel_rfl) (fun _ _ _ h => h) (Or.inl ⟨by rfl, ?_⟩) hHeld ?_
  rotate_left
  · (intro wx hSw; (try dsimp only at hSw); go_simp; try (with_reducible rfl))
  try simp only [Act.put, List.setIfInBounds_toArray, List.set_cons_zero, List.set_cons_succ]
  refine take_ (i := 7) (v := ?_) rfl (by kernel_rfl) (by kernel_rfl) (by kernel_rfl) (fun _ _ _ h => h) (Or.inl ⟨by rfl, ?_⟩) hHeld ?_
  rotate_left
  · (intro wx hSw; (try dsimp only at hSw); go_simp; try (with_reducible rfl))
  try simp only [Act.put, List.setIfInBounds_toArray, List.set_cons_zero, List.set_cons_succ]
  refine take_ (i := 8) (v := ?_) rfl (by kernel_rfl) (by kernel_rfl) (by kernel_rfl) (fun _ _ _ h => h) (Or.inl ⟨by rfl, ?_⟩) hHeld ?_
  rotate_left
  · (intro wx hSw; (try dsimp only at hSw); go_simp; try (with_reducible rfl))
  try simp only [Act.put, List.setIfInBounds_toArray, List.set_cons_zero, List.set_cons_succ]
  refine take_ (i := 9) (v := ?_) rfl (by kernel_rfl) (by kernel_rfl) (by kernel_rfl) (fun _ _ _ h => h) (Or.inl ⟨by rfl, ?_⟩) hHeld ?_
  rotate_left
  · (intro wx hSw; (try dsimp only at hSw); go_simp; try (with_reducible rfl))
  try simp only [Act.put, List.setIfInBounds_toArray, List.set_cons_zero, List.set_cons_succ]
  refine wpAnyH_ready (rs := [1]) (by kernel_rfl) (by simp) ?_
  refine cons_ (i := 1) rfl (fun K hK => ?_) AllReadyH.nil
  go_simp
  refine (put64_nil x0 hx0 _).mono ?_
  rintro e w2 ⟨A2, c2, rfl, o2, b2⟩
  refine hK.out _ _ ?_ (fun hHeld => ?_)
  · exact trivial
  clear hK K hHeld
  try simp only [Act.put, List.setIfInBounds_toArray, List.set_cons_zero, List.set_cons_succ]
  refine grow_ (S' := fun w' => (convert 22 9 (.slice A2 8 c2)).run Try.prog w' = .ok (.string ⟨(highB x0 8).toArray⟩) w') (fun _ _ => trivial) ?_
  have hHeld := run_str o2 (by omega)
  refine take_ (i := 2) (v := ?_) rfl (by kernel_rfl) (by kernel_rfl) (by kernel_rfl) (fun _ _ _ h => h) (Or.inl ⟨by rfl, ?_⟩) hHeld ?_
  rotate_left
  · (intro wx hSw; (try dsimp only at hSw); go_simp; try (with_reducible rfl))
  try simp only [Act.put, List.setIfInBounds_toArray, List.set_cons_zero, List.set_cons_succ]
  refine wpAnyH_ready (rs := [4]) (by kernel_rfl) (by simp) ?_
  refine cons_ (i := 4) rfl (fun K hK => ?_) AllReadyH.nil
  go_simp
  refine (put64_nil x1 hx1 _).mono ?_
  rintro e w3 ⟨A3, c3, rfl, o3, b3⟩
  refine hK.out _ _ ?_ (fun hHeld => ?_)
  · exact run_str (o2.step b3) (by omega)
  clear hK K hHeld
  try simp only [Act.put, List.setIfInBounds_toArray, List.set_cons_zero, List.set_cons_succ]
  refine grow_ (S' := fun w' => (convert 22 9 (.slice A2 8 c2)).run Try.prog w' = .ok (.string ⟨(highB x0 8).toArray⟩) w' ∧ (convert 22 9 (.slice A3 8 c3)).run Try.prog w' = .ok (.string ⟨(highB x1 8).toArray⟩) w') (fun _ h => h.1) ?_
  have hHeld := And.intro (run_str (o2.step b3) (by omega)) (run_str o3 (by omega))
  refine take_ (i := 5) (v := ?_) rfl (by kernel_rfl) (by kernel_rfl) (by kernel_rfl) (fun _ _ _ h => h) (Or.inl ⟨by rfl, ?_⟩) hHeld ?_
  rotate_left
  · (intro wx hSw; (try dsimp only at hSw); go_simp; try (with_reducible rfl))
  try simp only [Act.put, List.setIfInBounds_toArray, List.set_cons_zero, List.set_cons_succ]
  refine take_ (i := 6) (v := ?_) rfl (by kernel_rfl) (by kernel_rfl) (by kernel_rfl) (fun _ _ _ h => h) (Or.inl ⟨by rfl, ?_⟩) hHeld ?_
  rotate_left
  · (intro wx hSw; (try dsimp only at hSw); go_simp; try (with_reducible rfl))
  try simp only [Act.put, List.setIfInBounds_toArray, List.set_cons_zero, List.set_cons_succ]
  refine take_ (i := 10) (v := ?_) rfl (by kernel_rfl) (by kernel_rfl) (by kernel_rfl) (fun _ _ _ h => h) (Or.inl ⟨by rfl, ?_⟩) hHeld ?_
  rotate_left
  · (intro wx hSw; (try dsimp only at hSw); go_simp; try (with_reducible rfl))
  try simp only [Act.put, List.setIfInBounds_toArray, List.set_cons_zero, List.set_cons_succ]
  refine take_ (i := 11) (v := ?_) rfl (by kernel_rfl) (by kernel_rfl) (by kernel_rfl) (fun _ _ _ h => h) (Or.inl ⟨by rfl, ?_⟩) hHeld ?_
  rotate_left
  · (intro wx hSw; (try dsimp only at hSw); go_simp; try (with_reducible rfl))
  try simp only [Act.put, List.setIfInBounds_toArray, List.set_cons_zero, List.set_cons_succ]
  refine take_ (i := 12) (v := ?_) rfl (by kernel_rfl) (by kernel_rfl) (by kernel_rfl) (fun _ _ _ h => h) (Or.inl ⟨by rfl, ?_⟩) hHeld ?_
  rotate_left
  · (intro wx hSw; (try dsimp only at hSw); go_simp; try (with_reducible rfl))
  try simp only [Act.put, List.setIfInBounds_toArray, List.set_cons_zero, List.set_cons_succ]
  refine take_ (i := 13) (v := ?_) rfl (by kernel_rfl) (by kernel_rfl) (by kernel_rfl) (fun _ _ _ h => h) (Or.inl ⟨by rfl, ?_⟩) hHeld ?_
  rotate_left
  · (intro wx hSw; (try dsimp only at hSw); go_simp; try (with_reducible rfl))
  try simp only [Act.put, List.setIfInBounds_toArray, List.set_cons_zero, List.set_cons_succ]
  refine take_ (i := 16) (v := ?_) rfl (by kernel_rfl) (by kernel_rfl) (by kernel_rfl) (fun _ _ _ h => h) (Or.inl ⟨by rfl, ?_⟩) hHeld ?_
  rotate_left
  · (intro wx hSw; (try dsimp only at hSw); go_simp; try (with_reducible rfl))
  try simp only [Act.put, List.setIfInBounds_toArray, List.set_cons_zero, List.set_cons_succ]
  refine take_ (i := 17) (v := ?_) rfl (by kernel_rfl) (by kernel_rfl) (by kernel_rfl) (fun _ _ _ h => h) (Or.inl ⟨by rfl, ?_⟩) hHeld ?_
  rotate_left
  · (intro wx hSw; (try dsimp only at hSw); go_simp; try (with_reducible rfl))
  try simp only [Act.put, List.setIfInBounds_toArray, List.set_cons_zero, List.set_cons_succ]
  refine take_ (i := 21) (v := ?_) rfl (by kernel_rfl) (by kernel_rfl) (by kernel_rfl) (fun _ _ _ h => h) (Or.inl ⟨by rfl, ?_⟩) hHeld ?_
  rotate_left
  · (intro wx hSw; (try dsimp only at hSw); go_simp; try (with_reducible rfl))
  try simp only [Act.put, List.setIfInBounds_toArray, List.set_cons_zero, List.set_cons_succ]
  refine take_ (i := 22) (v := ?_) rfl (by kernel_rfl) (by kernel_rfl) (by kernel_rfl) (fun _ _ _ h => h) (Or.inl ⟨by rfl, ?_⟩) hHeld ?_
  rotate_left
  · (intro wx hSw; (try dsimp only at hSw); go_simp; try (with_reducible rfl))
  try simp only [Act.put, List.setIfInBounds_toArray, List.set_cons_zero, List.set_cons_succ]
  refine take_ (i := 23) (v := ?_) rfl (by kernel_rfl) (by kernel_rfl) (by kernel_rfl) (fun _ _ _ h => h) (Or.inl ⟨by rfl, ?_⟩) hHeld ?_
  rotate_left
  · (intro wx hSw; (try dsimp only at hSw); go_simp; try (with_reducible rfl))
  try simp only [Act.put, List.setIfInBounds_toArray, List.set_cons_zero, List.set_cons_succ]
  refine take_ (i := 24) (v := ?_) rfl (by kernel_rfl) (by kernel_rfl) (by kernel_rfl) (fun _ _ _ h => h) (Or.inl ⟨by rfl, ?_⟩) hHeld ?_
  rotate_left
  · (intro wx hSw; (try dsimp only at hSw); go_simp; try (with_reducible rfl))
  try simp only [Act.put, List.setIfInBounds_toArray, List.set_cons_zero, List.set_cons_succ]
  refine take_ (i := 25) (v := ?_) rfl (by kernel_rfl) (by kernel_rfl) (by kernel_rfl) (fun _ _ _ h => h) (Or.inl ⟨by rfl, ?_⟩) hHeld ?_
  rotate_left
  · (intro wx hSw; (try dsimp only at hSw); go_simp; try (with_reducible rfl))
  try simp only [Act.put, List.setIfInBounds_toArray, List.set_cons_zero, List.set_cons_succ]
  refine wpAnyH_ready (rs := [14]) (by kernel_rfl) (by simp) ?_
  refine cons_ (i := 14) rfl (fun K hK => ?_) AllReadyH.nil
  go_simp
  refine (P0.out _).mono ?_
  rintro e w4 ⟨A4, c4, rfl, o4, b4⟩
  refine hK.out _ _ ?_ (fun hHeld => ?_)
  · exact ⟨run_str ((o2.step b3).step b4) (by omega), run_str (o3.step b4) (by omega)⟩
  clear hK K hHeld
  try simp only [Act.put, List.setIfInBounds_toArray, List.set_cons_zero, List.set_cons_succ]
  refine grow_ (S' := fun w' => (convert 22 9 (.slice A2 8 c2)).run Try.prog w' = .ok (.string ⟨(highB x0 8).toArray⟩) w' ∧ (convert 22 9 (.slice A3 8 c3)).run Try.prog w' = .ok (.string ⟨(highB x1 8).toArray⟩) w' ∧ (convert 22 9 (.slice A4 4 c4)).run Try.prog w' = .ok (.string ⟨(highB (x0 % 4294967296) 4).toArray⟩) w') (fun _ h => ⟨h.1, h.2.1⟩) ?_
  have hHeld := And.intro (run_str ((o2.step b3).step b4) (by omega)) (And.intro (run_str (o3.step b4) (by omega)) (run_str o4 (by omega)))
  refine take_ (i := 15) (v := ?_) rfl (by kernel_rfl) (by kernel_rfl) (by kernel_rfl) (fun _ _ _ h => h) (Or.inl ⟨by rfl, ?_⟩) hHeld ?_
  rotate_left
  · (intro wx hSw; (try dsimp only at hSw); go_simp; try (with_reducible rfl))
  try simp only [Act.put, List.setIfInBounds_toArray, List.set_cons_zero, List.set_cons_succ]
  refine wpAnyH_ready (rs := [18]) (by kernel_rfl) (by simp) ?_
  refine cons_ (i := 18) rfl (fun K hK => ?_) AllReadyH.nil
  go_simp
  refine (P1.out _).mono ?_
  rintro e w5 ⟨A5, c5, rfl, o5, b5⟩
  refine hK.out _ _ ?_ (fun hHeld => ?_)
  · exact ⟨run_str (((o2.step b3).step b4).step b5) (by omega), run_str ((o3.step b4).step b5) (by omega), run_str (o4.step b5) (by omega)⟩
  clear hK K hHeld
  try simp only [Act.put, List.setIfInBounds_toArray, List.set_cons_zero, List.set_cons_succ]
  refine grow_ (S' := fun w' => (convert 22 9 (.slice A2 8 c2)).run Try.prog w' = .ok (.string ⟨(highB x0 8).toArray⟩) w' ∧ (convert 22 9 (.slice A3 8 c3)).run Try.prog w' = .ok (.string ⟨(highB x1 8).toArray⟩) w' ∧ (convert 22 9 (.slice A4 4 c4)).run Try.prog w' = .ok (.string ⟨(highB (x0 % 4294967296) 4).toArray⟩) w' ∧ (convert 22 9 (.slice A5 4 c5)).run Try.prog w' = .ok (.string ⟨(highB (x1 % 4294967296) 4).toArray⟩) w') (fun _ h => ⟨h.1, h.2.1, h.2.2.1⟩) ?_
  have hHeld := And.intro (run_str (((o2.step b3).step b4).step b5) (by omega)) (And.intro (run_str ((o3.step b4).step b5) (by omega)) (And.intro (run_str (o4.step b5) (by omega)) (run_str o5 (by omega))))
  refine take_ (i := 19) (v := ?_) rfl (by kernel_rfl) (by kernel_rfl) (by kernel_rfl) (fun _ _ _ h => h) (Or.inl ⟨by rfl, ?_⟩) hHeld ?_
  rotate_left
  · (intro wx hSw; (try dsimp only at hSw); go_simp; try (with_reducible rfl))
  try simp only [Act.put, List.setIfInBounds_toArray, List.set_cons_zero, List.set_cons_succ]
  refine take_ (i := 20) (v := ?_) rfl (by kernel_rfl) (by kernel_rfl) (by kernel_rfl) (fun _ _ _ h => h) (Or.inl ⟨by rfl, ?_⟩) hHeld ?_
  rotate_left
  · (intro wx hSw; (try dsimp only at hSw); go_simp; try (with_reducible rfl))
  try simp only [Act.put, List.setIfInBounds_toArray, List.set_cons_zero, List.set_cons_succ]
  refine take_ (i := 26) (v := ?_) rfl (by kernel_rfl) (by kernel_rfl) (by kernel_rfl) (fun _ _ _ h => h) (Or.inl ⟨by rfl, ?_⟩) hHeld ?_
  rotate_left
  · (intro wx hSw; (try dsimp only at hSw); go_simp; try (with_reducible rfl))
  try simp only [Act.put, List.setIfInBounds_toArray, List.set_cons_zero, List.set_cons_succ]
  refine take_ (i := 27) (v := ?_) rfl (by kernel_rfl) (by kernel_rfl) (by kernel_rfl) (fun _ _ _ h => h) (Or.inl ⟨by rfl, ?_⟩) hHeld ?_
  rotate_left
  · (intro wx hSw; (try dsimp only at hSw); go_simp; try (with_reducible rfl))
  try simp only [Act.put, List.setIfInBounds_toArray, List.set_cons_zero, List.set_cons_succ]
  refine take_ (i := 28) (v := ?_) rfl (by kernel_rfl) (by kernel_rfl) (by kernel_rfl) (fun _ _ _ h => h) (Or.inl ⟨by rfl, ?_⟩) hHeld ?_
  rotate_left
  · (intro wx hSw; (try dsimp only at hSw); go_simp; try (with_reducible rfl))
  try simp only [Act.put, List.setIfInBounds_toArray, List.set_cons_zero, List.set_cons_succ]
  refine wpAnyH_done (by kernel_rfl) ?_ _
  go_wp2_with fail
  go_ret
  exact ⟨rfl, below_step (below_step (below_step (below_step b.drew b2) b3) b4) b5⟩

theorem walk_octetRises (x0 : Nat) (x1 : Nat) (w : World) (m0 : (x0 : Int) ≤ 18446744073709551615) (m1 : (x1 : Int) ≤ 18446744073709551615) :
    Calls Try.prog 9 #[.int .u64 x0, .int .u64 x1] w fun e w' => e = .returned (.bool true) ∧ Below w.heap.size w w' := by
  have h8 := bytesLess_high 8 x0 x1 (by omega) (by omega)
  have h4 := bytesLess_high 4 (x0 % 4294967296) (x1 % 4294967296) (Nat.mod_lt _ (by decide)) (Nat.mod_lt _ (by decide))
  refine walk_rises x0 x1 (decide (x0 < x1)) (decide (x0 % 4294967296 < x1 % 4294967296)) w (by omega) (by omega) h8 ?_ rfl h4 ?_ rfl
  · rw [decide_eq_decide]; omega
  · rw [decide_eq_decide]; omega


set_option maxRecDepth 100000 in
theorem lifted_octetRises (os : Os) (started : os.Started) (H : Type) (enc : TypeId × Value → H) :
    ReturnsInHanded {} Try.checked os 9 .any (Rows.octetRisesSpec.pre6 enc Try.prog Try.f9 Rows.octetRisesRow.domain false) (Rows.octetRisesSpec.post enc Try.prog Try.f9 false true false false) := by
  refine returnsInHanded_of_change_sized (C := Try.checked) own started (by kernel_rfl) Try.func9
    (ChangeSpec.witness6 (enc := enc) (C := Try.checked) false ⟨#[], #[.int .u64 0, .int .u64 0], []⟩ 8 (by kernel_rfl) (by kernel_rfl) (by kernel_rfl) (by kernel_rfl)) ?_
  intro W base args ds gs before hval0 hW hcnd hsz0 _
  have hval : ∀ (j : Nat) t v, Try.f9.params[j]? = some t → args[j]? = some v → Value.okWide Try.prog W .any base t v := hval0
  have hsz : (DataW.weightsEach Try.prog (Try.f9.params.toList ++ Rows.octetRisesSpec.plain.varTypes Try.prog) (ds ++ gs)).all (· ≤ reachBytes) = true := hsz0
  have hW' := hW
  obtain ⟨p, q, hA0, hV, rfl, hfz, hnd⟩ := hW
  have hA : DataW.TrodAll enc Try.prog W 0 (fun _ => true) true Try.f9.params.toList args.toList ds p := hA0
  rw [Try.params9] at hA hval hsz
  obtain ⟨v0, vs0, d0, ds0, p0, q0, hargs, rfl, rfl, h0, t0⟩ := trodAll_cons hA
  obtain ⟨v1, vs1, d1, ds1, p1, q1, rfl, rfl, rfl, h1, t1⟩ := trodAll_cons t0
  obtain ⟨rfl, rfl, rfl⟩ := trodAll_nil t1
  obtain rfl : args = #[v0, v1] := by cases args; simp_all
  obtain ⟨rfl, rfl⟩ := trodVars_none hV
  have k0 := h0
  obtain ⟨z0, rfl, rfl, rfl, wf0⟩ := open_int Try.underlying24 (hval 0 24 v0 rfl rfl) h0
  obtain ⟨x0, rfl, m0⟩ := wf_nat (M := 18446744073709551615) wf0 rfl rfl
  have k1 := h1
  obtain ⟨z1, rfl, rfl, rfl, wf1⟩ := open_int Try.underlying24 (hval 1 24 v1 rfl rfl) h1
  obtain ⟨x1, rfl, m1⟩ := wf_nat (M := 18446744073709551615) wf1 rfl rfl
  clear hA0 hval0
  refine (walk_octetRises x0 x1 W m0 m1).mono fun e W' ⟨he, bel⟩ => ?_
  subst he
  exact ⟨_, rfl, _, _, _, [], _, [], hW', trodAll_mk1 (shut_bool Try.underlying4 _), (trodAll_cons_mk (Below.trod laidOut (by kernel_rfl) (of_decide_eq_true (by kernel_rfl)) k0 bel (trod_places k0)) (trodAll_cons_mk (Below.trod laidOut (by kernel_rfl) (of_decide_eq_true (by kernel_rfl)) k1 bel (trod_places k1)) trodAll_mk0)), rfl, bel.frame _, fun h => by cases h⟩

theorem over_octetRises : Rows.octetRisesRow.holds Try.pinned (OpenSpec.ofChange Rows.octetRisesSpec) :=
  OpenClaim.holds_of_wide 9 Try.f9 rfl rfl rfl rfl rfl rfl rfl ⟨rfl, rfl, rfl, rfl, rfl⟩ rfl rfl rfl rfl rfl (by kernel_rfl) Try.func9 (by kernel_rfl)
    (of_decide_eq_true (by kernel_rfl)) (by unfold Func.isWrapper; first | (rw [if_pos (by decide +kernel)]; kernel_rfl) | (rw [if_neg (by decide +kernel)]; exact ⟨rfl, rfl⟩))
    (fun os started H enc _ => lifted_octetRises os started H enc)

/-- The statement. -/
theorem octetRises_holds : Rows.OctetRisesSaid := over_octetRises
#print axioms octetRises_holds

end Go.Proofs.Ytbofnmlddpbfeaa

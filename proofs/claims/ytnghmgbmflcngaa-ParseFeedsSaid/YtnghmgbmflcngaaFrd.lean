/- frame.Make. Conditions: typed in each theorem. -/
import Derived.Test.YtnghmgbmflcngaaFrc
namespace Go.Proofs.Ytnghmgbmflcngaa
set_option linter.unusedVariables false
open Go.RowKit

def zeroFr : Value := .agg #[.int .u8 0, .int .u8 0, .int .u16 0, .int .u8 0, .int .u8 0, .int .u16 0, .int .u32 0, .int .u32 0, .int .u64 0, .slice none 0 0, .slice none 0 0, .slice none 0 0]
def MakeE (err : Int) (w : World) (e : Ending) (w' : World) : Prop := e = .returned (.tuple #[zeroFr, .int .i64 err]) ∧ Below w.heap.size w w'
set_option maxRecDepth 100000 in
set_option maxHeartbeats 2000000 in
theorem make_M (mg op oq : Nat) (h1 : mg ≠ 128) (h2 : mg ≠ 129) (X K V : Option Addr) (nx cx nk ck nv cv : Nat) (w : World) :
    Calls Try.prog 89 #[.int .u8 mg, .int .u8 op, .int .u32 oq, .slice X nx cx, .slice K nk ck, .slice V nv cv] w (MakeE 290 w) := by
  have t1 := neIt (x := (mg : Int)) (y := 128) (by omega)
  have t2 := neIt (x := (mg : Int)) (y := 129) (by omega)
  clear h1 h2
  go_enter Try.func89, Try.ntmps89
  go_wp2_with fail
  refine bodyPost_ret (v := .tuple #[.agg #[.int .u8 0, .int .u8 0, .int .u16 0, .int .u8 0, .int .u8 0, .int .u16 0, .int .u32 0, .int .u32 0, .int .u64 0, .slice none 0 0, .slice none 0 0, .slice none 0 0], .int .i64 290]) (by simp [results, Try.results89, go_sem]) rfl ?_
  exact ⟨rfl, below_a1' (Below.refl _ _) _⟩
def tooLong (nx nk nv : Nat) : Prop := 255 < nx ∨ 65535 < nk ∨ 2048 < nv ∨ 2048 < nx + nk + nv
set_option maxRecDepth 100000 in
set_option maxHeartbeats 2000000 in
theorem make_L (mg op oq : Nat) (h1 : mg = 128 ∨ mg = 129) (X K V : Option Addr) (nx cx nk ck nv cv : Nat) (hn : nx + nk + nv ≤ 9223372036854775807) (hl : tooLong nx nk nv) (w : World) :
    Calls Try.prog 89 #[.int .u8 mg, .int .u8 op, .int .u32 oq, .slice X nx cx, .slice K nk ck, .slice V nv cv] w (MakeE 3 w) := by
  unfold tooLong at hl
  rcases h1 with rfl | rfl
  all_goals
    by_cases a1 : 255 < nx
    all_goals by_cases a2 : 65535 < nk
    all_goals by_cases a3 : 2048 < nv
    all_goals
      first
        | omega
        | (go_enter Try.func89, Try.ntmps89
           go_wp2_with fail
           refine bodyPost_ret (v := .tuple #[.agg #[.int .u8 0, .int .u8 0, .int .u16 0, .int .u8 0, .int .u8 0, .int .u16 0, .int .u32 0, .int .u32 0, .int .u64 0, .slice none 0 0, .slice none 0 0, .slice none 0 0], .int .i64 3]) (by simp [results, Try.results89, go_sem]) rfl ?_
           exact ⟨rfl, below_a1' (Below.refl _ _) _⟩)
end Go.Proofs.Ytnghmgbmflcngaa

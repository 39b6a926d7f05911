/- ConnPieces: what a talk says, by definition; bytes.Equal; requests loaded. Conditions: typed in each theorem. -/
import Derived.Test.YtnghmgbmflcngaaTlw
import Derived.Test.YtnghmgbmflcngaaRql
import Derived.Test.YtnghmgbmflcngaaStra
namespace Go.Proofs.Ytnghmgbmflcngaa
set_option linter.unusedVariables false
open Go.RowKit
theorem bytesEqual_any (A1 A2 : Option Addr) (n1 c1 n2 c2 B B2 : Nat) (l1 l2 : List UInt8) (w : World) (h1 : Rd w B A1 n1 c1 l1) (h2 : Rd w B2 A2 n2 c2 l2) :
    Calls Try.prog 74 #[.slice A1 n1 c1, .slice A2 n2 c2] w fun e w' => e = .returned (.bool (l1 == l2)) ∧ w = w' := by
  have r1 := run_strA h1
  have r2 := run_strA h2
  go_enter Try.func74, Try.ntmps74
  go_wp2
  go_ret
  exact ⟨rfl, rfl⟩
def TlkR (O : List UInt8) (qs : List RQ) (on N : Nat) (cl : Bool) (w : World) (e : Ending) (w' : World) : Prop :=
  ∃ (XA : Option Addr) (xc : Nat) (LA : Option Addr) (lc : Nat) (L : List (List Value)), e = .returned (.tuple #[.slice XA on xc, .slice LA N lc, .bool cl]) ∧ Rd w' w'.heap.size XA on xc O ∧ Rz w' w'.heap.size 12 LA N lc L.flatten ∧ TRow w' (fun _ => False) qs L ∧ Below w.heap.size w w'
theorem TalkQ.r {l : List UInt8} {w : World} {e : Ending} {w' : World} (h : TalkQ l w e w') : TlkR (talkS l).1 (talkS l).2.1 (talkS l).1.length (talkS l).2.1.length (talkS l).2.2 w e w' := by
  obtain ⟨XA, xn, xc, LA, ln, lc, L, he, h1, h2, h3, h4, h5⟩ := h
  have hx := h1.len
  subst h4
  subst hx
  exact ⟨XA, xc, LA, lc, L, he, h1, h2, h3, h5⟩
end Go.Proofs.Ytnghmgbmflcngaa

/- icehouselaw21.copied. Conditions: typed in each theorem. -/
import Derived.Test.YtnghmgbmflcngaaZrep
import Derived.Test.YtnghmgbmflcngaaZhld
import Derived.Deep.DeepCutAuto
namespace Go.Proofs.Ytnghmgbmflcngaa
set_option linter.unusedVariables false
open Go.RowKit
theorem Oz.base {w : World} {B z n c g : Nat} {e : TypeId} {xs : List Value} (h : Oz w B e z (some ⟨g, 0, none⟩) n c xs) : B ≤ g ∧ g < w.heap.size := World.ownsRow.lt h g rfl
theorem Oz.left {w w' : World} {B z n c g1 g : Nat} {e : TypeId} {xs : List Value} (h : Oz w B e z (some ⟨g1, 0, none⟩) n c xs) (hg : w.grownBy w' (some g)) (hne : g1 ≠ g) : Oz w' B e z (some ⟨g1, 0, none⟩) n c xs :=
  h.grown hg fun k hk => by have e : g1 = k := Option.some.inj hk; omega
theorem Oz.kept {w w' : World} {B z n c g1 g : Nat} {e : TypeId} {xs : List Value} (h : Oz w B e z (some ⟨g1, 0, none⟩) n c xs) (hg : w.grownBy w' (some g)) (hlt : g < B) : Oz w' B e z (some ⟨g1, 0, none⟩) n c xs :=
  h.left hg (by have := h.base; omega)
end Go.Proofs.Ytnghmgbmflcngaa

/- maps.Values at this program. Conditions: typed in each theorem. -/
import Derived.Test.YtdemalocjpfdnaaSfL
import Derived.Shelf.SlIter.AllValues
import Derived.Ground.GgmProg
namespace Go.Proofs
open Go.RowKit Go.Maps Go.Sort Go.Shelf
shelf_lay_g SlLaysY.n5 Ggm 5 at Try 10 as Try.valuesL
end Go.Proofs
namespace Go.Proofs.Ytdemalocjpfdnaa
open Go.RowKit Go.Maps Go.Sort Go.Shelf
theorem values25_any (mb : Option Nat) (w : World) : Calls Try.prog 10 #[.map mb] w fun e w' => e = .returned (.func (.func 17) #[] #[.pointer (some ⟨w.heap.size, 0, none⟩)]) ∧ w' = w.alloc (.cells #[.map mb] 40) :=
  (callsIn_wide (n := 3)).1 (AnyY.values_in { Try.valuesL with } Fence.wide 3 trivial rfl mb w)
theorem values25_stops {H : Type} (Bm b nn : Nat) (D0 : DataW H) (w : World) (hBm : Bm < w.heap.size)
    (hm : w.cell? ⟨Bm, 0, none⟩ = some (.map (some b))) (hown : w.ownsMap Try.prog 9 (plainElem Try.prog 3) b nn D0) :
    SeqStops Fence.wide 2 Try.prog 17 #[.pointer (some ⟨Bm, 0, none⟩)] (fun c : Int => Value.int .i64 c) (fun xs => ∃ ps, AnyY.AllOf D0 ps ∧ xs = ps.map (·.2)) (fun pre => ∃ ps, AnyY.PartOf D0 ps ∧ pre = ps.map (·.2)) (Maps.size D0) w :=
  AnyY.values_stops (ρ := Try.valuesL_ren) { Try.valuesL with } Fence.wide 2 trivial rfl (by omega) Bm b nn D0 w hBm hm hown
end Go.Proofs.Ytdemalocjpfdnaa

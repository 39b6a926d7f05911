/- maps.Values at this program. Conditions: typed in each theorem. -/
import Derived.Test.YtajjoepdkikeeaaSfL
import Derived.Shelf.SlIter.AllValues
import Derived.Ground.GgmProg
namespace Go.Proofs
open Go.RowKit Go.Maps Go.Sort Go.Shelf
def Try.valuesL_ren : Go.Shelf.Ren := ⟨fun | 5 => 10 | 7 => 17 | n => n, fun | 23 => 40 | 27 => 9 | 3 => 3 | 25 => 42 | 0 => 0 | 24 => 41 | 33 => 56 | 4 => 4 | n => n, fun | n => n⟩
theorem Try.valuesL : Go.Proofs.SlLaysY.n5 Try.prog Try.valuesL_ren := {
  mixed := by kernel_rfl
  f5 := ⟨Try.f10.name, by decide, Try.func10.trans (congrArg some (by kernel_rfl))⟩
  f7 := ⟨Try.f17.name, by decide, Try.func17.trans (congrArg some (by kernel_rfl))⟩
  t0 := Try.underlying0
  a0 := Try.isAgg0
  z0 := Try.sizeOf0
  v0 := Try.zeroValue0
  t3 := Try.underlying3
  a3 := Try.isAgg3
  z3 := Try.sizeOf3
  v3 := Try.zeroValue3
  t4 := Try.underlying4
  a4 := Try.isAgg4
  z4 := Try.sizeOf4
  v4 := Try.zeroValue4
  t23 := Try.underlying40
  a23 := Try.isAgg40
  z23 := Try.sizeOf40
  v23 := Try.zeroValue40
  t24 := Try.underlying41
  a24 := Try.isAgg41
  z24 := Try.sizeOf41
  v24 := Try.zeroValue41
  t25 := Try.underlying42
  a25 := Try.isAgg42
  z25 := Try.sizeOf42
  v25 := Try.zeroValue42
  t27 := Try.underlying9
  a27 := Try.isAgg9
  z27 := Try.sizeOf9
  v27 := Try.zeroValue9
  t33 := Try.underlying56
  a33 := Try.isAgg56
  z33 := Try.sizeOf56
  v33 := Try.zeroValue56 }
end Go.Proofs
namespace Go.Proofs.Ytajjoepdkikeeaa
open Go.RowKit Go.Maps Go.Sort Go.Shelf
theorem values25_any (mb : Option Nat) (w : World) : Calls Try.prog 10 #[.map mb] w fun e w' => e = .returned (.func (.func 17) #[] #[.pointer (some ⟨w.heap.size, 0, none⟩)]) ∧ w' = w.alloc (.cells #[.map mb] 40) :=
  (callsIn_wide (n := 3)).1 (AnyY.values_in { Try.valuesL with } Fence.wide 3 trivial rfl mb w)
theorem values25_stops {H : Type} (Bm b nn : Nat) (D0 : DataW H) (w : World) (hBm : Bm < w.heap.size)
    (hm : w.cell? ⟨Bm, 0, none⟩ = some (.map (some b))) (hown : w.ownsMap Try.prog 9 (plainElem Try.prog 3) b nn D0) :
    SeqStops Fence.wide 2 Try.prog 17 #[.pointer (some ⟨Bm, 0, none⟩)] (fun c : Int => Value.int .i64 c) (fun xs => ∃ ps, AnyY.AllOf D0 ps ∧ xs = ps.map (·.2)) (fun pre => ∃ ps, AnyY.PartOf D0 ps ∧ pre = ps.map (·.2)) (Maps.size D0) w :=
  AnyY.values_stops (ρ := Try.valuesL_ren) { Try.valuesL with } Fence.wide 2 trivial rfl (by omega) Bm b nn D0 w hBm hm hown
end Go.Proofs.Ytajjoepdkikeeaa

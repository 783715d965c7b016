/-
  Closed facts of the program that every row asks, each in a declaration of its own.
-/
import Derived.Test.YtmdpgjdepflbmaaGreatRows
import Derived.Test.YtmdpgjdepflbmaaGreatProg
import Derived.Test.YtmdpgjdepflbmaaGreatChecked
import Derived.ChangeOld
import Derived.JoinedOf
namespace Go.Proofs.YtmdpgjdepflbmaaGreat.fact
open Go.ChangeShapes Go.WideShapes
theorem laid : laidOutB Tryz.prog = true := by kernel_rfl
theorem rowed : mapsRowed Tryz.prog = true := by kernel_rfl
theorem stops : (Tryz.prog.stops == []) = true := by kernel_rfl
theorem stopKnobs : (Tryz.prog.stopKnobs == []) = true := by kernel_rfl
theorem heard : Tryz.prog.stopsHeard = true := by kernel_rfl
theorem enter : Tryz.prog.mayEnter = true := by kernel_rfl
theorem own : ownKnob Tryz.prog.godebug = none := by kernel_rfl
end Go.Proofs.YtmdpgjdepflbmaaGreat.fact

/- Words on the memory and on the program's functions, of the kit's print, those alone that are used here. -/
import Derived.Test.YtmdpgjdepflbmaaGreatProg
import Derived.Below
import Derived.Deep.Draws
import Derived.Deep.AppendLies
import Derived.Maps.AppendAt
import Derived.OwnWalk
import Derived.Laws.BytesArg
import Derived.Laws.MakeOwn
import Derived.Laws.OwnMore
import Derived.Deep.OwnRows
import Derived.Tactics
import Derived.Lib.ConvBytes
import Derived.Laws.Slices
import Derived.WalkKit
import Derived.KernelRfl
import Derived.RowKit3
import Derived.Deep.LoopGhost
import Derived.Deep.QuietTactic
import Derived.BigQuiet
import Derived.WideLaws
import Derived.Deep.DeepCutAuto
import Derived.Deep.CutBlock
import Derived.Deep.RegionHeld3
import Derived.Laws.Rows
import Derived.Lib.AppendStr
import Derived.ArgAppend
import Derived.Laws.IdiomCopy
import Derived.OrdersHeld
import Derived.Laws.BitsLemmas
import Derived.RowKit
import Derived.Test.YtmdpgjdepflbmaaGreatCWWords
import Derived.Test.YtmdpgjdepflbmaaGreatCWLast
import Derived.Test.YtmdpgjdepflbmaaGreatCWTab
import Derived.Test.YtmdpgjdepflbmaaGreatCWFour
import Derived.Test.YtmdpgjdepflbmaaGreatCWQPut
import Derived.Test.YtmdpgjdepflbmaaGreatCWApart
import Derived.Test.YtmdpgjdepflbmaaGreatCWArr
import Derived.Test.YtmdpgjdepflbmaaGreatCWZeros
import Derived.Test.YtmdpgjdepflbmaaGreatCWFoot
import Derived.Test.YtmdpgjdepflbmaaGreatCWKept
import Derived.Test.YtmdpgjdepflbmaaGreatCWShare
import Derived.Test.YtmdpgjdepflbmaaGreatCWN
import Derived.Test.YtmdpgjdepflbmaaGreatCWFootNe
import Derived.Test.YtmdpgjdepflbmaaGreatCWAt
import Derived.Test.YtmdpgjdepflbmaaGreatCWEqStruct
import Derived.Test.YtmdpgjdepflbmaaGreatCWRepsOne
import Derived.Test.YtmdpgjdepflbmaaGreatCWInv
import Derived.Test.YtmdpgjdepflbmaaGreatCWInvWords
import Derived.Test.YtmdpgjdepflbmaaGreatCWGuard
import Derived.Test.YtmdpgjdepflbmaaGreatCWNEv
import Derived.Test.YtmdpgjdepflbmaaGreatCWMore
namespace Go.Proofs.YtmdpgjdepflbmaaGreat.PPagerFolds
open Go.RowKit Go.Proofs.YtmdpgjdepflbmaaGreatW.PrintWords Go.Proofs.YtmdpgjdepflbmaaGreatW.PrintLast Go.Proofs.YtmdpgjdepflbmaaGreatW.PrintMore
attribute [local go_sem] max2_int min2_int max_two min_two max_three min_three max_four min_four   -- for this text's walks alone
set_option linter.unusedVariables false
set_option linter.unusedSimpArgs false



def errW : Option Int → Value
  | none => .nilIface
  | some c => .iface 0 (.int .i64 c)
theorem errW_none : errW none = .nilIface := rfl
theorem errW_some (c : Int) : errW (some c) = .iface 0 (.int .i64 c) := rfl

theorem info5 : (Tryz.prog.info? 5).map (fun i => (i.zero, i.size, i.bytes)) = some (some (.int .u8 0), 1, 1) := by kernel_rfl
theorem info48 : (Tryz.prog.info? 48).map (fun i => (i.zero, i.size, i.bytes)) = some (some (.slice none 0 0), 1, 24) := by kernel_rfl
-- the values' own types
end Go.Proofs.YtmdpgjdepflbmaaGreat.PPagerFolds

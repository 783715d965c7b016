/- Words on the memory and on the program's functions, of the kit's print, those alone that are used here. -/
import Derived.Test.YtmdpgjdepflbmaaGreatCWInv
import Derived.Test.YtmdpgjdepflbmaaGreatCWFootNe
namespace Go.Proofs.YtmdpgjdepflbmaaGreatW.PrintWords
open Go.RowKit
end Go.Proofs.YtmdpgjdepflbmaaGreatW.PrintWords
namespace Go.Proofs.YtmdpgjdepflbmaaGreatW.PrintLast
section
variable {ops : Array Oper} {a : Act} {o og : Oper} {g : Nat} {t : Tmp} {u : Bool}
end
end Go.Proofs.YtmdpgjdepflbmaaGreatW.PrintLast

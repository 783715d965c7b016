/- Words on the memory and on the program's functions, of the kit's print, those alone that are used here. -/
import Derived.Test.YtmdpgjdepflbmaaGreatCWWords
import Derived.Laws.StructEq
/-! ### 53. '==' of structs as_ one Bool -/
namespace Go.Proofs.YtmdpgjdepflbmaaGreatW.PrintWords
open Go.RowKit
section
variable {P : Program} {d : Nat} {xs ys : Array Value} {f : Field} {fs : List Field} {a b : Value} {r s : Bool} {w : World}
end
end Go.Proofs.YtmdpgjdepflbmaaGreatW.PrintWords

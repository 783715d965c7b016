/- Words on the memory and on the program's functions, of the kit's print, those alone that are used here. -/
import Derived.Test.YtmdpgjdepflbmaaGreatCPPagesModelx0
namespace Go.Proofs.YtmdpgjdepflbmaaGreat.PPagesModel
open Go.RowKit Go.Proofs.YtmdpgjdepflbmaaGreatW.PrintWords Go.Proofs.YtmdpgjdepflbmaaGreatW.PrintLast Go.Proofs.YtmdpgjdepflbmaaGreatW.PrintMore
attribute [local go_sem] max2_int min2_int max_two min_two max_three min_three max_four min_four   -- for this text's walks alone
set_option linter.unusedVariables false
set_option linter.unusedSimpArgs false

/-! ### cadastrelaw0_Numbers: function 45 -/
def cadastrelaw0_Numbers.l0 : Nat → List Int → Int → Option (Unit)
  | 0, _, _ => none
  | k + 1, x0, x2 => if x2 < (x0.length : Int) then (if 0 ≤ x2 then (cadastrelaw0_Numbers.l0 k (x0.set (x2 : Int).toNat (-99)) (wrap64 (x2 + 1))) else (none)) else (if x0.length < 17592186044416 then (some ()) else (none))
def cadastrelaw0_Numbers.f (k : Nat) (l0 : List Int) : Option (Unit) := cadastrelaw0_Numbers.l0 k l0 0
-- NOT PRINTED: function 12 (cadastrelaw13_PagesModel)

end Go.Proofs.YtmdpgjdepflbmaaGreat.PPagesModel

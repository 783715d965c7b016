/- Words on the memory and on the program's functions, of the kit's print, those alone that are used here. -/
import Derived.Test.YtmdpgjdepflbmaaGreatCPPagesModelx0
namespace Go.Proofs.YtmdpgjdepflbmaaGreat.PPagesModel
open Go.RowKit Go.Proofs.YtmdpgjdepflbmaaGreatW.PrintWords Go.Proofs.YtmdpgjdepflbmaaGreatW.PrintLast Go.Proofs.YtmdpgjdepflbmaaGreatW.PrintMore
attribute [local go_sem] max2_int min2_int max_two min_two max_three min_three max_four min_four   -- for this text's walks alone
set_option linter.unusedVariables false
set_option linter.unusedSimpArgs false

/-! ### cadastrelaw0_Numbers: function 45 -/
-- NOT PRINTED: function 12 (cadastrelaw13_PagesModel)

end Go.Proofs.YtmdpgjdepflbmaaGreat.PPagesModel

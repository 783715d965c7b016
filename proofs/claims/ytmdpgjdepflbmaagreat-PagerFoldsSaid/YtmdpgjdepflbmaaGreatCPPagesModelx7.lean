/- Words on the memory and on the program's functions, of the kit's print, those alone that are used here. -/
import Derived.Test.YtmdpgjdepflbmaaGreatCPPagesModelx0
import Derived.Test.YtmdpgjdepflbmaaGreatCPPagesModelx5
namespace Go.Proofs.YtmdpgjdepflbmaaGreat.PPagesModel
open Go.RowKit Go.Proofs.YtmdpgjdepflbmaaGreatW.PrintWords Go.Proofs.YtmdpgjdepflbmaaGreatW.PrintLast Go.Proofs.YtmdpgjdepflbmaaGreatW.PrintMore
attribute [local go_sem] max2_int min2_int max_two min_two max_three min_three max_four min_four   -- for this text's walks alone
set_option linter.unusedVariables false
set_option linter.unusedSimpArgs false

/-! ### cadastrelaw13_page: function 74 -/
-- NOT PRINTED: function 75 (pages_Pages_Write)

-- NOT PRINTED: function 76 (pages_Pages_SetRoot)

/-! ### pages_spare: function 107 -/
-- NOT PRINTED: function 77 (pages_Pages_Alloc)

-- NOT PRINTED: function 78 (cadastrelaw13_model_add)

-- NOT PRINTED: function 38 (cadastrelaw13_model_act)

-- NOT PRINTED: function 40 (pages_Pages_Held)

/-! ### cadastreref0_EqNumbers: function 41 -/
-- NOT PRINTED: function 44 (cadastrelaw13_wakes)

end Go.Proofs.YtmdpgjdepflbmaaGreat.PPagesModel

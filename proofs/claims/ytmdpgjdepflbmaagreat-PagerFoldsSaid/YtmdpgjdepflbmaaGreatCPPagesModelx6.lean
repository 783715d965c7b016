/- Words on the memory and on the program's functions, of the kit's print, those alone that are used here. -/
import Derived.Test.YtmdpgjdepflbmaaGreatCPPagesModelx0
namespace Go.Proofs.YtmdpgjdepflbmaaGreat.PPagesModel
open Go.RowKit Go.Proofs.YtmdpgjdepflbmaaGreatW.PrintWords Go.Proofs.YtmdpgjdepflbmaaGreatW.PrintLast Go.Proofs.YtmdpgjdepflbmaaGreatW.PrintMore
attribute [local go_sem] max2_int min2_int max_two min_two max_three min_three max_four min_four   -- for this text's walks alone
set_option linter.unusedVariables false
set_option linter.unusedSimpArgs false

/-! ### slices_Index_int_int: function 108 -/
/-! ### slices_Contains_int_int: function 83 -/
-- NOT PRINTED: function 84 (pages_Pages_held)

-- NOT PRINTED: function 42 (pages_Pages_Read)

/-! ### pages_isRoot: function 85 -/
-- NOT PRINTED: function 46 (pages_Pages_Root)

/-! ### cadastrelaw0_Bytes: function 66 -/
-- NOT PRINTED: function 71 (cadastrelaw13_model_find)

/-! ### pages_set: function 105 -/
-- NOT PRINTED: function 20 (pager_Pager_Write)

-- NOT PRINTED: function 106 (pages_Pages_write)

-- NOT PRINTED: function 72 (pages_Pages_Free)

-- NOT PRINTED: function 73 (cadastrelaw13_model_drop)

end Go.Proofs.YtmdpgjdepflbmaaGreat.PPagesModel

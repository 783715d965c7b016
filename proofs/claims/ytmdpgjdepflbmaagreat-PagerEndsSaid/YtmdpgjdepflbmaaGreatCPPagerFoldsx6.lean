/- Words on the memory and on the program's functions, of the kit's print, those alone that are used here. -/
import Derived.Test.YtmdpgjdepflbmaaGreatCPPagerFoldsx0
namespace Go.Proofs.YtmdpgjdepflbmaaGreat.PPagerFolds
open Go.RowKit Go.Proofs.YtmdpgjdepflbmaaGreatW.PrintWords Go.Proofs.YtmdpgjdepflbmaaGreatW.PrintLast Go.Proofs.YtmdpgjdepflbmaaGreatW.PrintMore
attribute [local go_sem] max2_int min2_int max_two min_two max_three min_three max_four min_four   -- for this text's walks alone
set_option linter.unusedVariables false
set_option linter.unusedSimpArgs false

/-! ### cadastrelaw12_put: function 22 -/
-- NOT PRINTED: function 60 (pager_mark)

-- NOT PRINTED: function 96 (maps_clone)

-- NOT PRINTED: function 62 (maps_Clone_map_int_byte_int_byte)

-- NOT PRINTED: function 31 (pager_Pager_Back)

-- NOT PRINTED: function 32 (pager_Pager_Mark)

-- NOT PRINTED: function 35 (pager_Pager_Fold)

/-! ### cadastrelaw0_Bytes: function 66 -/
-- NOT PRINTED: function 34 (cadastrelaw12_model_act)

-- NOT PRINTED: function 11 (cadastrelaw12_PagerFolds)

end Go.Proofs.YtmdpgjdepflbmaaGreat.PPagerFolds

/- Words on the memory and on the program's functions, of the kit's print, those alone that are used here. -/
import Derived.Test.YtmdpgjdepflbmaaGreatCPPagesModelx0
namespace Go.Proofs.YtmdpgjdepflbmaaGreat.PPagesModel
open Go.RowKit Go.Proofs.YtmdpgjdepflbmaaGreatW.PrintWords Go.Proofs.YtmdpgjdepflbmaaGreatW.PrintLast Go.Proofs.YtmdpgjdepflbmaaGreatW.PrintMore
attribute [local go_sem] max2_int min2_int max_two min_two max_three min_three max_four min_four   -- for this text's walks alone
set_option linter.unusedVariables false
set_option linter.unusedSimpArgs false

/-! ### cadastreref0_EqBytes: function 24 -/
-- NOT PRINTED: function 25 (pager_Pager_Count)

-- NOT PRINTED: function 53 (pager_Pager_ask)

-- NOT PRINTED: function 55 (pager_Pager_page)

/-! ### slices_Equal_byte_byte: function 90 -/
-- NOT PRINTED: function 56 (pager_Pager_news)

-- NOT PRINTED: function 91 (pager_Pager_lay)

/-! ### pager_put: function 120 -/
-- NOT PRINTED: function 92 (pager_block)

-- NOT PRINTED: function 57 (pager_Pager_byJournal)

-- NOT PRINTED: function 58 (pager_Pager_byLog)

-- NOT PRINTED: function 26 (pager_Pager_Commit)

-- NOT PRINTED: function 13 (disk_New)

-- NOT PRINTED: function 14 (locks_New)

/-! ### cadastrelaw12_num: function 15 -/
-- NOT PRINTED: function 16 (pager_Open)

-- NOT PRINTED: function 30 (cadastrelaw12_Open)

/-! ### cadastrelaw13_num: function 39 -/
-- NOT PRINTED: function 43 (pages_New)

-- NOT PRINTED: function 37 (cadastrelaw13_Start)

/-! ### cadastrelaw0_Within: function 18 -/
/-! ### pager_good: function 54 -/
-- NOT PRINTED: function 23 (pager_Pager_Read)

-- NOT PRINTED: function 79 (pages_Pages_own)

/-! ### pages_word: function 81 -/
-- NOT PRINTED: function 80 (pages_Pages_high)

/-! ### pages_bit: function 82 -/
end Go.Proofs.YtmdpgjdepflbmaaGreat.PPagesModel

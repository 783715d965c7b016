/- Words on the memory and on the program's functions, of the kit's print, those alone that are used here. -/
import Derived.Test.YtmdpgjdepflbmaaGreatCPPagesModelx0
import Derived.Test.YtmdpgjdepflbmaaGreatCPPagesModelx5
namespace Go.Proofs.YtmdpgjdepflbmaaGreat.PPagesModel
open Go.RowKit Go.Proofs.YtmdpgjdepflbmaaGreatW.PrintWords Go.Proofs.YtmdpgjdepflbmaaGreatW.PrintLast Go.Proofs.YtmdpgjdepflbmaaGreatW.PrintMore
attribute [local go_sem] max2_int min2_int max_two min_two max_three min_three max_four min_four   -- for this text's walks alone
set_option linter.unusedVariables false
set_option linter.unusedSimpArgs false

/-! ### cadastrelaw13_page: function 74 -/
def cadastrelaw13_page.l0 : Nat → Int → List Int → Int → Option (List Int)
  | 0, _, _, _ => none
  | k + 1, x0, x3, x4 => if x4 < (x3.length : Int) then (if 0 ≤ x4 then (cadastrelaw13_page.l0 k x0 (x3.set (x4 : Int).toNat ((wrap64 (x0 + (Int.tmod x4 5))) % 256)) (wrap64 (x4 + 1))) else (none)) else (some x3)
def cadastrelaw13_page.f (k : Nat) (a0 : Int) : Option (List Int) := if 512 ≤ 281474976710656 then (cadastrelaw13_page.l0 k a0 (List.replicate 512 0) 0) else (none)
-- NOT PRINTED: function 75 (pages_Pages_Write)

-- NOT PRINTED: function 76 (pages_Pages_SetRoot)

/-! ### pages_spare: function 107 -/
def pages_spare.l0 : Nat → List Int → Int → Option (Int)
  | 0, _, _ => none
  | k + 1, x0, x3 => (pages_word.f x0 16).bind fun t354 => (if x3 ≤ (mn t354 3936) then ((pages_bit.f x3).bind fun bt355 => (if 0 ≤ bt355.1 then (if bt355.1 < (x0.length : Int) then (if (Go.bits .and .u8 (rd x0 bt355.1) bt355.2) = 0 then (some x3) else (pages_spare.l0 k x0 (wrap64 (x3 + 1)))) else (none)) else (none))) else (some 0))
def pages_spare.f (k : Nat) (l0 : List Int) : Option (Int) := pages_spare.l0 k l0 1
-- NOT PRINTED: function 77 (pages_Pages_Alloc)

-- NOT PRINTED: function 78 (cadastrelaw13_model_add)

-- NOT PRINTED: function 38 (cadastrelaw13_model_act)

-- NOT PRINTED: function 40 (pages_Pages_Held)

/-! ### cadastreref0_EqNumbers: function 41 -/
def cadastreref0_EqNumbers.l0 : Nat → List Int → List Int → Int → Option (Bool)
  | 0, _, _, _ => none
  | k + 1, x0, x1, x5 => if x5 < (x0.length : Int) then (if 0 ≤ x5 then (if x5 < (x1.length : Int) then (if (rd x0 x5) = (rd x1 x5) then (cadastreref0_EqNumbers.l0 k x0 x1 (wrap64 (x5 + 1))) else (some false)) else (none)) else (none)) else (some true)
def cadastreref0_EqNumbers.f (k : Nat) (l0 : List Int) (l1 : List Int) : Option (Bool) := if (l0.length : Int) = (l1.length : Int) then (cadastreref0_EqNumbers.l0 k l0 l1 0) else (some false)
-- NOT PRINTED: function 44 (cadastrelaw13_wakes)

end Go.Proofs.YtmdpgjdepflbmaaGreat.PPagesModel

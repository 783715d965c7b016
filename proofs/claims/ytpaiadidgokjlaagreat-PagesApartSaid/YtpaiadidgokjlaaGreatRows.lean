/-
  No cell of these rows narrows 'for every input' (looked for: loops, veiled, ifaces, maps, wideKeys, modest, calm, conditions, laid).
  DERIVED. THE GIVEN ROWS OF THIS SEAT. 11 by the template 'for every input the law returns true; each argument reads behind the call as it read before'; 0 by the template 'total and deterministic' (their statements: YtpaiadidgokjlaaGreatTotals.lean).
  GIVEN WITH THE SEED: the statements are not yours to turn. If you find one false, say at which input.
  Laid BY PROGRAM, IN A SANDBOX (cutbox-rows.mjs): the forced cells as the released guide's own fill.sh prints them over the translation 077724825c375d21… (all of the seat's roots in one cut). By AI agents, Wed Nov 11 2026. No macro, syntax, notation, axiom, sorry.
-/
import Derived.Test.YtpaiadidgokjlaaGreatChecked
import GoSem.Claim
import GoSem.ClaimJoined
import GoSem.ClaimMapViews
import Derived.JoinedTies
import Derived.KernelRfl
namespace Go.Proofs.YtpaiadidgokjlaaGreat
/- THE CELL 'sum', in the pinned program and in every row, IS THE sha256 OF THE DUMP (.gsa) THAT YtpaiadidgokjlaaGreatProg.lean LOADS. Nothing in Lean hashes anything: it is a label: what it is worth is what the hold of that sum in a sandbox is worth. -/
noncomputable def Tryz.pinned : Pinned := { name := "ytpaiadidgokjlaagreat", sum := "077724825c375d218c6bc23c727c265a4a184f0b8435148521677787ed39b916", checked := Tryz.checked }
namespace Rows
def none {H : Type} : Left H := { results := [], args := [] }

/-- 'cadastrelaw13.PagesApart': WHATEVER THE INPUT: true; the input reads as it did. -/
def pagesApartSpec : ChangeSpec := { name := "pagesApart", fn := fun _ => fun
  | [d] => { results := [.lit (.bool true)], args := [d] }
  | _ => none }
def pagesApartRow : OpenClaim := { program := "ytpaiadidgokjlaagreat", sum := "077724825c375d218c6bc23c727c265a4a184f0b8435148521677787ed39b916", func := "cadastre/cadastrelaw13.PagesApart", spec := "pagesApart", unfollowed := true, recurses := true, apart := false }
def PagesApartSaid : Prop := pagesApartRow.holds Tryz.pinned (OpenSpec.ofChange pagesApartSpec)

/-- ITS FALSE NEIGHBOUR: 'it returns false'. Refute it at one input. -/
def pagesApartWrong : ChangeSpec := { name := "pagesApart", fn := fun _ => fun
  | [d] => { results := [.lit (.bool false)], args := [d] }
  | _ => none }
def PagesApartWrongFalsely : Prop := pagesApartRow.holds Tryz.pinned (OpenSpec.ofChange pagesApartWrong)

/-- 'cadastrelaw13.PagesNone': WHATEVER THE INPUT: true; the input reads as it did. -/
def pagesNoneSpec : ChangeSpec := { name := "pagesNone", fn := fun _ => fun
  | [d] => { results := [.lit (.bool true)], args := [d] }
  | _ => none }
def pagesNoneRow : OpenClaim := { program := "ytpaiadidgokjlaagreat", sum := "077724825c375d218c6bc23c727c265a4a184f0b8435148521677787ed39b916", func := "cadastre/cadastrelaw13.PagesNone", spec := "pagesNone", unfollowed := true, recurses := true, apart := false }
def PagesNoneSaid : Prop := pagesNoneRow.holds Tryz.pinned (OpenSpec.ofChange pagesNoneSpec)

/-- ITS FALSE NEIGHBOUR: 'it returns false'. Refute it at one input. -/
def pagesNoneWrong : ChangeSpec := { name := "pagesNone", fn := fun _ => fun
  | [d] => { results := [.lit (.bool false)], args := [d] }
  | _ => none }
def PagesNoneWrongFalsely : Prop := pagesNoneRow.holds Tryz.pinned (OpenSpec.ofChange pagesNoneWrong)

/-- 'cadastrelaw13.PagesBack': WHATEVER THE INPUT: true; the input reads as it did. -/
def pagesBackSpec : ChangeSpec := { name := "pagesBack", fn := fun _ => fun
  | [d] => { results := [.lit (.bool true)], args := [d] }
  | _ => none }
def pagesBackRow : OpenClaim := { program := "ytpaiadidgokjlaagreat", sum := "077724825c375d218c6bc23c727c265a4a184f0b8435148521677787ed39b916", func := "cadastre/cadastrelaw13.PagesBack", spec := "pagesBack", inPlace := ["maps.clone"], unfollowed := true, recurses := true, apart := false }
def PagesBackSaid : Prop := pagesBackRow.holds Tryz.pinned (OpenSpec.ofChange pagesBackSpec)

/-- ITS FALSE NEIGHBOUR: 'it returns false'. Refute it at one input. -/
def pagesBackWrong : ChangeSpec := { name := "pagesBack", fn := fun _ => fun
  | [d] => { results := [.lit (.bool false)], args := [d] }
  | _ => none }
def PagesBackWrongFalsely : Prop := pagesBackRow.holds Tryz.pinned (OpenSpec.ofChange pagesBackWrong)

/-- 'cadastrelaw13.PagesModel': WHATEVER THE INPUT: true; the input reads as it did. -/
def pagesModelSpec : ChangeSpec := { name := "pagesModel", fn := fun _ => fun
  | [d] => { results := [.lit (.bool true)], args := [d] }
  | _ => none }
def pagesModelRow : OpenClaim := { program := "ytpaiadidgokjlaagreat", sum := "077724825c375d218c6bc23c727c265a4a184f0b8435148521677787ed39b916", func := "cadastre/cadastrelaw13.PagesModel", spec := "pagesModel", unfollowed := true, recurses := true, apart := false }
def PagesModelSaid : Prop := pagesModelRow.holds Tryz.pinned (OpenSpec.ofChange pagesModelSpec)

/-- ITS FALSE NEIGHBOUR: 'it returns false'. Refute it at one input. -/
def pagesModelWrong : ChangeSpec := { name := "pagesModel", fn := fun _ => fun
  | [d] => { results := [.lit (.bool false)], args := [d] }
  | _ => none }
def PagesModelWrongFalsely : Prop := pagesModelRow.holds Tryz.pinned (OpenSpec.ofChange pagesModelWrong)

/-- 'cadastrelaw14.TreeOrders': WHATEVER THE INPUT: true; the input reads as it did. -/
def treeOrdersSpec : ChangeSpec := { name := "treeOrders", fn := fun _ => fun
  | [d] => { results := [.lit (.bool true)], args := [d] }
  | _ => none }
def treeOrdersRow : OpenClaim := { program := "ytpaiadidgokjlaagreat", sum := "077724825c375d218c6bc23c727c265a4a184f0b8435148521677787ed39b916", func := "cadastre/cadastrelaw14.TreeOrders", spec := "treeOrders", inPlace := ["internal/bytealg.Compare", "slices.overlaps[[]byte]", "slices.overlaps[int]"], unfollowed := true, recurses := true, apart := false }
def TreeOrdersSaid : Prop := treeOrdersRow.holds Tryz.pinned (OpenSpec.ofChange treeOrdersSpec)

/-- ITS FALSE NEIGHBOUR: 'it returns false'. Refute it at one input. -/
def treeOrdersWrong : ChangeSpec := { name := "treeOrders", fn := fun _ => fun
  | [d] => { results := [.lit (.bool false)], args := [d] }
  | _ => none }
def TreeOrdersWrongFalsely : Prop := treeOrdersRow.holds Tryz.pinned (OpenSpec.ofChange treeOrdersWrong)

/-- 'cadastrelaw14.TreeWalks': WHATEVER THE INPUT: true; the input reads as it did. -/
def treeWalksSpec : ChangeSpec := { name := "treeWalks", fn := fun _ => fun
  | [d] => { results := [.lit (.bool true)], args := [d] }
  | _ => none }
def treeWalksRow : OpenClaim := { program := "ytpaiadidgokjlaagreat", sum := "077724825c375d218c6bc23c727c265a4a184f0b8435148521677787ed39b916", func := "cadastre/cadastrelaw14.TreeWalks", spec := "treeWalks", inPlace := ["internal/bytealg.Compare", "slices.overlaps[[]byte]", "slices.overlaps[int]"], unfollowed := true, recurses := true, apart := false }
def TreeWalksSaid : Prop := treeWalksRow.holds Tryz.pinned (OpenSpec.ofChange treeWalksSpec)

/-- ITS FALSE NEIGHBOUR: 'it returns false'. Refute it at one input. -/
def treeWalksWrong : ChangeSpec := { name := "treeWalks", fn := fun _ => fun
  | [d] => { results := [.lit (.bool false)], args := [d] }
  | _ => none }
def TreeWalksWrongFalsely : Prop := treeWalksRow.holds Tryz.pinned (OpenSpec.ofChange treeWalksWrong)

/-- 'cadastrelaw14.TreeNone': WHATEVER THE INPUT: true; the input reads as it did. -/
def treeNoneSpec : ChangeSpec := { name := "treeNone", fn := fun _ => fun
  | [d] => { results := [.lit (.bool true)], args := [d] }
  | _ => none }
def treeNoneRow : OpenClaim := { program := "ytpaiadidgokjlaagreat", sum := "077724825c375d218c6bc23c727c265a4a184f0b8435148521677787ed39b916", func := "cadastre/cadastrelaw14.TreeNone", spec := "treeNone", inPlace := ["internal/bytealg.Compare", "slices.overlaps[[]byte]", "slices.overlaps[int]"], unfollowed := true, recurses := true, apart := false }
def TreeNoneSaid : Prop := treeNoneRow.holds Tryz.pinned (OpenSpec.ofChange treeNoneSpec)

/-- ITS FALSE NEIGHBOUR: 'it returns false'. Refute it at one input. -/
def treeNoneWrong : ChangeSpec := { name := "treeNone", fn := fun _ => fun
  | [d] => { results := [.lit (.bool false)], args := [d] }
  | _ => none }
def TreeNoneWrongFalsely : Prop := treeNoneRow.holds Tryz.pinned (OpenSpec.ofChange treeNoneWrong)

/-- 'cadastrelaw14.TreeModel': WHATEVER THE INPUT: true; the input reads as it did. -/
def treeModelSpec : ChangeSpec := { name := "treeModel", fn := fun _ => fun
  | [d] => { results := [.lit (.bool true)], args := [d] }
  | _ => none }
def treeModelRow : OpenClaim := { program := "ytpaiadidgokjlaagreat", sum := "077724825c375d218c6bc23c727c265a4a184f0b8435148521677787ed39b916", func := "cadastre/cadastrelaw14.TreeModel", spec := "treeModel", inPlace := ["internal/bytealg.Compare", "slices.overlaps[[]byte]", "slices.overlaps[int]"], unfollowed := true, recurses := true, apart := false }
def TreeModelSaid : Prop := treeModelRow.holds Tryz.pinned (OpenSpec.ofChange treeModelSpec)

/-- ITS FALSE NEIGHBOUR: 'it returns false'. Refute it at one input. -/
def treeModelWrong : ChangeSpec := { name := "treeModel", fn := fun _ => fun
  | [d] => { results := [.lit (.bool false)], args := [d] }
  | _ => none }
def TreeModelWrongFalsely : Prop := treeModelRow.holds Tryz.pinned (OpenSpec.ofChange treeModelWrong)

/-- 'cadastrelaw14.TreeGone': WHATEVER THE INPUT: true; the input reads as it did. -/
def treeGoneSpec : ChangeSpec := { name := "treeGone", fn := fun _ => fun
  | [d] => { results := [.lit (.bool true)], args := [d] }
  | _ => none }
def treeGoneRow : OpenClaim := { program := "ytpaiadidgokjlaagreat", sum := "077724825c375d218c6bc23c727c265a4a184f0b8435148521677787ed39b916", func := "cadastre/cadastrelaw14.TreeGone", spec := "treeGone", inPlace := ["internal/bytealg.Compare", "slices.overlaps[[]byte]", "slices.overlaps[int]"], unfollowed := true, recurses := true, apart := false }
def TreeGoneSaid : Prop := treeGoneRow.holds Tryz.pinned (OpenSpec.ofChange treeGoneSpec)

/-- ITS FALSE NEIGHBOUR: 'it returns false'. Refute it at one input. -/
def treeGoneWrong : ChangeSpec := { name := "treeGone", fn := fun _ => fun
  | [d] => { results := [.lit (.bool false)], args := [d] }
  | _ => none }
def TreeGoneWrongFalsely : Prop := treeGoneRow.holds Tryz.pinned (OpenSpec.ofChange treeGoneWrong)

/-- 'cadastrelaw15.IndexModel': WHATEVER THE INPUT: true; the input reads as it did. -/
def indexModelSpec : ChangeSpec := { name := "indexModel", fn := fun _ => fun
  | [d] => { results := [.lit (.bool true)], args := [d] }
  | _ => none }
def indexModelRow : OpenClaim := { program := "ytpaiadidgokjlaagreat", sum := "077724825c375d218c6bc23c727c265a4a184f0b8435148521677787ed39b916", func := "cadastre/cadastrelaw15.IndexModel", spec := "indexModel", inPlace := ["slices.overlaps[[]byte]", "slices.overlaps[int]"], unfollowed := true, recurses := true, apart := false }
def IndexModelSaid : Prop := indexModelRow.holds Tryz.pinned (OpenSpec.ofChange indexModelSpec)

/-- ITS FALSE NEIGHBOUR: 'it returns false'. Refute it at one input. -/
def indexModelWrong : ChangeSpec := { name := "indexModel", fn := fun _ => fun
  | [d] => { results := [.lit (.bool false)], args := [d] }
  | _ => none }
def IndexModelWrongFalsely : Prop := indexModelRow.holds Tryz.pinned (OpenSpec.ofChange indexModelWrong)

/-- 'cadastrelaw15.IndexGone': WHATEVER THE INPUT: true; the input reads as it did. -/
def indexGoneSpec : ChangeSpec := { name := "indexGone", fn := fun _ => fun
  | [d] => { results := [.lit (.bool true)], args := [d] }
  | _ => none }
def indexGoneRow : OpenClaim := { program := "ytpaiadidgokjlaagreat", sum := "077724825c375d218c6bc23c727c265a4a184f0b8435148521677787ed39b916", func := "cadastre/cadastrelaw15.IndexGone", spec := "indexGone", inPlace := ["slices.overlaps[[]byte]", "slices.overlaps[int]"], unfollowed := true, recurses := true, apart := false }
def IndexGoneSaid : Prop := indexGoneRow.holds Tryz.pinned (OpenSpec.ofChange indexGoneSpec)

/-- ITS FALSE NEIGHBOUR: 'it returns false'. Refute it at one input. -/
def indexGoneWrong : ChangeSpec := { name := "indexGone", fn := fun _ => fun
  | [d] => { results := [.lit (.bool false)], args := [d] }
  | _ => none }
def IndexGoneWrongFalsely : Prop := indexGoneRow.holds Tryz.pinned (OpenSpec.ofChange indexGoneWrong)

/- THE SECOND FORM. 'bulk': how many values and letters a reading holds, each counted each time it is reached (what is shared counts as often as it is met; a slice's spare places count too). A statement '..UptoSaid' is the law's where the arguments, and the package variables that the reading takes, are together of bulk at most 1048576: NARROWER than '..Said'. Prove '..Said' where nothing that the law and all that it calls make is longer than what came in: it says more and counts as full. Else prove '..UptoSaid'. A law counts once. -/
mutual
def uptoBulk {H : Type} : DataW H → Nat
  | .lit (.string bytes) => bytes.length + 1
  | .lit _ => 1
  | .nil => 1
  | .ptr d => uptoBulk d + 1
  | .slice elems spare => uptoBulkAll elems + uptoBulkAll spare + 1
  | .agg parts => uptoBulkAll parts + 1
  | .iface _ d => uptoBulk d + 1
  | .map entries => uptoBulkEntries entries + 1
  | .held _ => 1
def uptoBulkAll {H : Type} : List (DataW H) → Nat
  | [] => 0
  | d :: r => uptoBulk d + uptoBulkAll r
def uptoBulkEntries {H : Type} : List (Lit × DataW H) → Nat
  | [] => 0
  | x :: r => uptoBulkEntry x + uptoBulkEntries r
def uptoBulkEntry {H : Type} : Lit × DataW H → Nat
  | (.string bytes, d) => bytes.length + uptoBulk d + 1
  | (_, d) => uptoBulk d + 1
 end
def uptoSmall : (H : Type) → List (DataW H) → Bool := fun _ ds => decide (uptoBulkAll ds ≤ 1048576)
def OpenSpec.upto (s : _root_.Go.ChangeSpec) : _root_.Go.OpenSpec := { _root_.Go.OpenSpec.ofChange s with cond := some uptoSmall }

/-- 'cadastrelaw13.PagesApart', WHERE WHAT IT READS IS OF BULK AT MOST 1048576: true; the input reads as it did. -/
def pagesApartUptoRow : OpenClaim := { program := "ytpaiadidgokjlaagreat", sum := "077724825c375d218c6bc23c727c265a4a184f0b8435148521677787ed39b916", func := "cadastre/cadastrelaw13.PagesApart", spec := "pagesApart", unfollowed := true, recurses := true, apart := false, narrowed := true }
def PagesApartUptoSaid : Prop := pagesApartUptoRow.holds Tryz.pinned (OpenSpec.upto pagesApartSpec)

/-- 'cadastrelaw13.PagesNone', WHERE WHAT IT READS IS OF BULK AT MOST 1048576: true; the input reads as it did. -/
def pagesNoneUptoRow : OpenClaim := { program := "ytpaiadidgokjlaagreat", sum := "077724825c375d218c6bc23c727c265a4a184f0b8435148521677787ed39b916", func := "cadastre/cadastrelaw13.PagesNone", spec := "pagesNone", unfollowed := true, recurses := true, apart := false, narrowed := true }
def PagesNoneUptoSaid : Prop := pagesNoneUptoRow.holds Tryz.pinned (OpenSpec.upto pagesNoneSpec)

/-- 'cadastrelaw13.PagesBack', WHERE WHAT IT READS IS OF BULK AT MOST 1048576: true; the input reads as it did. -/
def pagesBackUptoRow : OpenClaim := { program := "ytpaiadidgokjlaagreat", sum := "077724825c375d218c6bc23c727c265a4a184f0b8435148521677787ed39b916", func := "cadastre/cadastrelaw13.PagesBack", spec := "pagesBack", inPlace := ["maps.clone"], unfollowed := true, recurses := true, apart := false, narrowed := true }
def PagesBackUptoSaid : Prop := pagesBackUptoRow.holds Tryz.pinned (OpenSpec.upto pagesBackSpec)

/-- 'cadastrelaw13.PagesModel', WHERE WHAT IT READS IS OF BULK AT MOST 1048576: true; the input reads as it did. -/
def pagesModelUptoRow : OpenClaim := { program := "ytpaiadidgokjlaagreat", sum := "077724825c375d218c6bc23c727c265a4a184f0b8435148521677787ed39b916", func := "cadastre/cadastrelaw13.PagesModel", spec := "pagesModel", unfollowed := true, recurses := true, apart := false, narrowed := true }
def PagesModelUptoSaid : Prop := pagesModelUptoRow.holds Tryz.pinned (OpenSpec.upto pagesModelSpec)

/-- 'cadastrelaw14.TreeOrders', WHERE WHAT IT READS IS OF BULK AT MOST 1048576: true; the input reads as it did. -/
def treeOrdersUptoRow : OpenClaim := { program := "ytpaiadidgokjlaagreat", sum := "077724825c375d218c6bc23c727c265a4a184f0b8435148521677787ed39b916", func := "cadastre/cadastrelaw14.TreeOrders", spec := "treeOrders", inPlace := ["internal/bytealg.Compare", "slices.overlaps[[]byte]", "slices.overlaps[int]"], unfollowed := true, recurses := true, apart := false, narrowed := true }
def TreeOrdersUptoSaid : Prop := treeOrdersUptoRow.holds Tryz.pinned (OpenSpec.upto treeOrdersSpec)

/-- 'cadastrelaw14.TreeWalks', WHERE WHAT IT READS IS OF BULK AT MOST 1048576: true; the input reads as it did. -/
def treeWalksUptoRow : OpenClaim := { program := "ytpaiadidgokjlaagreat", sum := "077724825c375d218c6bc23c727c265a4a184f0b8435148521677787ed39b916", func := "cadastre/cadastrelaw14.TreeWalks", spec := "treeWalks", inPlace := ["internal/bytealg.Compare", "slices.overlaps[[]byte]", "slices.overlaps[int]"], unfollowed := true, recurses := true, apart := false, narrowed := true }
def TreeWalksUptoSaid : Prop := treeWalksUptoRow.holds Tryz.pinned (OpenSpec.upto treeWalksSpec)

/-- 'cadastrelaw14.TreeNone', WHERE WHAT IT READS IS OF BULK AT MOST 1048576: true; the input reads as it did. -/
def treeNoneUptoRow : OpenClaim := { program := "ytpaiadidgokjlaagreat", sum := "077724825c375d218c6bc23c727c265a4a184f0b8435148521677787ed39b916", func := "cadastre/cadastrelaw14.TreeNone", spec := "treeNone", inPlace := ["internal/bytealg.Compare", "slices.overlaps[[]byte]", "slices.overlaps[int]"], unfollowed := true, recurses := true, apart := false, narrowed := true }
def TreeNoneUptoSaid : Prop := treeNoneUptoRow.holds Tryz.pinned (OpenSpec.upto treeNoneSpec)

/-- 'cadastrelaw14.TreeModel', WHERE WHAT IT READS IS OF BULK AT MOST 1048576: true; the input reads as it did. -/
def treeModelUptoRow : OpenClaim := { program := "ytpaiadidgokjlaagreat", sum := "077724825c375d218c6bc23c727c265a4a184f0b8435148521677787ed39b916", func := "cadastre/cadastrelaw14.TreeModel", spec := "treeModel", inPlace := ["internal/bytealg.Compare", "slices.overlaps[[]byte]", "slices.overlaps[int]"], unfollowed := true, recurses := true, apart := false, narrowed := true }
def TreeModelUptoSaid : Prop := treeModelUptoRow.holds Tryz.pinned (OpenSpec.upto treeModelSpec)

/-- 'cadastrelaw14.TreeGone', WHERE WHAT IT READS IS OF BULK AT MOST 1048576: true; the input reads as it did. -/
def treeGoneUptoRow : OpenClaim := { program := "ytpaiadidgokjlaagreat", sum := "077724825c375d218c6bc23c727c265a4a184f0b8435148521677787ed39b916", func := "cadastre/cadastrelaw14.TreeGone", spec := "treeGone", inPlace := ["internal/bytealg.Compare", "slices.overlaps[[]byte]", "slices.overlaps[int]"], unfollowed := true, recurses := true, apart := false, narrowed := true }
def TreeGoneUptoSaid : Prop := treeGoneUptoRow.holds Tryz.pinned (OpenSpec.upto treeGoneSpec)

/-- 'cadastrelaw15.IndexModel', WHERE WHAT IT READS IS OF BULK AT MOST 1048576: true; the input reads as it did. -/
def indexModelUptoRow : OpenClaim := { program := "ytpaiadidgokjlaagreat", sum := "077724825c375d218c6bc23c727c265a4a184f0b8435148521677787ed39b916", func := "cadastre/cadastrelaw15.IndexModel", spec := "indexModel", inPlace := ["slices.overlaps[[]byte]", "slices.overlaps[int]"], unfollowed := true, recurses := true, apart := false, narrowed := true }
def IndexModelUptoSaid : Prop := indexModelUptoRow.holds Tryz.pinned (OpenSpec.upto indexModelSpec)

/-- 'cadastrelaw15.IndexGone', WHERE WHAT IT READS IS OF BULK AT MOST 1048576: true; the input reads as it did. -/
def indexGoneUptoRow : OpenClaim := { program := "ytpaiadidgokjlaagreat", sum := "077724825c375d218c6bc23c727c265a4a184f0b8435148521677787ed39b916", func := "cadastre/cadastrelaw15.IndexGone", spec := "indexGone", inPlace := ["slices.overlaps[[]byte]", "slices.overlaps[int]"], unfollowed := true, recurses := true, apart := false, narrowed := true }
def IndexGoneUptoSaid : Prop := indexGoneUptoRow.holds Tryz.pinned (OpenSpec.upto indexGoneSpec)

end Rows
end Go.Proofs.YtpaiadidgokjlaaGreat

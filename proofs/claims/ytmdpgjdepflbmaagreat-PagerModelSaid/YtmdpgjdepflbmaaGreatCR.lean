/-
  Files and troubles as they come in, as plain functions; an empty disk; a new trouble.
-/
import Derived.Test.YtmdpgjdepflbmaaGreatCH
import Derived.Test.YtmdpgjdepflbmaaGreatCC
import Derived.ScopeJumps
import Derived.WalkMore
namespace Go.Proofs.YtmdpgjdepflbmaaGreat
open Go.RowKit Go.Maps Go.Proofs.YtmdpgjdepflbmaaGreatW.PrintWords Go.Proofs.YtmdpgjdepflbmaaGreatW.PrintLast Go.Proofs.YtmdpgjdepflbmaaGreatW.PrintMore
open Go.Proofs.YtmdpgjdepflbmaaGreat.PPagerFolds
set_option linter.unusedVariables false
set_option linter.unusedSimpArgs false

/-- an empty disk -/
theorem DRep.empty (w : World) : DRep (((w.alloc (.map #[] 0)).alloc (.map #[] 0)).alloc (.cells #[.map (some w.heap.size), .map (some (w.heap.size + 1)), .int .i64 0, .bool false] 100)) (w.heap.size + 2) { fs := fun _ => none, tr := fun _ => 0, st := 0, off := false } (fun k => w.heap.size ≤ k) w.heap.size (w.heap.size + 1) (fun _ => none) (fun _ => .slice none 0 0) (fun _ => .slice none 0 0) 0 where
  hd := by show (((w.heap.push _).push _).push _)[_]? = _; exact fresh _ _ (by simp only [Array.size_push])
  hf := ((PMap.made Tryz.prog 9 w).move (w' := (w.alloc (.map #[] 0)).alloc (.map #[] 0)) (Below.heap_alloc _ _ _ (by simp))).move (Below.heap_alloc _ _ _ (by simp; omega))
  ht := by
    have := NMap.made Tryz.prog 3 3 (w.alloc (.map #[] 0))
    rw [show (w.alloc (.map #[] 0)).heap.size = w.heap.size + 1 from by simp] at this
    exact this.move (Below.heap_alloc _ _ _ (by simp))
  dom := fun _ => rfl
  file := fun _ _ _ h => by cases h
  inj := fun _ _ _ h => by cases h
  apart := fun _ _ _ _ _ h => by cases h
  ne := by omega
  okd := by omega
  okf := Nat.le_refl _
  okt := by omega
  okb := fun _ _ h => by cases h

section
variable {w w1 : World} {d : Nat} {M : DM} {ok : Nat → Prop} {bf bt : Nat} {blk : Name → Option Nat} {sv ev : Name → Value} {sz : Nat}
end
end Go.Proofs.YtmdpgjdepflbmaaGreat

/-
  The walk of New.
-/
namespace Go.Proofs.YtmdpgjdepflbmaaGreat
open Go.RowKit Go.Maps Go.Proofs.YtmdpgjdepflbmaaGreatW.PrintWords Go.Proofs.YtmdpgjdepflbmaaGreatW.PrintLast Go.Proofs.YtmdpgjdepflbmaaGreatW.PrintMore
open Go.Proofs.YtmdpgjdepflbmaaGreat.PPagerFolds
set_option linter.unusedVariables false
set_option linter.unusedSimpArgs false

end Go.Proofs.YtmdpgjdepflbmaaGreat
namespace Go.Proofs.YtmdpgjdepflbmaaGreat
open Go.RowKit Go.Maps Go.Proofs.YtmdpgjdepflbmaaGreatW.PrintWords Go.Proofs.YtmdpgjdepflbmaaGreatW.PrintLast Go.Proofs.YtmdpgjdepflbmaaGreatW.PrintMore
open Go.Proofs.YtmdpgjdepflbmaaGreat.PPagerFolds
set_option linter.unusedVariables false
set_option linter.unusedSimpArgs false


end Go.Proofs.YtmdpgjdepflbmaaGreat

/-
  What a crash finds of a file, as a plain function; the laws of copy and Equal that it goes by.
-/
namespace Go.Proofs.YtmdpgjdepflbmaaGreat
open Go.RowKit Go.Maps Go.Proofs.YtmdpgjdepflbmaaGreatW.PrintWords Go.Proofs.YtmdpgjdepflbmaaGreatW.PrintLast Go.Proofs.YtmdpgjdepflbmaaGreatW.PrintMore
open Go.Proofs.YtmdpgjdepflbmaaGreat.PPagerFolds
set_option linter.unusedVariables false
set_option linter.unusedSimpArgs false

theorem RB.cell {w : World} {ok : Nat → Prop} {g c n : Nat} {l : Bytes} (h : RB w ok (.slice (some ⟨g, 0, none⟩) n c) l) {j : Nat} {x : Int} (hj : l[j]? = some x) : w.cell? ⟨g, j, none⟩ = some (.int .u8 x) := by
  rcases h.rep with ⟨h1, _⟩ | ⟨g', cap, cur, h1, hg, h2, h3, h4, _, ht⟩
  · cases h1
  · injection h1 with h1 _ _
    injection h1 with h1
    injection h1 with h1 _ _
    subst h1
    obtain ⟨hj1, _⟩ := List.getElem?_eq_some_iff.1 hj
    rw [cell_of_row w g j cur 5 (0, 0) hg]
    have h5 := congrArg (fun x => x[j]?) ht
    simp only [List.getElem?_take, hj1, if_true, List.getElem?_map, hj, Option.map_some] at h5
    rw [← h5]; simp

theorem RB.some {w : World} {ok : Nat → Prop} {A : Option Addr} {n c : Nat} {l : Bytes} (h : RB w ok (.slice A n c) l) (hn : l.length = n) (h0 : 0 < n) : ∃ g, A = some ⟨g, 0, none⟩ ∧ n ≤ c := by
  rcases h.rep with ⟨h1, rfl⟩ | ⟨g, cap, cur, h1, _, h2, _⟩
  · simp at hn; omega
  · injection h1 with h1 _ h3
    exact ⟨g, h1, by omega⟩
end Go.Proofs.YtmdpgjdepflbmaaGreat
namespace Go.Proofs.YtmdpgjdepflbmaaGreat
open Go.RowKit Go.Maps Go.Proofs.YtmdpgjdepflbmaaGreatW.PrintWords Go.Proofs.YtmdpgjdepflbmaaGreatW.PrintLast Go.Proofs.YtmdpgjdepflbmaaGreatW.PrintMore
open Go.Proofs.YtmdpgjdepflbmaaGreat.PPagerFolds
set_option linter.unusedVariables false
set_option linter.unusedSimpArgs false

end Go.Proofs.YtmdpgjdepflbmaaGreat
namespace Go.Proofs.YtmdpgjdepflbmaaGreat
open Go.RowKit Go.Maps Go.Proofs.YtmdpgjdepflbmaaGreatW.PrintWords Go.Proofs.YtmdpgjdepflbmaaGreatW.PrintLast Go.Proofs.YtmdpgjdepflbmaaGreatW.PrintMore
open Go.Proofs.YtmdpgjdepflbmaaGreat.PPagerFolds
set_option linter.unusedVariables false
set_option linter.unusedSimpArgs false

end Go.Proofs.YtmdpgjdepflbmaaGreat
namespace Go.Proofs.YtmdpgjdepflbmaaGreat
open Go.RowKit Go.Maps Go.Proofs.YtmdpgjdepflbmaaGreatW.PrintWords Go.Proofs.YtmdpgjdepflbmaaGreatW.PrintLast Go.Proofs.YtmdpgjdepflbmaaGreatW.PrintMore
open Go.Proofs.YtmdpgjdepflbmaaGreat.PPagerFolds
set_option linter.unusedVariables false
set_option linter.unusedSimpArgs false

end Go.Proofs.YtmdpgjdepflbmaaGreat

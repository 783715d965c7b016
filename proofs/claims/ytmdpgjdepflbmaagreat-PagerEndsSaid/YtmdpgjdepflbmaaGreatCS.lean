/-
  same, over pages told as the print tells them; put: a page laid in a row of pages.
-/
import Derived.Test.YtmdpgjdepflbmaaGreatCQ
import Derived.Test.YtmdpgjdepflbmaaGreatCR
namespace Go.Proofs.YtmdpgjdepflbmaaGreat
open Go.RowKit Go.Maps Go.Proofs.YtmdpgjdepflbmaaGreatW.PrintWords Go.Proofs.YtmdpgjdepflbmaaGreatW.PrintLast Go.Proofs.YtmdpgjdepflbmaaGreatW.PrintMore
open Go.Proofs.YtmdpgjdepflbmaaGreat.PPagerFolds
set_option linter.unusedVariables false
set_option linter.unusedSimpArgs false

/-! ### put -/
end Go.Proofs.YtmdpgjdepflbmaaGreat
namespace Go.Proofs.YtmdpgjdepflbmaaGreat
open Go.RowKit Go.Maps Go.Proofs.YtmdpgjdepflbmaaGreatW.PrintWords Go.Proofs.YtmdpgjdepflbmaaGreatW.PrintLast Go.Proofs.YtmdpgjdepflbmaaGreatW.PrintMore
open Go.Proofs.YtmdpgjdepflbmaaGreat.PPagerFolds
set_option linter.unusedVariables false
set_option linter.unusedSimpArgs false

section
variable {W w w' : World} {X X' : PG} {M M' : DM} {v : Value} {Dn : List Bytes}
end
end Go.Proofs.YtmdpgjdepflbmaaGreat
namespace Go.Proofs.YtmdpgjdepflbmaaGreat
open Go.RowKit Go.Maps Go.Proofs.YtmdpgjdepflbmaaGreatW.PrintWords Go.Proofs.YtmdpgjdepflbmaaGreatW.PrintLast Go.Proofs.YtmdpgjdepflbmaaGreatW.PrintMore
open Go.Proofs.YtmdpgjdepflbmaaGreat.PPagerFolds
set_option linter.unusedVariables false
set_option linter.unusedSimpArgs false

section
variable {W w w' : World} {X : PG} {M : DM} {v : Value} {Dn : List Bytes} {d : Nat}
end
end Go.Proofs.YtmdpgjdepflbmaaGreat
namespace Go.Proofs.YtmdpgjdepflbmaaGreat
open Go.RowKit Go.Maps Go.Proofs.YtmdpgjdepflbmaaGreatW.PrintWords Go.Proofs.YtmdpgjdepflbmaaGreatW.PrintLast Go.Proofs.YtmdpgjdepflbmaaGreatW.PrintMore
open Go.Proofs.YtmdpgjdepflbmaaGreat.PPagerFolds
set_option linter.unusedVariables false
set_option linter.unusedSimpArgs false

/-- what stands beside: told by blocks that are not turned -/
structure Stab (B : World → (Nat → Prop) → Prop) : Prop where
  step : ∀ {w w' : World} {P : Nat → Prop}, B w P → (∀ k, P k → k < w.heap.size → w'.heap[k]? = w.heap[k]?) → B w' P
  mono : ∀ {w : World} {P Q : Nat → Prop}, B w P → (∀ k, P k → Q k) → B w Q
structure GJ (W : World) (X : PG) (M : DM) (B : World → (Nat → Prop) → Prop) (w : World) : Prop where
  ex : ∃ ok : Nat → Prop, Sys w X M ok ∧ (∀ k, ok k → W.heap.size ≤ k ∧ k < w.heap.size) ∧ B w (fun k => k < w.heap.size ∧ ¬ ok k)
  below : Below W.heap.size W w
  stab : Stab B
section
variable {W w w' : World} {X X' : PG} {M M' : DM} {B : World → (Nat → Prop) → Prop} {d : Nat}
theorem GJ.left {ok : Nat → Prop} (hb : Below W.heap.size W w) (hst : Stab B) (hok : ∀ k, ok k → W.heap.size ≤ k ∧ k < w.heap.size) (hV : B w (fun k => k < w.heap.size ∧ ¬ ok k)) (hS : SLeft w X' M' ok w') : GJ W X' M' B w' := by
  have hs := hS.2.size
  refine ⟨⟨_, hS.1, fun k hk => ?_, ?_⟩, hb.trans (hS.2.below (fun k hk => (hok k hk).1) hb.size), hst⟩
  · rcases hk with hk | hk
    · have := hok k hk; exact ⟨this.1, by omega⟩
    · exact ⟨by have := hb.size; omega, hk.2⟩
  · refine hst.mono (hst.step hV (fun k hk hl => hS.2.block k hl hk.2)) (fun k hk => ⟨by omega, fun h => h.elim hk.2 (fun h => by omega)⟩)
theorem GJ.step (h : GJ W X M B w) (hb : Below w.heap.size w w') : GJ W X M B w' := by
  obtain ⟨ok, hS, hok, hV⟩ := h.ex
  have hs := hb.size
  exact ⟨⟨ok, hS.below hb, fun k hk => by have := hok k hk; exact ⟨this.1, by omega⟩, h.stab.mono (h.stab.step hV (fun k hk hl => hb.block k hl)) (fun k hk => ⟨by omega, hk.2⟩)⟩, h.below.trans (hb.mono h.below.size), h.stab⟩
end

section
variable {W w w' : World} {X : PG} {M : DM} {B B' : World → (Nat → Prop) → Prop} {p d ls : Nat} {mo cc : Int} {C : Bytes} {Ds : List Bytes}
end
end Go.Proofs.YtmdpgjdepflbmaaGreat
namespace Go.Proofs.YtmdpgjdepflbmaaGreat
open Go.RowKit Go.Maps Go.Proofs.YtmdpgjdepflbmaaGreatW.PrintWords Go.Proofs.YtmdpgjdepflbmaaGreatW.PrintLast Go.Proofs.YtmdpgjdepflbmaaGreatW.PrintMore
open Go.Proofs.YtmdpgjdepflbmaaGreat.PPagerFolds
set_option linter.unusedVariables false
set_option linter.unusedSimpArgs false

end Go.Proofs.YtmdpgjdepflbmaaGreat
namespace Go.Proofs.YtmdpgjdepflbmaaGreat
open Go.RowKit Go.Maps Go.Proofs.YtmdpgjdepflbmaaGreatW.PrintWords Go.Proofs.YtmdpgjdepflbmaaGreatW.PrintLast Go.Proofs.YtmdpgjdepflbmaaGreatW.PrintMore
open Go.Proofs.YtmdpgjdepflbmaaGreat.PPagerFolds
set_option linter.unusedVariables false
set_option linter.unusedSimpArgs false

section
variable {W w w' : World} {X : PG} {M : DM} {B : World → (Nat → Prop) → Prop} {p d ls : Nat} {mo cc : Int} {C : Bytes} {Ds : List Bytes}
end
end Go.Proofs.YtmdpgjdepflbmaaGreat

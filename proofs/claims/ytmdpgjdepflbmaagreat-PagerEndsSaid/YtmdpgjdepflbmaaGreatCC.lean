/-
  Page 0 as plain bytes: words, bits, the lowest that is spare.
-/
import Derived.Test.YtmdpgjdepflbmaaGreatCPPagesModelx5
import Derived.Test.YtmdpgjdepflbmaaGreatCPPagesModelx6
import Derived.Test.YtmdpgjdepflbmaaGreatCPPagesModelx7
import Derived.Test.YtmdpgjdepflbmaaGreatCPPagesModelx8
import Derived.Test.YtmdpgjdepflbmaaGreatCPPagerFoldsx1
import Derived.Test.YtmdpgjdepflbmaaGreatCPPagerFoldsx4
import Derived.Test.YtmdpgjdepflbmaaGreatCPPagerFoldsx5
import Derived.Test.YtmdpgjdepflbmaaGreatCPPagerFoldsx6
import Derived.Laws.BitsAllLaws
import Derived.Test.YtmdpgjdepflbmaaGreatCB
namespace Go.Proofs.YtmdpgjdepflbmaaGreat
open Go.RowKit Go.Proofs.YtmdpgjdepflbmaaGreatW.PrintWords Go.Proofs.YtmdpgjdepflbmaaGreatW.PrintLast Go.Proofs.YtmdpgjdepflbmaaGreatW.PrintMore
open Go.Proofs.YtmdpgjdepflbmaaGreat.PPagerFolds
set_option linter.unusedVariables false

theorem wrap64_small {x : Int} (h0 : -4611686018427387904 ≤ x) (h : x < 4611686018427387904) : wrap64 x = x := by unfold wrap64; omega
/-! ### bits -/
def bitAt (n : Nat) : Nat := 20 + (n - 1) / 8
/-- is a page's bit set? -/
def heldZ (Z : List Int) (n : Nat) : Bool := (Z.getD (bitAt n) 0).toNat.testBit ((n - 1) % 8)
end Go.Proofs.YtmdpgjdepflbmaaGreat
namespace Go.Proofs.YtmdpgjdepflbmaaGreat
open Go.RowKit Go.Maps Go.Proofs.YtmdpgjdepflbmaaGreatW.PrintWords Go.Proofs.YtmdpgjdepflbmaaGreatW.PrintLast Go.Proofs.YtmdpgjdepflbmaaGreatW.PrintMore
open Go.Proofs.YtmdpgjdepflbmaaGreat.PPagerFolds
set_option linter.unusedVariables false
set_option linter.unusedSimpArgs false

section
variable {w w1 w2 : World} {g : Nat} {B : PG} {M : DM} {V : Int → Bytes} {cnt : Int} {ok : Nat → Prop}
end

theorem row_base {w : World} {base : Nat} {ok : Nat → Prop} {gz n cap : Nat} {l : Bytes} (h : U8.R 5 w base ok (.slice (some ⟨gz, 0, none⟩) n cap) l) : ok gz := h.1 gz (by simp [Value.ownBlock])
theorem row_lt {w : World} {base : Nat} {ok : Nat → Prop} {gz n cap : Nat} {l : Bytes} (h : U8.R 5 w base ok (.slice (some ⟨gz, 0, none⟩) n cap) l) : gz < w.heap.size := own_lt (Kd.own_of_R h) gz (by simp [Value.ownBlock])

theorem C_of_row {w : World} {base : Nat} {ok : Nat → Prop} {A : Option Addr} {n c : Nat} {l : Bytes} (h : U8.R 5 w base ok (.slice A n c) l) : U8.C w A n l ∧ n ≤ c ∧ l.length = n := by
  obtain ⟨A', c', e, hl, hC⟩ := Kd.R_reads h
  injection e with e1 e2 e3
  subst e1; subst e2; subst e3
  exact ⟨hC, hl, rfl⟩

end Go.Proofs.YtmdpgjdepflbmaaGreat
namespace Go.Proofs.YtmdpgjdepflbmaaGreat
open Go.RowKit Go.Maps Go.Proofs.YtmdpgjdepflbmaaGreatW.PrintWords Go.Proofs.YtmdpgjdepflbmaaGreatW.PrintLast Go.Proofs.YtmdpgjdepflbmaaGreatW.PrintMore
open Go.Proofs.YtmdpgjdepflbmaaGreat.PPagerFolds
set_option linter.unusedVariables false
set_option linter.unusedSimpArgs false

end Go.Proofs.YtmdpgjdepflbmaaGreat
namespace Go.Proofs.YtmdpgjdepflbmaaGreat
open Go.RowKit Go.Maps Go.Proofs.YtmdpgjdepflbmaaGreatW.PrintWords Go.Proofs.YtmdpgjdepflbmaaGreatW.PrintLast Go.Proofs.YtmdpgjdepflbmaaGreatW.PrintMore
open Go.Proofs.YtmdpgjdepflbmaaGreat.PPagerFolds
set_option linter.unusedVariables false
set_option linter.unusedSimpArgs false

/-- the held pages up to one -/
def heldTo (Z : Bytes) : Nat → List Int
  | 0 => []
  | m + 1 => heldTo Z m ++ (if heldZ Z (m + 1) = true then [((m + 1 : Nat) : Int)] else [])
abbrev I64 := Kd.int .i64
structure HJ (w1 : World) (Z : Bytes) (t i : Nat) (v7 : Value) (W : World) : Prop where
  row : I64.R 3 W w1.heap.size (fun k => w1.heap.size ≤ k) v7 (heldTo Z i)
  below : Below w1.heap.size w1 W

end Go.Proofs.YtmdpgjdepflbmaaGreat
namespace Go.Proofs.YtmdpgjdepflbmaaGreat
open Go.RowKit Go.Proofs.YtmdpgjdepflbmaaGreatW.PrintWords Go.Proofs.YtmdpgjdepflbmaaGreatW.PrintLast Go.Proofs.YtmdpgjdepflbmaaGreatW.PrintMore
open Go.Proofs.YtmdpgjdepflbmaaGreat.PPagerFolds
set_option linter.unusedVariables false

section
variable {Z : Bytes} {s : Nat}
end
/-! ### the list of the held pages -/
/-! ### the helpers -/
theorem rd_at (l : List Int) (i : Nat) : rd l (i : Int) = l.getD i 0 := by simp [rd]
theorem eqb_l (a b : List Int) (hl : a.length = b.length) (hb : a.length < 4611686018427387904) : ∀ (k i : Nat), i ≤ a.length → a.length < i + k → (∀ j, j < i → a.getD j 0 = b.getD j 0) → cadastreref0_EqBytes.l0 k a b i = some (decide (a = b))
  | 0, i, h1, h2, h3 => by omega
  | k + 1, i, h1, h2, h3 => by
    unfold cadastreref0_EqBytes.l0
    by_cases hc : i < a.length
    · rw [if_pos (by omega), if_pos (by omega), if_pos (by omega), rd_at, rd_at]
      by_cases e : a.getD i 0 = b.getD i 0
      · rw [if_pos e, wrap64_small (by omega) (by omega)]
        exact eqb_l a b hl hb k (i + 1) (by omega) (by omega) (fun j hj => by
          by_cases ej : j = i
          · subst ej; exact e
          · exact h3 j (by omega))
      · rw [if_neg e, decide_eq_false (fun h => e (by rw [h]))]
    · rw [if_neg (by omega), decide_eq_true]
      apply List.ext_getElem hl
      intro j h4 h5
      have := h3 j (by omega)
      rwa [List.getD_eq_getElem?_getD, List.getD_eq_getElem?_getD, List.getElem?_eq_getElem h4, List.getElem?_eq_getElem h5] at this
theorem eqb_f (a b : List Int) (hb : a.length < 4611686018427387904) : cadastreref0_EqBytes.f (a.length + 1) a b = some (decide (a = b)) := by
  unfold cadastreref0_EqBytes.f
  by_cases hl : a.length = b.length
  · rw [if_pos (by omega)]
    exact eqb_l a b hl hb _ 0 (by omega) (by omega) (fun j hj => by omega)
  · rw [if_neg (by omega), decide_eq_false (fun h => hl (by rw [h]))]
theorem eqbytes_any {w : World} {A A' : Option Addr} {n c n' c' : Nat} {a b : List Int} (ha : (Kd.int .u8).C w A n a) (hc : n ≤ c) (hb : (Kd.int .u8).C w A' n' b) (hc' : n' ≤ c') (hs : n < 4611686018427387904) :
    Calls Tryz.prog 24 #[.slice A n c, .slice A' n' c'] w fun e w' => e = .returned (.bool (decide (a = b))) ∧ ∃ m, w' = w.drewN m := by
  obtain rfl : a.length = n := ha.1
  obtain rfl : b.length = n' := hb.1
  refine (cadastreref0_EqBytes.calls _ A c a A' c' b _ w ha hc hb hc' (eqb_f a b hs)).mono ?_
  rintro e w' ⟨rfl, ⟨m, rfl⟩⟩
  exact ⟨rfl, m, rfl⟩
end Go.Proofs.YtmdpgjdepflbmaaGreat
namespace Go.Proofs.YtmdpgjdepflbmaaGreat
open Go.RowKit Go.Maps Go.Proofs.YtmdpgjdepflbmaaGreatW.PrintWords Go.Proofs.YtmdpgjdepflbmaaGreatW.PrintLast Go.Proofs.YtmdpgjdepflbmaaGreatW.PrintMore
open Go.Proofs.YtmdpgjdepflbmaaGreat.PPagerFolds
set_option linter.unusedVariables false
set_option linter.unusedSimpArgs false

theorem R_row {w : World} {base : Nat} {ok : Nat → Prop} {v : Value} {l : List Int} (h : I64.R 3 w base ok v l) : ∃ A c, v = .slice A l.length c ∧ I64.C w A l.length l ∧ l.length ≤ c := by
  obtain ⟨A, c, h1, h2, h3⟩ := Kd.R_reads h
  exact ⟨A, c, h1, h3, h2⟩
/-! ### no file of pages -/
/-- the acts that came in -/
def Acts (w : World) (A : Option Addr) (len : Nat) (D C L : Nat → Int) : Prop :=
  0 < len → ∃ b off, A = some ⟨b, off, none⟩ ∧ b < w.heap.size ∧ ∀ i, i < len → w.cell? ⟨b, off + i * 3, none⟩ = some (.int .i64 (D i)) ∧ w.cell? ⟨b, off + i * 3 + 1, none⟩ = some (.int .i64 (C i)) ∧ w.cell? ⟨b, off + i * 3 + 2, none⟩ = some (.int .i64 (L i))

end Go.Proofs.YtmdpgjdepflbmaaGreat
namespace Go.Proofs.YtmdpgjdepflbmaaGreat
open Go.RowKit Go.Maps Go.Proofs.YtmdpgjdepflbmaaGreatW.PrintWords Go.Proofs.YtmdpgjdepflbmaaGreatW.PrintLast Go.Proofs.YtmdpgjdepflbmaaGreatW.PrintMore
open Go.Proofs.YtmdpgjdepflbmaaGreat.PPagerFolds
set_option linter.unusedVariables false
set_option linter.unusedSimpArgs false

section
variable {w wr w' : World} {g : Nat} {B : PG} {M : DM} {V V' : Int → Bytes} {cnt cnt' : Int} {ok : Nat → Prop}
end
end Go.Proofs.YtmdpgjdepflbmaaGreat
namespace Go.Proofs.YtmdpgjdepflbmaaGreat
open Go.RowKit Go.Maps Go.Proofs.YtmdpgjdepflbmaaGreatW.PrintWords Go.Proofs.YtmdpgjdepflbmaaGreatW.PrintLast Go.Proofs.YtmdpgjdepflbmaaGreatW.PrintMore
open Go.Proofs.YtmdpgjdepflbmaaGreat.PPagerFolds
set_option linter.unusedVariables false
set_option linter.unusedSimpArgs false

theorem within_any (a : Int) (n : Nat) (h0 : 1 ≤ n) (h1 : n < 1000000) (w : World) : Calls Tryz.prog 18 #[.int .i64 a, .int .i64 n] w fun e w' => ∃ r : Nat, e = .returned (.int .i64 r) ∧ r < n ∧ (r : Int) = (IntKind.u64.wrap a) % n ∧ ∃ m, w' = w.drewN m := by
  have e1 : IntKind.u64.wrap (n : Int) = n := by simp [IntKind.wrap, IntKind.bits, IntKind.signed]; omega
  have hu : 0 ≤ IntKind.u64.wrap a := by simp [IntKind.wrap, IntKind.bits, IntKind.signed]; omega
  obtain ⟨r, hr⟩ : ∃ r : Nat, (r : Int) = (IntKind.u64.wrap a) % n := ⟨((IntKind.u64.wrap a) % n).toNat, by have := Int.emod_nonneg (IntKind.u64.wrap a) (show (n : Int) ≠ 0 by omega); omega⟩
  have hrn : r < n := by have := Int.emod_lt_of_pos (IntKind.u64.wrap a) (show (0 : Int) < n by omega); omega
  have hf : cadastrelaw0_Within.f a n = some (r : Int) := by
    unfold cadastrelaw0_Within.f
    rw [e1, if_neg (by omega), Int.tmod_eq_emod_of_nonneg hu, ← hr, wrap64_small (by omega) (by omega)]
  refine (cadastrelaw0_Within.calls a n r w hf).mono ?_
  rintro e w' ⟨rfl, ⟨m, rfl⟩⟩
  exact ⟨r, rfl, hrn, hr, m, rfl⟩

end Go.Proofs.YtmdpgjdepflbmaaGreat

/-
  The contracts of the functions of package locks and of the reference's Locks: a table is four cells of one block.
-/
import Derived.Test.YtoocokmkghfgmaaRows
import Derived.WalkKit
import Derived.ProofKit
import Derived.OpenShut
import Derived.Below
import Derived.ScopeJumps
import Derived.RegionTactic
import Derived.ChangeAlike
import Derived.Deep.QuietTactic
import Derived.BigQuiet
import Derived.Outline
import Derived.Lib.Hide
import Derived.WalkLawsBesides
import Derived.WalkSpells
import Derived.Deep.LoopGhost
import Derived.Deep.Slices
import Derived.Deep.Fields
import Derived.Deep.RegionWith
namespace Go.Proofs.Ytoocokmkghfgmaa
open Go.ChangeShapes Go.WideShapes Go.ChangeAt Go.RowKit Go.Deep
set_option linter.unusedVariables false

/-- a scope with one label, to which the run jumps forward at most once -/
theorem wp_scope_forward {P : Program} {a : Act} {w : World} {Q : Exit → Act → World → Prop} {c rest : Code} (l : Nat) (hf : findLabel c l = some rest)
    (first : c.wp P (Exit.jump l (fun a w => rest.wp P (Exit.noGoto Q) a w) Q) a w) : (Code.scope c).wp P Q a w :=
  wp_scope_jumps l (fun a w => rest.wp P (Exit.noGoto Q) a w) (fun _ _ => 0) hf first
    (fun a w h => Code.wp_mono (fun e a w q => by cases e <;> first | exact q.elim | exact q) h)

/-- one round of 'the most of all others' -/
def mstep (c k v m : Int) : Int := if k = c then m else if m < v then v else m
def most4 (x : Nat → Int) (c : Int) : Int := mstep c 3 (x 3) (mstep c 2 (x 2) (mstep c 1 (x 1) (mstep c 0 (x 0) 0)))
def upd (x : Nat → Int) (c : Nat) (v : Int) : Nat → Int := fun j => if j = c then v else x j

/-- block b is a table: four levels -/
def Tab (T : TypeId) (w : World) (b : Nat) (x : Nat → Int) : Prop := w.heap[b]? = some (.cells #[.int .i64 (x 0), .int .i64 (x 1), .int .i64 (x 2), .int .i64 (x 3)] T (0, 0))

section
variable {T : TypeId} {w w' : World} {b : Nat} {x : Nat → Int}
theorem Tab.lt (h : Tab T w b x) : b < w.heap.size := by
  rcases Nat.lt_or_ge b w.heap.size with hlt | hge
  · exact hlt
  · unfold Tab at h; rw [Array.getElem?_eq_none hge] at h; cases h
theorem Tab.cell' (h : Tab T w b x) (i : Nat) : w.cell? ⟨b, i, none⟩ = (#[Value.int .i64 (x 0), .int .i64 (x 1), .int .i64 (x 2), .int .i64 (x 3)] : Array Value)[i]? := cell_of_row w b i _ T (0, 0) h
theorem Tab.cell (h : Tab T w b x) (i : Nat) (hi : i < 4) : w.cell? ⟨b, i, none⟩ = some (.int .i64 (x i)) := by
  rw [h.cell']
  have : i = 0 ∨ i = 1 ∨ i = 2 ∨ i = 3 := by omega
  rcases this with rfl | rfl | rfl | rfl <;> rfl
theorem Tab.frozen (h : Tab T w b x) (i : Nat) : w.frozen? ⟨b, i, none⟩ = false := by
  unfold Tab at h
  simp [World.frozen?, h]
theorem Tab.drew (h : Tab T w b x) : Tab T w.drew b x := h
theorem Tab.drewN (h : Tab T w b x) (n : Nat) : Tab T (w.drewN n) b x := h
theorem Tab.alloc (h : Tab T w b x) (o : Obj) : Tab T (w.alloc o) b x := (Below.heap_alloc w o b h.lt).trans h
theorem Tab.far (h : Tab T w b x) {p : Addr} (hp : b ≠ p.block) (u : Value) : Tab T (w.setCell p u) b x := (Below.heap_setCell w p u b hp).trans h
theorem Tab.set_ (h : Tab T w b x) (i : Nat) (hi : i < 4) (v : Int) : Tab T (w.setCell ⟨b, i, none⟩ (.int .i64 v)) b (upd x i v) := by
  unfold Tab at h ⊢
  have : i = 0 ∨ i = 1 ∨ i = 2 ∨ i = 3 := by omega
  rcases this with rfl | rfl | rfl | rfl <;> simp [World.setCell, Array.getElem?_modify, h, upd]
theorem Tab.new (w : World) : Tab T (w.alloc (.cells #[.int .i64 0, .int .i64 0, .int .i64 0, .int .i64 0] T)) w.heap.size (fun _ => 0) := heap_alloc_new w _
theorem Tab.congr {y : Nat → Int} (h : Tab T w b x) (e : x = y) : Tab T w b y := e ▸ h
end

/-- only block b may have turned -/
structure Only (b : Nat) (w w' : World) : Prop where
  os : w'.os = w.os
  tape : w'.tape = w.tape
  output : w'.output = w.output
  size : w'.heap.size = w.heap.size
  block : ∀ k, k ≠ b → w'.heap[k]? = w.heap[k]?

theorem Only.refl (b : Nat) (w : World) : Only b w w := ⟨rfl, rfl, rfl, rfl, fun _ _ => rfl⟩
theorem Only.trans {b : Nat} {u v w : World} (h : Only b u v) (k : Only b v w) : Only b u w :=
  ⟨k.os.trans h.os, k.tape.trans h.tape, k.output.trans h.output, k.size.trans h.size, fun i hi => (k.block i hi).trans (h.block i hi)⟩
theorem Only.drew {b : Nat} {a w : World} (h : Only b a w) : Only b a w.drew := ⟨h.os, h.tape, h.output, h.size, h.block⟩
theorem Only.set_ {b : Nat} {a w : World} (h : Only b a w) (i : Nat) (u : Value) : Only b a (w.setCell ⟨b, i, none⟩ u) :=
  h.trans ⟨rfl, rfl, rfl, by simp [World.setCell], fun k hk => Below.heap_setCell _ _ _ _ hk⟩
theorem Only.below {b B : Nat} {w w' : World} (h : Only b w w') (hB : B ≤ b) : Below B w w' :=
  ⟨h.os, h.tape, h.output, by rw [h.size]; exact Nat.le_refl _, fun k hk => h.block k (by omega)⟩
theorem Only.tab {b b' : Nat} {w w' : World} {T : TypeId} {x : Nat → Int} (h : Only b w w') (t : Tab T w b' x) (hb : b' ≠ b) : Tab T w' b' x := (h.block b' hb).trans t

theorem conn_any (c : Int) (w : World) : Calls Try.prog 16 #[.int .i64 c] w fun e w' => e = .returned (.bool (decide (0 ≤ c ∧ c < 4))) ∧ w = w' := by
  by_cases h0 : 0 ≤ c <;> by_cases h1 : c < 4
  all_goals
    go_enter Try.func16, Try.ntmps16
    go_wp2
    go_ret
    exact ⟨by simp [h0, h1], rfl⟩

theorem conn2_any (c : Int) (w : World) : Calls Try.prog 14 #[.int .i64 c] w fun e w' => e = .returned (.bool (decide (0 ≤ c ∧ c < 4))) ∧ w = w' := by
  by_cases h0 : 0 ≤ c <;> by_cases h1 : c < 4
  all_goals
    go_enter Try.func14, Try.ntmps14
    go_wp2
    go_ret
    exact ⟨by simp [h0, h1], rfl⟩

theorem conn_yes (c : Int) (w : World) (h0 : 0 ≤ c) (h1 : c < 4) : Calls Try.prog 16 #[.int .i64 c] w fun e w' => e = .returned (.bool true) ∧ w = w' :=
  (conn_any c w).mono fun _ _ ⟨he, hw⟩ => ⟨by rw [he, decide_eq_true ⟨h0, h1⟩], hw⟩
theorem conn_no (c : Int) (w : World) (h : ¬ (0 ≤ c ∧ c < 4)) : Calls Try.prog 16 #[.int .i64 c] w fun e w' => e = .returned (.bool false) ∧ w = w' :=
  (conn_any c w).mono fun _ _ ⟨he, hw⟩ => ⟨by rw [he, decide_eq_false h], hw⟩
theorem conn2_yes (c : Int) (w : World) (h0 : 0 ≤ c) (h1 : c < 4) : Calls Try.prog 14 #[.int .i64 c] w fun e w' => e = .returned (.bool true) ∧ w = w' :=
  (conn2_any c w).mono fun _ _ ⟨he, hw⟩ => ⟨by rw [he, decide_eq_true ⟨h0, h1⟩], hw⟩
theorem conn2_no (c : Int) (w : World) (h : ¬ (0 ≤ c ∧ c < 4)) : Calls Try.prog 14 #[.int .i64 c] w fun e w' => e = .returned (.bool false) ∧ w = w' :=
  (conn2_any c w).mono fun _ _ ⟨he, hw⟩ => ⟨by rw [he, decide_eq_false h], hw⟩

theorem num_any (c : Int) (w : World) : Calls Try.prog 8 #[.int .i64 c] w fun e w' => e = .returned (.int .i64 c) ∧ w = w' := by
  go_enter Try.func8, Try.ntmps8
  go_wp2
  go_ret
  exact ⟨rfl, rfl⟩

theorem new_any (w : World) : Calls Try.prog 6 #[] w fun e w' => e = .returned (.pointer (some ⟨w.heap.size, 0, none⟩)) ∧ w' = w.alloc (.cells #[.int .i64 0, .int .i64 0, .int .i64 0, .int .i64 0] 42) := by
  go_enter Try.func6, Try.ntmps6
  go_wp2
  go_ret
  exact ⟨rfl, rfl⟩

end Go.Proofs.Ytoocokmkghfgmaa

/-
  The locks' table at this seat: what Raise and Lower answer and leave.
-/
import Derived.Test.YtmdpgjdepflbmaaGreatRows
import Derived.WalkKit
import Derived.ProofKit
import Derived.OpenShut
import Derived.Below
import Derived.ScopeJumps
import Derived.RegionTactic
import Derived.ChangeAlike
import Derived.Deep.QuietTactic
import Derived.BigQuiet
import Derived.Lib.Hide
import Derived.WalkLawsBesides
import Derived.WalkSpells
import Derived.Deep.LoopGhost
import Derived.Deep.Slices
import Derived.Deep.Fields
import Derived.Deep.RegionWith
namespace Go.Proofs.YtmdpgjdepflbmaaGreat
open Go.ChangeShapes Go.WideShapes Go.ChangeAt Go.RowKit Go.Deep
set_option linter.unusedVariables false

/-- a scope with one label, to which the run jumps forward at most once -/
theorem wp_scope_forward {P : Program} {a : Act} {w : World} {Q : Exit → Act → World → Prop} {c rest : Code} (l : Nat) (hf : findLabel c l = some rest)
    (first : c.wp P (Exit.jump l (fun a w => rest.wp P (Exit.noGoto Q) a w) Q) a w) : (Code.scope c).wp P Q a w :=
  wp_scope_jumps l (fun a w => rest.wp P (Exit.noGoto Q) a w) (fun _ _ => 0) hf first
    (fun a w h => Code.wp_mono (fun e a w q => by cases e <;> first | exact q.elim | exact q) h)

/-- one round of 'the most of all others' -/
def mstep (c k v m : Int) : Int := if k = c then m else if m < v then v else m
def most4 (x : Nat → Int) (c : Int) : Int := mstep c 3 (x 3) (mstep c 2 (x 2) (mstep c 1 (x 1) (mstep c 0 (x 0) 0)))
def upd (x : Nat → Int) (c : Nat) (v : Int) : Nat → Int := fun j => if j = c then v else x j

/-- block b is a table: four levels -/
def Tab (T : TypeId) (w : World) (b : Nat) (x : Nat → Int) : Prop := w.heap[b]? = some (.cells #[.int .i64 (x 0), .int .i64 (x 1), .int .i64 (x 2), .int .i64 (x 3)] T (0, 0))

section
variable {T : TypeId} {w w' : World} {b : Nat} {x : Nat → Int}
theorem Tab.lt (h : Tab T w b x) : b < w.heap.size := by
  rcases Nat.lt_or_ge b w.heap.size with hlt | hge
  · exact hlt
  · unfold Tab at h; rw [Array.getElem?_eq_none hge] at h; cases h
theorem Tab.cell' (h : Tab T w b x) (i : Nat) : w.cell? ⟨b, i, none⟩ = (#[Value.int .i64 (x 0), .int .i64 (x 1), .int .i64 (x 2), .int .i64 (x 3)] : Array Value)[i]? := cell_of_row w b i _ T (0, 0) h
theorem Tab.cell (h : Tab T w b x) (i : Nat) (hi : i < 4) : w.cell? ⟨b, i, none⟩ = some (.int .i64 (x i)) := by
  rw [h.cell']
  have : i = 0 ∨ i = 1 ∨ i = 2 ∨ i = 3 := by omega
  rcases this with rfl | rfl | rfl | rfl <;> rfl
theorem Tab.frozen (h : Tab T w b x) (i : Nat) : w.frozen? ⟨b, i, none⟩ = false := by
  unfold Tab at h
  simp [World.frozen?, h]
theorem Tab.drew (h : Tab T w b x) : Tab T w.drew b x := h
theorem Tab.set_ (h : Tab T w b x) (i : Nat) (hi : i < 4) (v : Int) : Tab T (w.setCell ⟨b, i, none⟩ (.int .i64 v)) b (upd x i v) := by
  unfold Tab at h ⊢
  have : i = 0 ∨ i = 1 ∨ i = 2 ∨ i = 3 := by omega
  rcases this with rfl | rfl | rfl | rfl <;> simp [World.setCell, Array.getElem?_modify, h, upd]
theorem Tab.new (w : World) : Tab T (w.alloc (.cells #[.int .i64 0, .int .i64 0, .int .i64 0, .int .i64 0] T)) w.heap.size (fun _ => 0) := heap_alloc_new w _
end

/-- only block b may have turned -/
structure Only (b : Nat) (w w' : World) : Prop where
  os : w'.os = w.os
  tape : w'.tape = w.tape
  output : w'.output = w.output
  size : w'.heap.size = w.heap.size
  block : ∀ k, k ≠ b → w'.heap[k]? = w.heap[k]?

theorem Only.refl (b : Nat) (w : World) : Only b w w := ⟨rfl, rfl, rfl, rfl, fun _ _ => rfl⟩
theorem Only.trans {b : Nat} {u v w : World} (h : Only b u v) (k : Only b v w) : Only b u w :=
  ⟨k.os.trans h.os, k.tape.trans h.tape, k.output.trans h.output, k.size.trans h.size, fun i hi => (k.block i hi).trans (h.block i hi)⟩
theorem Only.drew {b : Nat} {a w : World} (h : Only b a w) : Only b a w.drew := ⟨h.os, h.tape, h.output, h.size, h.block⟩
theorem Only.set_ {b : Nat} {a w : World} (h : Only b a w) (i : Nat) (u : Value) : Only b a (w.setCell ⟨b, i, none⟩ u) :=
  h.trans ⟨rfl, rfl, rfl, by simp [World.setCell], fun k hk => Below.heap_setCell _ _ _ _ hk⟩
theorem Only.below {b B : Nat} {w w' : World} (h : Only b w w') (hB : B ≤ b) : Below B w w' :=
  ⟨h.os, h.tape, h.output, by rw [h.size]; exact Nat.le_refl _, fun k hk => h.block k (by omega)⟩
theorem conn_any (c : Int) (w : World) : Calls Tryz.prog 49 #[.int .i64 c] w fun e w' => e = .returned (.bool (decide (0 ≤ c ∧ c < 4))) ∧ w = w' := by
  by_cases h0 : 0 ≤ c <;> by_cases h1 : c < 4
  all_goals
    go_enter Tryz.func49, Tryz.ntmps49
    go_wp2
    go_ret
    exact ⟨by simp [h0, h1], rfl⟩

theorem conn_yes (c : Int) (w : World) (h0 : 0 ≤ c) (h1 : c < 4) : Calls Tryz.prog 49 #[.int .i64 c] w fun e w' => e = .returned (.bool true) ∧ w = w' :=
  (conn_any c w).mono fun _ _ ⟨he, hw⟩ => ⟨by rw [he, decide_eq_true ⟨h0, h1⟩], hw⟩
theorem conn_no (c : Int) (w : World) (h : ¬ (0 ≤ c ∧ c < 4)) : Calls Tryz.prog 49 #[.int .i64 c] w fun e w' => e = .returned (.bool false) ∧ w = w' :=
  (conn_any c w).mono fun _ _ ⟨he, hw⟩ => ⟨by rw [he, decide_eq_false h], hw⟩
theorem new_any (w : World) : Calls Tryz.prog 14 #[] w fun e w' => e = .returned (.pointer (some ⟨w.heap.size, 0, none⟩)) ∧ w' = w.alloc (.cells #[.int .i64 0, .int .i64 0, .int .i64 0, .int .i64 0] 108) := by
  go_enter Tryz.func14, Tryz.ntmps14
  go_wp2
  go_ret
  exact ⟨rfl, rfl⟩

set_option linter.unusedVariables false

theorem mstep_ne (c k v m : Int) (h : (k != c) = true) : (if m < v then v else m) = mstep c k v m := by
  have h2 : ¬ k = c := by simpa using h
  unfold mstep; rw [if_neg h2]
theorem mstep_eq (c k v m : Int) (h : (k != c) = false) : m = mstep c k v m := by
  have h2 : k = c := by simpa using h
  unfold mstep; rw [if_pos h2]
theorem val_int {a b : Int} (h : a = b) : Value.int .i64 a = Value.int .i64 b := by rw [h]

set_option maxRecDepth 100000 in
theorem most_any (b : Nat) (x : Nat → Int) (c : Int) (w : World) (h : Tab 108 w b x) :
    Calls Tryz.prog 89 #[.pointer (some ⟨b, 0, none⟩), .int .i64 c] w fun e w' => e = .returned (.int .i64 (most4 x c)) ∧ w = w' := by
  have c0 := h.cell 0 (by omega)
  have c1 := h.cell 1 (by omega)
  have c2 := h.cell 2 (by omega)
  have c3 := h.cell 3 (by omega)
  clear h
  have i0 : ∀ w : World, (Instr.index 106 (.agg #[.int .i64 (x 0), .int .i64 (x 1), .int .i64 (x 2), .int .i64 (x 3)]) (.int .i64 0)).run Tryz.prog w = .ok (.int .i64 (x 0)) w := fun _ => by kernel_rfl
  have i1 : ∀ w : World, (Instr.index 106 (.agg #[.int .i64 (x 0), .int .i64 (x 1), .int .i64 (x 2), .int .i64 (x 3)]) (.int .i64 1)).run Tryz.prog w = .ok (.int .i64 (x 1)) w := fun _ => by kernel_rfl
  have i2 : ∀ w : World, (Instr.index 106 (.agg #[.int .i64 (x 0), .int .i64 (x 1), .int .i64 (x 2), .int .i64 (x 3)]) (.int .i64 2)).run Tryz.prog w = .ok (.int .i64 (x 2)) w := fun _ => by kernel_rfl
  have i3 : ∀ w : World, (Instr.index 106 (.agg #[.int .i64 (x 0), .int .i64 (x 1), .int .i64 (x 2), .int .i64 (x 3)]) (.int .i64 3)).run Tryz.prog w = .ok (.int .i64 (x 3)) w := fun _ => by kernel_rfl
  go_enter Tryz.func89, Tryz.ntmps89
  go_wp2
  go_loop [4, 11] (fun m i => (i = .int .i64 0 ∧ m = .int .i64 0) ∨ (i = .int .i64 1 ∧ m = .int .i64 (mstep c 0 (x 0) 0)) ∨ (i = .int .i64 2 ∧ m = .int .i64 (mstep c 1 (x 1) (mstep c 0 (x 0) 0))) ∨ (i = .int .i64 3 ∧ m = .int .i64 (mstep c 2 (x 2) (mstep c 1 (x 1) (mstep c 0 (x 0) 0)))) ∨ (i = .int .i64 4 ∧ m = .int .i64 (most4 x c))) (fun _ i => 4 - (intOf i).toNat)
  case atStart => exact .inl ⟨rfl, rfl⟩
  case round =>
    rcases hrel with ⟨rfl, rfl⟩ | ⟨rfl, rfl⟩ | ⟨rfl, rfl⟩ | ⟨rfl, rfl⟩ | ⟨rfl, rfl⟩
    · by_cases hc : (0 != c) = true
      · go_wp2
        go_round
        case rel => exact .inr (.inl ⟨rfl, (val_int (mstep_ne _ _ _ _ hc))⟩)
        case measure => simp [intOf]
      · have hc' : (0 != c) = false := by simpa using hc
        clear hc
        go_wp2
        go_round
        case rel => exact .inr (.inl ⟨rfl, (val_int (mstep_eq _ _ _ _ hc'))⟩)
        case measure => simp [intOf]
    · by_cases hc : (1 != c) = true
      · go_wp2
        go_round
        case rel => exact .inr (.inr (.inl ⟨rfl, (val_int (mstep_ne _ _ _ _ hc))⟩))
        case measure => simp [intOf]
      · have hc' : (1 != c) = false := by simpa using hc
        clear hc
        go_wp2
        go_round
        case rel => exact .inr (.inr (.inl ⟨rfl, (val_int (mstep_eq _ _ _ _ hc'))⟩))
        case measure => simp [intOf]
    · by_cases hc : (2 != c) = true
      · go_wp2
        go_round
        case rel => exact .inr (.inr (.inr (.inl ⟨rfl, (val_int (mstep_ne _ _ _ _ hc))⟩)))
        case measure => simp [intOf]
      · have hc' : (2 != c) = false := by simpa using hc
        clear hc
        go_wp2
        go_round
        case rel => exact .inr (.inr (.inr (.inl ⟨rfl, (val_int (mstep_eq _ _ _ _ hc'))⟩)))
        case measure => simp [intOf]
    · by_cases hc : (3 != c) = true
      · go_wp2
        go_round
        case rel => exact .inr (.inr (.inr (.inr ⟨rfl, (val_int (mstep_ne _ _ _ _ hc))⟩)))
        case measure => simp [intOf]
      · have hc' : (3 != c) = false := by simpa using hc
        clear hc
        go_wp2
        go_round
        case rel => exact .inr (.inr (.inr (.inr ⟨rfl, (val_int (mstep_eq _ _ _ _ hc'))⟩)))
        case measure => simp [intOf]
    · go_wp2
      go_ret
      exact ⟨rfl, rfl⟩
set_option linter.unusedVariables false

/-- what Raise comes to: the error's number, the new level of c (if it is turned) -/
def raiseE (own mo level : Int) : Int :=
  if level ≤ own then 0
  else if level = 1 then (if 3 ≤ mo then 8 else 0)
  else if level = 2 then (if own = 0 then 11 else if 2 ≤ mo then 8 else 0)
  else (if own < 2 then 11 else if 1 ≤ mo then 8 else 0)
def raiseL (own mo level : Int) : Int :=
  if level ≤ own then own
  else if level = 1 then (if 3 ≤ mo then own else level)
  else if level = 2 then (if own = 0 then own else if 2 ≤ mo then own else level)
  else (if own < 2 then own else if 1 ≤ mo then 3 else level)
def bad (c level : Int) : Prop := ¬ (0 ≤ c ∧ c < 4) ∨ (level ≠ 1 ∧ level ≠ 2 ∧ level ≠ 4)

theorem raise_bad (b : Nat) (c level : Int) (w : World) (h : bad c level) :
    Calls Tryz.prog 51 #[.pointer (some ⟨b, 0, none⟩), .int .i64 c, .int .i64 level] w fun e w' => e = .returned (.int .i64 1) ∧ w = w' := by
  by_cases hc : 0 ≤ c ∧ c < 4
  · obtain ⟨h0, h1⟩ := hc
    rcases h with h | ⟨h2, h3, h4⟩
    · omega
    have e1 : (level != 1) = true := by simpa using h2
    have e2 : (level != 2) = true := by simpa using h3
    have e4 : (level != 4) = true := by simpa using h4
    clear h2 h3 h4
    go_enter Tryz.func51, Tryz.ntmps51
    go_wp2
    go_step3
    go_wp2_with (go_at_call 49; refine (conn_yes _ _ h0 h1).mono ?_; rintro e w' ⟨rfl, rfl⟩)
    rw [Exit.noGoto_ret]
    go_ret
    exact ⟨rfl, rfl⟩
  · clear h
    go_enter Tryz.func51, Tryz.ntmps51
    go_wp2
    go_step3
    go_wp2_with (go_at_call 49; refine (conn_no _ _ hc).mono ?_; rintro e w' ⟨rfl, rfl⟩)
    rw [Exit.noGoto_ret]
    go_ret
    exact ⟨rfl, rfl⟩

theorem upd_self (x : Nat → Int) (c : Nat) : upd x c (x c) = x := by
  funext j; unfold upd; split
  · next h => rw [h]
  · rfl

theorem raise_1a (b c : Nat) (x : Nat → Int) (own mo : Int) (w : World) (ht : Tab 108 w b x) (hc : c < 4) (ho : x c = own) (hmo : most4 x c = mo) (h1 : 1 ≤ own) :
    Calls Tryz.prog 51 #[.pointer (some ⟨b, 0, none⟩), .int .i64 c, .int .i64 1] w fun e w' => e = .returned (.int .i64 0) ∧ w = w' := by
  have hcell := ht.cell c hc
  have hfree := ht.frozen c
  have hm := most_any b x c w ht
  rw [ho] at hcell
  rw [hmo] at hm
  clear ho hmo ht
  go_enter Tryz.func51, Tryz.ntmps51
  go_wp2
  go_step3
  go_wp2_with (first | (go_at_call 49; refine (conn_yes _ _ (by omega) (by omega)).mono ?_; rintro e w' ⟨rfl, rfl⟩) | (go_at_call 89; refine hm.mono ?_; rintro e w' ⟨rfl, rfl⟩))
  rw [Exit.noGoto_ret]
  go_ret
  exact ⟨rfl, rfl⟩

theorem raise_1b (b c : Nat) (x : Nat → Int) (own mo : Int) (w : World) (ht : Tab 108 w b x) (hc : c < 4) (ho : x c = own) (hmo : most4 x c = mo) (h1 : own < 1) (h2 : 3 ≤ mo) :
    Calls Tryz.prog 51 #[.pointer (some ⟨b, 0, none⟩), .int .i64 c, .int .i64 1] w fun e w' => e = .returned (.int .i64 8) ∧ w = w' := by
  have hcell := ht.cell c hc
  have hfree := ht.frozen c
  have hm := most_any b x c w ht
  rw [ho] at hcell
  rw [hmo] at hm
  clear ho hmo ht
  go_enter Tryz.func51, Tryz.ntmps51
  go_wp2
  refine wp_scope_forward 0 rfl ?_
  go_wp2_with (first | (go_at_call 49; refine (conn_yes _ _ (by omega) (by omega)).mono ?_; rintro e w' ⟨rfl, rfl⟩) | (go_at_call 89; refine hm.mono ?_; rintro e w' ⟨rfl, rfl⟩))
  go_step3
  refine ⟨rfl, ?_⟩
  go_wp2
  rw [Exit.noGoto_ret]
  go_ret
  exact ⟨rfl, rfl⟩

theorem raise_1c (b c : Nat) (x : Nat → Int) (own mo : Int) (w : World) (ht : Tab 108 w b x) (hc : c < 4) (ho : x c = own) (hmo : most4 x c = mo) (h1 : own < 1) (h2 : mo < 3) :
    Calls Tryz.prog 51 #[.pointer (some ⟨b, 0, none⟩), .int .i64 c, .int .i64 1] w fun e w' => e = .returned (.int .i64 0) ∧ w' = w.setCell ⟨b, c, none⟩ (.int .i64 1) := by
  have hcell := ht.cell c hc
  have hfree := ht.frozen c
  have hm := most_any b x c w ht
  rw [ho] at hcell
  rw [hmo] at hm
  clear ho hmo ht
  go_enter Tryz.func51, Tryz.ntmps51
  go_wp2
  go_step3
  go_wp2_with (first | (go_at_call 49; refine (conn_yes _ _ (by omega) (by omega)).mono ?_; rintro e w' ⟨rfl, rfl⟩) | (go_at_call 89; refine hm.mono ?_; rintro e w' ⟨rfl, rfl⟩))
  rw [Exit.noGoto_ret]
  go_ret
  exact ⟨rfl, rfl⟩

theorem raise_2a (b c : Nat) (x : Nat → Int) (own mo : Int) (w : World) (ht : Tab 108 w b x) (hc : c < 4) (ho : x c = own) (hmo : most4 x c = mo) (h1 : 2 ≤ own) :
    Calls Tryz.prog 51 #[.pointer (some ⟨b, 0, none⟩), .int .i64 c, .int .i64 2] w fun e w' => e = .returned (.int .i64 0) ∧ w = w' := by
  have hcell := ht.cell c hc
  have hfree := ht.frozen c
  have hm := most_any b x c w ht
  rw [ho] at hcell
  rw [hmo] at hm
  clear ho hmo ht
  go_enter Tryz.func51, Tryz.ntmps51
  go_wp2
  go_step3
  go_wp2_with (first | (go_at_call 49; refine (conn_yes _ _ (by omega) (by omega)).mono ?_; rintro e w' ⟨rfl, rfl⟩) | (go_at_call 89; refine hm.mono ?_; rintro e w' ⟨rfl, rfl⟩))
  rw [Exit.noGoto_ret]
  go_ret
  exact ⟨rfl, rfl⟩

theorem raise_2b (b c : Nat) (x : Nat → Int) (own mo : Int) (w : World) (ht : Tab 108 w b x) (hc : c < 4) (ho : x c = own) (hmo : most4 x c = mo) (h1 : own < 2) (hz : own = 0) :
    Calls Tryz.prog 51 #[.pointer (some ⟨b, 0, none⟩), .int .i64 c, .int .i64 2] w fun e w' => e = .returned (.int .i64 11) ∧ w = w' := by
  have hcell := ht.cell c hc
  have hfree := ht.frozen c
  have hm := most_any b x c w ht
  rw [ho] at hcell
  rw [hmo] at hm
  clear ho hmo ht
  have hz' : (own == 0) = true := by simpa using hz
  clear hz
  go_enter Tryz.func51, Tryz.ntmps51
  go_wp2
  go_step3
  go_wp2_with (first | (go_at_call 49; refine (conn_yes _ _ (by omega) (by omega)).mono ?_; rintro e w' ⟨rfl, rfl⟩) | (go_at_call 89; refine hm.mono ?_; rintro e w' ⟨rfl, rfl⟩))
  rw [Exit.noGoto_ret]
  go_ret
  exact ⟨rfl, rfl⟩

theorem raise_2c (b c : Nat) (x : Nat → Int) (own mo : Int) (w : World) (ht : Tab 108 w b x) (hc : c < 4) (ho : x c = own) (hmo : most4 x c = mo) (h1 : own < 2) (hz : own ≠ 0) (h2 : 2 ≤ mo) :
    Calls Tryz.prog 51 #[.pointer (some ⟨b, 0, none⟩), .int .i64 c, .int .i64 2] w fun e w' => e = .returned (.int .i64 8) ∧ w = w' := by
  have hcell := ht.cell c hc
  have hfree := ht.frozen c
  have hm := most_any b x c w ht
  rw [ho] at hcell
  rw [hmo] at hm
  clear ho hmo ht
  have hz' : (own == 0) = false := by simpa using hz
  clear hz
  go_enter Tryz.func51, Tryz.ntmps51
  go_wp2
  refine wp_scope_forward 0 rfl ?_
  go_wp2_with (first | (go_at_call 49; refine (conn_yes _ _ (by omega) (by omega)).mono ?_; rintro e w' ⟨rfl, rfl⟩) | (go_at_call 89; refine hm.mono ?_; rintro e w' ⟨rfl, rfl⟩))
  go_step3
  refine ⟨rfl, ?_⟩
  go_wp2
  rw [Exit.noGoto_ret]
  go_ret
  exact ⟨rfl, rfl⟩

theorem raise_2d (b c : Nat) (x : Nat → Int) (own mo : Int) (w : World) (ht : Tab 108 w b x) (hc : c < 4) (ho : x c = own) (hmo : most4 x c = mo) (h1 : own < 2) (hz : own ≠ 0) (h2 : mo < 2) :
    Calls Tryz.prog 51 #[.pointer (some ⟨b, 0, none⟩), .int .i64 c, .int .i64 2] w fun e w' => e = .returned (.int .i64 0) ∧ w' = w.setCell ⟨b, c, none⟩ (.int .i64 2) := by
  have hcell := ht.cell c hc
  have hfree := ht.frozen c
  have hm := most_any b x c w ht
  rw [ho] at hcell
  rw [hmo] at hm
  clear ho hmo ht
  have hz' : (own == 0) = false := by simpa using hz
  clear hz
  go_enter Tryz.func51, Tryz.ntmps51
  go_wp2
  go_step3
  go_wp2_with (first | (go_at_call 49; refine (conn_yes _ _ (by omega) (by omega)).mono ?_; rintro e w' ⟨rfl, rfl⟩) | (go_at_call 89; refine hm.mono ?_; rintro e w' ⟨rfl, rfl⟩))
  rw [Exit.noGoto_ret]
  go_ret
  exact ⟨rfl, rfl⟩

theorem raise_4a (b c : Nat) (x : Nat → Int) (own mo : Int) (w : World) (ht : Tab 108 w b x) (hc : c < 4) (ho : x c = own) (hmo : most4 x c = mo) (h1 : 4 ≤ own) :
    Calls Tryz.prog 51 #[.pointer (some ⟨b, 0, none⟩), .int .i64 c, .int .i64 4] w fun e w' => e = .returned (.int .i64 0) ∧ w = w' := by
  have hcell := ht.cell c hc
  have hfree := ht.frozen c
  have hm := most_any b x c w ht
  rw [ho] at hcell
  rw [hmo] at hm
  clear ho hmo ht
  go_enter Tryz.func51, Tryz.ntmps51
  go_wp2
  go_step3
  go_wp2_with (first | (go_at_call 49; refine (conn_yes _ _ (by omega) (by omega)).mono ?_; rintro e w' ⟨rfl, rfl⟩) | (go_at_call 89; refine hm.mono ?_; rintro e w' ⟨rfl, rfl⟩))
  rw [Exit.noGoto_ret]
  go_ret
  exact ⟨rfl, rfl⟩

theorem raise_4b (b c : Nat) (x : Nat → Int) (own mo : Int) (w : World) (ht : Tab 108 w b x) (hc : c < 4) (ho : x c = own) (hmo : most4 x c = mo) (h1 : own < 4) (h3 : own < 2) :
    Calls Tryz.prog 51 #[.pointer (some ⟨b, 0, none⟩), .int .i64 c, .int .i64 4] w fun e w' => e = .returned (.int .i64 11) ∧ w = w' := by
  have hcell := ht.cell c hc
  have hfree := ht.frozen c
  have hm := most_any b x c w ht
  rw [ho] at hcell
  rw [hmo] at hm
  clear ho hmo ht
  go_enter Tryz.func51, Tryz.ntmps51
  go_wp2
  go_step3
  go_wp2_with (first | (go_at_call 49; refine (conn_yes _ _ (by omega) (by omega)).mono ?_; rintro e w' ⟨rfl, rfl⟩) | (go_at_call 89; refine hm.mono ?_; rintro e w' ⟨rfl, rfl⟩))
  rw [Exit.noGoto_ret]
  go_ret
  exact ⟨rfl, rfl⟩

theorem raise_4c (b c : Nat) (x : Nat → Int) (own mo : Int) (w : World) (ht : Tab 108 w b x) (hc : c < 4) (ho : x c = own) (hmo : most4 x c = mo) (h1 : own < 4) (h3 : 2 ≤ own) (h2 : 1 ≤ mo) :
    Calls Tryz.prog 51 #[.pointer (some ⟨b, 0, none⟩), .int .i64 c, .int .i64 4] w fun e w' => e = .returned (.int .i64 8) ∧ w' = w.setCell ⟨b, c, none⟩ (.int .i64 3) := by
  have hcell := ht.cell c hc
  have hfree := ht.frozen c
  have hm := most_any b x c w ht
  rw [ho] at hcell
  rw [hmo] at hm
  clear ho hmo ht
  go_enter Tryz.func51, Tryz.ntmps51
  go_wp2
  refine wp_scope_forward 0 rfl ?_
  go_wp2_with (first | (go_at_call 49; refine (conn_yes _ _ (by omega) (by omega)).mono ?_; rintro e w' ⟨rfl, rfl⟩) | (go_at_call 89; refine hm.mono ?_; rintro e w' ⟨rfl, rfl⟩))
  go_step3
  refine ⟨rfl, ?_⟩
  go_wp2
  rw [Exit.noGoto_ret]
  go_ret
  exact ⟨rfl, rfl⟩

theorem raise_4d (b c : Nat) (x : Nat → Int) (own mo : Int) (w : World) (ht : Tab 108 w b x) (hc : c < 4) (ho : x c = own) (hmo : most4 x c = mo) (h1 : own < 4) (h3 : 2 ≤ own) (h2 : mo < 1) :
    Calls Tryz.prog 51 #[.pointer (some ⟨b, 0, none⟩), .int .i64 c, .int .i64 4] w fun e w' => e = .returned (.int .i64 0) ∧ w' = w.setCell ⟨b, c, none⟩ (.int .i64 4) := by
  have hcell := ht.cell c hc
  have hfree := ht.frozen c
  have hm := most_any b x c w ht
  rw [ho] at hcell
  rw [hmo] at hm
  clear ho hmo ht
  go_enter Tryz.func51, Tryz.ntmps51
  go_wp2
  go_step3
  go_wp2_with (first | (go_at_call 49; refine (conn_yes _ _ (by omega) (by omega)).mono ?_; rintro e w' ⟨rfl, rfl⟩) | (go_at_call 89; refine hm.mono ?_; rintro e w' ⟨rfl, rfl⟩))
  rw [Exit.noGoto_ret]
  go_ret
  exact ⟨rfl, rfl⟩

set_option linter.unusedVariables false

def badL (c level : Int) : Prop := ¬ (0 ≤ c ∧ c < 4) ∨ (level ≠ 0 ∧ level ≠ 1)

theorem lower_bad (b : Nat) (c level : Int) (w : World) (h : badL c level) :
    Calls Tryz.prog 67 #[.pointer (some ⟨b, 0, none⟩), .int .i64 c, .int .i64 level] w fun e w' => e = .returned (.int .i64 1) ∧ w = w' := by
  by_cases hc : 0 ≤ c ∧ c < 4
  · obtain ⟨h0, h1⟩ := hc
    rcases h with h | ⟨h2, h3⟩
    · omega
    have e1 : (level != 0) = true := by simpa using h2
    have e2 : (level != 1) = true := by simpa using h3
    clear h2 h3
    go_enter Tryz.func67, Tryz.ntmps67
    go_wp2_with (go_at_call 49; refine (conn_yes _ _ h0 h1).mono ?_; rintro e w' ⟨rfl, rfl⟩)
    go_ret
    exact ⟨rfl, rfl⟩
  · clear h
    go_enter Tryz.func67, Tryz.ntmps67
    go_wp2_with (go_at_call 49; refine (conn_no _ _ hc).mono ?_; rintro e w' ⟨rfl, rfl⟩)
    go_ret
    exact ⟨rfl, rfl⟩

theorem lower_ok (b c : Nat) (own level : Int) (w : World) (hc : c < 4) (hcell : w.cell? ⟨b, c, none⟩ = some (.int .i64 own)) (hfree : w.frozen? ⟨b, c, none⟩ = false) (hl : level = 0 ∨ level = 1) :
    Calls Tryz.prog 67 #[.pointer (some ⟨b, 0, none⟩), .int .i64 c, .int .i64 level] w fun e w' => e = .returned (.int .i64 0) ∧ w' = (w.setCell ⟨b, c, none⟩ (.int .i64 (if level < own then level else own))).drew := by
  have h0 : (0 : Int) ≤ (c : Int) := by omega
  have h1 : (c : Int) < 4 := by omega
  rcases hl with rfl | rfl
  all_goals
    go_enter Tryz.func67, Tryz.ntmps67
    go_wp2_with (go_at_call 49; refine (conn_yes _ _ h0 h1).mono ?_; rintro e w' ⟨rfl, rfl⟩)
    go_region
    go_wp2
    all_goals (go_ret; exact ⟨rfl, rfl⟩)

/-- a call of Raise: the number told, and the levels behind it -/
def rE (x : Nat → Int) (c level : Int) : Int := if (0 ≤ c ∧ c < 4) ∧ (level = 1 ∨ level = 2 ∨ level = 4) then raiseE (x c.toNat) (most4 x c) level else 1
def rX (x : Nat → Int) (c level : Int) : Nat → Int := if (0 ≤ c ∧ c < 4) ∧ (level = 1 ∨ level = 2 ∨ level = 4) then upd x c.toNat (raiseL (x c.toNat) (most4 x c) level) else x
def lE (c level : Int) : Int := if (0 ≤ c ∧ c < 4) ∧ (level = 0 ∨ level = 1) then 0 else 1
def lX (x : Nat → Int) (c level : Int) : Nat → Int := if (0 ≤ c ∧ c < 4) ∧ (level = 0 ∨ level = 1) then upd x c.toNat (if level < x c.toNat then level else x c.toNat) else x

/-- what a call leaves -/
def Did (T : TypeId) (b : Nat) (n : Int) (y : Nat → Int) (w : World) (e : Ending) (w' : World) : Prop :=
  e = .returned (.int .i64 n) ∧ Tab T w' b y ∧ Only b w w'

theorem did_same {T : TypeId} {b : Nat} {n m : Int} {x y : Nat → Int} {w : World} {e : Ending} {w' : World} (ht : Tab T w b x) (hn : n = m) (hx : x = y)
    (h : e = .returned (.int .i64 n) ∧ w = w') : Did T b m y w e w' := by
  obtain ⟨rfl, rfl⟩ := h; subst hn; subst hx; exact ⟨rfl, ht, Only.refl _ _⟩
theorem did_set {T : TypeId} {b c : Nat} {n m v : Int} {x y : Nat → Int} {w : World} {e : Ending} {w' : World} (ht : Tab T w b x) (hc : c < 4) (hn : n = m) (hx : upd x c v = y)
    (h : e = .returned (.int .i64 n) ∧ w' = w.setCell ⟨b, c, none⟩ (.int .i64 v)) : Did T b m y w e w' := by
  obtain ⟨rfl, rfl⟩ := h; subst hn; subst hx; exact ⟨rfl, ht.set_ c hc v, (Only.refl _ _).set_ _ _⟩
theorem did_setd {T : TypeId} {b c : Nat} {n m v : Int} {x y : Nat → Int} {w : World} {e : Ending} {w' : World} (ht : Tab T w b x) (hc : c < 4) (hn : n = m) (hx : upd x c v = y)
    (h : e = .returned (.int .i64 n) ∧ w' = (w.setCell ⟨b, c, none⟩ (.int .i64 v)).drew) : Did T b m y w e w' := by
  obtain ⟨rfl, rfl⟩ := h; subst hn; subst hx; exact ⟨rfl, (ht.set_ c hc v).drew, ((Only.refl _ _).set_ _ _).drew⟩

theorem raise_all (b : Nat) (x : Nat → Int) (c level : Int) (w : World) (ht : Tab 108 w b x) :
    Calls Tryz.prog 51 #[.pointer (some ⟨b, 0, none⟩), .int .i64 c, .int .i64 level] w (Did 108 b (rE x c level) (rX x c level) w) := by
  by_cases h : (0 ≤ c ∧ c < 4) ∧ (level = 1 ∨ level = 2 ∨ level = 4)
  · obtain ⟨⟨h0, h1⟩, hl⟩ := h
    obtain ⟨k, rfl⟩ := Int.eq_ofNat_of_zero_le h0
    have hk : k < 4 := by omega
    have eE : rE x k level = raiseE (x k) (most4 x k) level := by unfold rE; rw [if_pos ⟨⟨h0, h1⟩, hl⟩, Int.toNat_natCast]
    have eX : rX x k level = upd x k (raiseL (x k) (most4 x k) level) := by unfold rX; rw [if_pos ⟨⟨h0, h1⟩, hl⟩, Int.toNat_natCast]
    rw [eE, eX]
    have hself := upd_self x k
    generalize ho : x k = own at hself ⊢
    generalize hm : most4 x k = mo
    clear eE eX h0 h1
    rcases hl with rfl | rfl | rfl
    · by_cases h1 : 1 ≤ own
      · exact (raise_1a b k x own mo w ht hk ho hm h1).mono fun e w' h => did_same ht (by unfold raiseE; simp <;> omega) (by have e : raiseL own mo 1 = own := (by unfold raiseL; simp <;> omega); rw [e, hself]) h
      · by_cases h2 : 3 ≤ mo
        · exact (raise_1b b k x own mo w ht hk ho hm (by omega) h2).mono fun e w' h => did_same ht (by unfold raiseE; simp <;> omega) (by have e : raiseL own mo 1 = own := (by unfold raiseL; simp <;> omega); rw [e, hself]) h
        · exact (raise_1c b k x own mo w ht hk ho hm (by omega) (by omega)).mono fun e w' h => did_set ht hk (by unfold raiseE; simp <;> omega) (by have e : raiseL own mo 1 = 1 := (by unfold raiseL; simp <;> omega); rw [e]) h
    · by_cases h1 : 2 ≤ own
      · exact (raise_2a b k x own mo w ht hk ho hm h1).mono fun e w' h => did_same ht (by unfold raiseE; simp <;> omega) (by have e : raiseL own mo 2 = own := (by unfold raiseL; simp <;> omega); rw [e, hself]) h
      · by_cases hz : own = 0
        · exact (raise_2b b k x own mo w ht hk ho hm (by omega) hz).mono fun e w' h => did_same ht (by unfold raiseE; simp <;> omega) (by have e : raiseL own mo 2 = own := (by unfold raiseL; simp <;> omega); rw [e, hself]) h
        · by_cases h2 : 2 ≤ mo
          · exact (raise_2c b k x own mo w ht hk ho hm (by omega) hz h2).mono fun e w' h => did_same ht (by unfold raiseE; simp <;> omega) (by have e : raiseL own mo 2 = own := (by unfold raiseL; simp <;> omega); rw [e, hself]) h
          · exact (raise_2d b k x own mo w ht hk ho hm (by omega) hz (by omega)).mono fun e w' h => did_set ht hk (by unfold raiseE; simp <;> omega) (by have e : raiseL own mo 2 = 2 := (by unfold raiseL; simp <;> omega); rw [e]) h
    · by_cases h1 : 4 ≤ own
      · exact (raise_4a b k x own mo w ht hk ho hm h1).mono fun e w' h => did_same ht (by unfold raiseE; simp <;> omega) (by have e : raiseL own mo 4 = own := (by unfold raiseL; simp <;> omega); rw [e, hself]) h
      · by_cases h3 : own < 2
        · exact (raise_4b b k x own mo w ht hk ho hm (by omega) h3).mono fun e w' h => did_same ht (by unfold raiseE; simp <;> omega) (by have e : raiseL own mo 4 = own := (by unfold raiseL; simp <;> omega); rw [e, hself]) h
        · by_cases h2 : 1 ≤ mo
          · exact (raise_4c b k x own mo w ht hk ho hm (by omega) (by omega) h2).mono fun e w' h => did_set ht hk (by unfold raiseE; simp <;> omega) (by have e : raiseL own mo 4 = 3 := (by unfold raiseL; simp <;> omega); rw [e]) h
          · exact (raise_4d b k x own mo w ht hk ho hm (by omega) (by omega) (by omega)).mono fun e w' h => did_set ht hk (by unfold raiseE; simp <;> omega) (by have e : raiseL own mo 4 = 4 := (by unfold raiseL; simp <;> omega); rw [e]) h
  · have eE : rE x c level = 1 := by unfold rE; rw [if_neg h]
    have eX : rX x c level = x := by unfold rX; rw [if_neg h]
    exact (raise_bad b c level w (by unfold bad; omega)).mono fun e w' h => did_same ht eE.symm eX.symm h

theorem lower_all (b : Nat) (x : Nat → Int) (c level : Int) (w : World) (ht : Tab 108 w b x) :
    Calls Tryz.prog 67 #[.pointer (some ⟨b, 0, none⟩), .int .i64 c, .int .i64 level] w (Did 108 b (lE c level) (lX x c level) w) := by
  by_cases h : (0 ≤ c ∧ c < 4) ∧ (level = 0 ∨ level = 1)
  · obtain ⟨⟨h0, h1⟩, hl⟩ := h
    obtain ⟨k, rfl⟩ := Int.eq_ofNat_of_zero_le h0
    have hk : k < 4 := by omega
    have eE : lE k level = 0 := by unfold lE; rw [if_pos ⟨⟨h0, h1⟩, hl⟩]
    have eX : lX x k level = upd x k (if level < x k then level else x k) := by unfold lX; rw [if_pos ⟨⟨h0, h1⟩, hl⟩, Int.toNat_natCast]
    exact (lower_ok b k (x k) level w hk (ht.cell k hk) (ht.frozen k) hl).mono fun e w' h => did_setd ht hk eE.symm eX.symm h
  · have eE : lE c level = 1 := by unfold lE; rw [if_neg h]
    have eX : lX x c level = x := by unfold lX; rw [if_neg h]
    exact (lower_bad b c level w (by unfold badL; omega)).mono fun e w' h => did_same ht eE.symm eX.symm h

end Go.Proofs.YtmdpgjdepflbmaaGreat

/-
  The contracts of 'most' and 'top'.
-/
import Derived.Test.YtoocokmkghfgmaaTab
namespace Go.Proofs.Ytoocokmkghfgmaa
open Go.ChangeShapes Go.WideShapes Go.ChangeAt Go.RowKit Go.Deep
set_option linter.unusedVariables false

theorem mstep_ne (c k v m : Int) (h : (k != c) = true) : (if m < v then v else m) = mstep c k v m := by
  have h2 : ¬ k = c := by simpa using h
  unfold mstep; rw [if_neg h2]
theorem mstep_eq (c k v m : Int) (h : (k != c) = false) : m = mstep c k v m := by
  have h2 : k = c := by simpa using h
  unfold mstep; rw [if_pos h2]
theorem val_int {a b : Int} (h : a = b) : Value.int .i64 a = Value.int .i64 b := by rw [h]

set_option maxRecDepth 100000 in
theorem most_any (b : Nat) (x : Nat → Int) (c : Int) (w : World) (h : Tab 42 w b x) :
    Calls Try.prog 17 #[.pointer (some ⟨b, 0, none⟩), .int .i64 c] w fun e w' => e = .returned (.int .i64 (most4 x c)) ∧ w = w' := by
  have c0 := h.cell 0 (by omega)
  have c1 := h.cell 1 (by omega)
  have c2 := h.cell 2 (by omega)
  have c3 := h.cell 3 (by omega)
  clear h
  have i0 : ∀ w : World, (Instr.index 26 (.agg #[.int .i64 (x 0), .int .i64 (x 1), .int .i64 (x 2), .int .i64 (x 3)]) (.int .i64 0)).run Try.prog w = .ok (.int .i64 (x 0)) w := fun _ => by kernel_rfl
  have i1 : ∀ w : World, (Instr.index 26 (.agg #[.int .i64 (x 0), .int .i64 (x 1), .int .i64 (x 2), .int .i64 (x 3)]) (.int .i64 1)).run Try.prog w = .ok (.int .i64 (x 1)) w := fun _ => by kernel_rfl
  have i2 : ∀ w : World, (Instr.index 26 (.agg #[.int .i64 (x 0), .int .i64 (x 1), .int .i64 (x 2), .int .i64 (x 3)]) (.int .i64 2)).run Try.prog w = .ok (.int .i64 (x 2)) w := fun _ => by kernel_rfl
  have i3 : ∀ w : World, (Instr.index 26 (.agg #[.int .i64 (x 0), .int .i64 (x 1), .int .i64 (x 2), .int .i64 (x 3)]) (.int .i64 3)).run Try.prog w = .ok (.int .i64 (x 3)) w := fun _ => by kernel_rfl
  go_enter Try.func17, Try.ntmps17
  go_wp2
  go_loop [4, 11] (fun m i => (i = .int .i64 0 ∧ m = .int .i64 0) ∨ (i = .int .i64 1 ∧ m = .int .i64 (mstep c 0 (x 0) 0)) ∨ (i = .int .i64 2 ∧ m = .int .i64 (mstep c 1 (x 1) (mstep c 0 (x 0) 0))) ∨ (i = .int .i64 3 ∧ m = .int .i64 (mstep c 2 (x 2) (mstep c 1 (x 1) (mstep c 0 (x 0) 0)))) ∨ (i = .int .i64 4 ∧ m = .int .i64 (most4 x c))) (fun _ i => 4 - (intOf i).toNat)
  case atStart => exact .inl ⟨rfl, rfl⟩
  case round =>
    rcases hrel with ⟨rfl, rfl⟩ | ⟨rfl, rfl⟩ | ⟨rfl, rfl⟩ | ⟨rfl, rfl⟩ | ⟨rfl, rfl⟩
    · by_cases hc : (0 != c) = true
      · go_wp2
        go_round
        case rel => exact .inr (.inl ⟨rfl, (val_int (mstep_ne _ _ _ _ hc))⟩)
        case measure => simp [intOf]
      · have hc' : (0 != c) = false := by simpa using hc
        clear hc
        go_wp2
        go_round
        case rel => exact .inr (.inl ⟨rfl, (val_int (mstep_eq _ _ _ _ hc'))⟩)
        case measure => simp [intOf]
    · by_cases hc : (1 != c) = true
      · go_wp2
        go_round
        case rel => exact .inr (.inr (.inl ⟨rfl, (val_int (mstep_ne _ _ _ _ hc))⟩))
        case measure => simp [intOf]
      · have hc' : (1 != c) = false := by simpa using hc
        clear hc
        go_wp2
        go_round
        case rel => exact .inr (.inr (.inl ⟨rfl, (val_int (mstep_eq _ _ _ _ hc'))⟩))
        case measure => simp [intOf]
    · by_cases hc : (2 != c) = true
      · go_wp2
        go_round
        case rel => exact .inr (.inr (.inr (.inl ⟨rfl, (val_int (mstep_ne _ _ _ _ hc))⟩)))
        case measure => simp [intOf]
      · have hc' : (2 != c) = false := by simpa using hc
        clear hc
        go_wp2
        go_round
        case rel => exact .inr (.inr (.inr (.inl ⟨rfl, (val_int (mstep_eq _ _ _ _ hc'))⟩)))
        case measure => simp [intOf]
    · by_cases hc : (3 != c) = true
      · go_wp2
        go_round
        case rel => exact .inr (.inr (.inr (.inr ⟨rfl, (val_int (mstep_ne _ _ _ _ hc))⟩)))
        case measure => simp [intOf]
      · have hc' : (3 != c) = false := by simpa using hc
        clear hc
        go_wp2
        go_round
        case rel => exact .inr (.inr (.inr (.inr ⟨rfl, (val_int (mstep_eq _ _ _ _ hc'))⟩)))
        case measure => simp [intOf]
    · go_wp2
      go_ret
      exact ⟨rfl, rfl⟩
end Go.Proofs.Ytoocokmkghfgmaa

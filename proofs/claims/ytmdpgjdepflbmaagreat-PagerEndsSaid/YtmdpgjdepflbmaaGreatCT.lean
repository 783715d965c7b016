/-
  Calls that are refused: without a transaction, within one, or dead.
-/
import Derived.Test.YtmdpgjdepflbmaaGreatCS
namespace Go.Proofs.YtmdpgjdepflbmaaGreat
open Go.RowKit Go.Maps Go.Proofs.YtmdpgjdepflbmaaGreatW.PrintWords Go.Proofs.YtmdpgjdepflbmaaGreatW.PrintLast Go.Proofs.YtmdpgjdepflbmaaGreatW.PrintMore
open Go.Proofs.YtmdpgjdepflbmaaGreat.PPagerFolds
set_option linter.unusedVariables false
set_option linter.unusedSimpArgs false

section
variable {w : World} {X : PG} {ok : Nat → Prop}
theorem pwrite_ask (h : PgAt w X ok) (n : Int) (A : Option Addr) (k c : Nat) (hx : (askE X == 0) = false) :
    Calls Tryz.prog 20 #[dp X.p, .int .i64 n, .slice A k c] w fun e w' => e = .returned (.int .i64 (askE X)) ∧ w = w' := by
  have HA := Aside0.mk (ask_any h)
  clear h
  have hx' : (askE X != 0) = true := by simpa using hx
  obtain ⟨a, ha⟩ : ∃ a, a = askE X := ⟨_, rfl⟩
  rw [← ha] at hx hx' HA ⊢
  clear ha
  go_enter Tryz.func20, Tryz.ntmps20
  go_wp2_with (go_at_call 53; refine (HA.out).mono ?_; rintro e w' ⟨rfl, rfl⟩)
  go_ret
  exact ⟨rfl, rfl⟩
theorem pcommit_ask (h : PgAt w X ok) (hx : (askE X == 0) = false) :
    Calls Tryz.prog 26 #[dp X.p] w fun e w' => e = .returned (.int .i64 (askE X)) ∧ w = w' := by
  have HA := Aside0.mk (ask_any h)
  clear h
  have hx' : (askE X != 0) = true := by simpa using hx
  obtain ⟨a, ha⟩ : ∃ a, a = askE X := ⟨_, rfl⟩
  rw [← ha] at hx hx' HA ⊢
  clear ha
  go_enter Tryz.func26, Tryz.ntmps26
  go_wp2_with (go_at_call 53; refine (HA.out).mono ?_; rintro e w' ⟨rfl, rfl⟩)
  go_ret
  exact ⟨rfl, rfl⟩
theorem proll_ask (h : PgAt w X ok) (hx : (askE X == 0) = false) :
    Calls Tryz.prog 27 #[dp X.p] w fun e w' => e = .returned (.int .i64 (askE X)) ∧ w = w' := by
  have HA := Aside0.mk (ask_any h)
  clear h
  have hx' : (askE X != 0) = true := by simpa using hx
  obtain ⟨a, ha⟩ : ∃ a, a = askE X := ⟨_, rfl⟩
  rw [← ha] at hx hx' HA ⊢
  clear ha
  go_enter Tryz.func27, Tryz.ntmps27
  go_wp2_with (go_at_call 53; refine (HA.out).mono ?_; rintro e w' ⟨rfl, rfl⟩)
  go_ret
  exact ⟨rfl, rfl⟩
theorem pmark_ask (h : PgAt w X ok) (hx : (askE X == 0) = false) :
    Calls Tryz.prog 32 #[dp X.p] w fun e w' => e = .returned (.tuple #[.int .i64 0, .int .i64 (askE X)]) ∧ w = w' := by
  have HA := Aside0.mk (ask_any h)
  clear h
  have hx' : (askE X != 0) = true := by simpa using hx
  obtain ⟨a, ha⟩ : ∃ a, a = askE X := ⟨_, rfl⟩
  rw [← ha] at hx hx' HA ⊢
  clear ha
  go_enter Tryz.func32, Tryz.ntmps32
  go_wp2_with (go_at_call 53; refine (HA.out).mono ?_; rintro e w' ⟨rfl, rfl⟩)
  go_ret2
  exact ⟨rfl, rfl⟩
theorem pback_ask (h : PgAt w X ok) (hok : ∀ k, ok k → k < w.heap.size) (m : Int) (hx : (askE X == 0) = false) :
    Calls Tryz.prog 31 #[dp X.p, .int .i64 m] w fun e w' => e = .returned (.int .i64 (askE X)) ∧ Below w.heap.size w w' := by
  obtain ⟨W, hW⟩ : ∃ W, W = w.alloc (.cells #[.int .i64 m] 3) := ⟨_, rfl⟩
  have hbW : Below w.heap.size w W := by rw [hW]; exact (Below.refl _ _).alloc (Nat.le_refl _) _
  obtain ⟨bo, vw, vm, hP⟩ := h
  have HA := Aside0.mk (ask_any (w := W) (X := X) ⟨bo, vw, vm, hP.move (fun j hj hl => hbW.block j hl)⟩)
  have HW := Aside0.mk (And.intro hW hbW)
  clear hP hbW hW
  have hx' : (askE X != 0) = true := by simpa using hx
  obtain ⟨a, ha⟩ : ∃ a, a = askE X := ⟨_, rfl⟩
  rw [← ha] at hx hx' HA ⊢
  clear ha
  go_enter Tryz.func31, Tryz.ntmps31
  go_wp2_with (go_at_call 53; rw [← HW.out.1]; refine (HA.out).mono ?_; rintro e w' ⟨rfl, rfl⟩)
  go_ret
  exact ⟨rfl, HW.out.2⟩
theorem pbegin_no (h : PgAt w X ok) (hx : X.dead = true ∨ X.inn = true) :
    Calls Tryz.prog 19 #[dp X.p] w fun e w' => e = .returned (.int .i64 (if X.dead = true then 9 else 11)) ∧ w = w' := by
  obtain ⟨bo, vw, vm, h⟩ := h
  have c4 := h.cell 4
  have c5 := h.cell 5
  clear h
  cases hd : X.dead <;> cases hi : X.inn <;> rw [hd] at c4 <;> rw [hi] at c5 <;> rw [hd, hi] at hx <;> first | (exact absurd hx (by decide)) | skip
  all_goals
    clear hd hi hx
    go_enter Tryz.func19, Tryz.ntmps19
    go_wp2
    go_ret
    exact ⟨rfl, rfl⟩
theorem pfold_no (h : PgAt w X ok) (hx : X.dead = true ∨ X.inn = true) :
    Calls Tryz.prog 35 #[dp X.p] w fun e w' => e = .returned (.int .i64 (if X.dead = true then 9 else 11)) ∧ w = w' := by
  obtain ⟨bo, vw, vm, h⟩ := h
  have c4 := h.cell 4
  have c5 := h.cell 5
  clear h
  cases hd : X.dead <;> cases hi : X.inn <;> rw [hd] at c4 <;> rw [hi] at c5 <;> rw [hd, hi] at hx <;> first | (exact absurd hx (by decide)) | skip
  all_goals
    clear hd hi hx
    go_enter Tryz.func35, Tryz.ntmps35
    go_wp2
    go_ret
    exact ⟨rfl, rfl⟩
end
section
variable {W w w' : World} {X : PG} {B : World → (Nat → Prop) → Prop} {p d ls : Nat} {mo cc : Int} {C : Bytes} {Ds : List Bytes}
end
end Go.Proofs.YtmdpgjdepflbmaaGreat
namespace Go.Proofs.YtmdpgjdepflbmaaGreat
open Go.RowKit Go.Maps Go.Proofs.YtmdpgjdepflbmaaGreatW.PrintWords Go.Proofs.YtmdpgjdepflbmaaGreatW.PrintLast Go.Proofs.YtmdpgjdepflbmaaGreatW.PrintMore
open Go.Proofs.YtmdpgjdepflbmaaGreat.PPagerFolds
set_option linter.unusedVariables false
set_option linter.unusedSimpArgs false

section
variable {lo g : Nat} {op : Bool} {vd vn vm vi : Value} {Dd Dw : List Bytes} {Ms : List (List Bytes)} {Id : List Int} {w w' : World} {P Q : Nat → Prop}
end
section
variable {W w w' : World} {X : PG} {M : DM} {B B' : World → (Nat → Prop) → Prop} {p d ls : Nat} {mo cc : Int} {C : Bytes} {Ds : List Bytes}
end
end Go.Proofs.YtmdpgjdepflbmaaGreat
namespace Go.Proofs.YtmdpgjdepflbmaaGreat
open Go.RowKit Go.Maps Go.Proofs.YtmdpgjdepflbmaaGreatW.PrintWords Go.Proofs.YtmdpgjdepflbmaaGreatW.PrintLast Go.Proofs.YtmdpgjdepflbmaaGreatW.PrintMore
open Go.Proofs.YtmdpgjdepflbmaaGreat.PPagerFolds
set_option linter.unusedVariables false
set_option linter.unusedSimpArgs false

section
variable {lo g : Nat} {op : Bool} {vd vn vm vi : Value} {Dd Dw : List Bytes} {Ms : List (List Bytes)} {Id : List Int} {w w' : World} {P Q : Nat → Prop}
end
end Go.Proofs.YtmdpgjdepflbmaaGreat
namespace Go.Proofs.YtmdpgjdepflbmaaGreat
open Go.RowKit Go.Maps Go.Proofs.YtmdpgjdepflbmaaGreatW.PrintWords Go.Proofs.YtmdpgjdepflbmaaGreatW.PrintLast Go.Proofs.YtmdpgjdepflbmaaGreatW.PrintMore
open Go.Proofs.YtmdpgjdepflbmaaGreat.PPagerFolds
set_option linter.unusedVariables false
set_option linter.unusedSimpArgs false

section
variable {W w w' : World} {X : PG} {M : DM} {g p d ls : Nat} {mo cc : Int} {C : Bytes} {Ds : List Bytes} {op : Bool} {vd vn vm vi : Value} {Dd Dw : List Bytes} {Ms : List (List Bytes)} {Id : List Int} {Ad An Am Ai : Option Addr} {nd nn nm ni cd cn cm ci : Nat}
end
end Go.Proofs.YtmdpgjdepflbmaaGreat
namespace Go.Proofs.YtmdpgjdepflbmaaGreat
open Go.RowKit Go.Maps Go.Proofs.YtmdpgjdepflbmaaGreatW.PrintWords Go.Proofs.YtmdpgjdepflbmaaGreatW.PrintLast Go.Proofs.YtmdpgjdepflbmaaGreatW.PrintMore
open Go.Proofs.YtmdpgjdepflbmaaGreat.PPagerFolds
set_option linter.unusedVariables false
set_option linter.unusedSimpArgs false

section
variable {W w w' : World} {X : PG} {M : DM} {B : World → (Nat → Prop) → Prop} {p d ls lo : Nat} {mo cc : Int} {C : Bytes} {Ds : List Bytes}
end
end Go.Proofs.YtmdpgjdepflbmaaGreat
namespace Go.Proofs.YtmdpgjdepflbmaaGreat
open Go.RowKit Go.Maps Go.Proofs.YtmdpgjdepflbmaaGreatW.PrintWords Go.Proofs.YtmdpgjdepflbmaaGreatW.PrintLast Go.Proofs.YtmdpgjdepflbmaaGreatW.PrintMore
open Go.Proofs.YtmdpgjdepflbmaaGreat.PPagerFolds
set_option linter.unusedVariables false
set_option linter.unusedSimpArgs false


section
variable {W w w' : World} {X : PG} {M : DM} {B : World → (Nat → Prop) → Prop} {p d ls lo : Nat} {mo cc : Int} {C : Bytes} {Ds : List Bytes}
end

section
variable {W w w' w6 w7 : World} {X : PG} {M : DM} {g b p d ls : Nat} {mo cc : Int} {C : Bytes} {Ds : List Bytes} {vd vn vm vi : Value} {Dd Dw : List Bytes} {Ms : List (List Bytes)} {Id : List Int} {An : Option Addr} {nn cn : Nat} {D N L : Int}
end

section
variable {W w w' : World} {X : PG} {M : DM} {g p d ls : Nat} {mo cc : Int} {C : Bytes} {Ds : List Bytes} {op : Bool} {vd vn vm vi : Value} {Dd Dw : List Bytes} {Ms : List (List Bytes)} {Id : List Int} {Ad An Am Ai : Option Addr} {nd nn nm ni cd cn cm ci : Nat}
end
end Go.Proofs.YtmdpgjdepflbmaaGreat
namespace Go.Proofs.YtmdpgjdepflbmaaGreat
open Go.RowKit Go.Maps Go.Proofs.YtmdpgjdepflbmaaGreatW.PrintWords Go.Proofs.YtmdpgjdepflbmaaGreatW.PrintLast Go.Proofs.YtmdpgjdepflbmaaGreatW.PrintMore
open Go.Proofs.YtmdpgjdepflbmaaGreat.PPagerFolds
set_option linter.unusedVariables false
set_option linter.unusedSimpArgs false

section
variable {W w w' : World} {g p d : Nat} {mo : Int} {i : Nat} {Ad : Option Addr} {nd cd : Nat} {Dd : List Bytes} {C : Bytes}
end
end Go.Proofs.YtmdpgjdepflbmaaGreat
namespace Go.Proofs.YtmdpgjdepflbmaaGreat
open Go.RowKit Go.Maps Go.Proofs.YtmdpgjdepflbmaaGreatW.PrintWords Go.Proofs.YtmdpgjdepflbmaaGreatW.PrintLast Go.Proofs.YtmdpgjdepflbmaaGreatW.PrintMore
open Go.Proofs.YtmdpgjdepflbmaaGreat.PPagerFolds
set_option linter.unusedVariables false
set_option linter.unusedSimpArgs false

theorem mode12_some (a : Int) (w : World) : Calls Tryz.prog 17 #[.int .i64 a] w fun e w' => ∃ m : Int, Aside0 (m = 1 ∨ m = 2) ∧ e = .returned (.int .i64 m) ∧ ∃ n, w' = w.drewN n := by
  refine (mode12_any a w).mono ?_
  rintro e w' ⟨rfl, n, rfl⟩
  exact ⟨_, ⟨(mode12_or a).2⟩, rfl, n, rfl⟩
end Go.Proofs.YtmdpgjdepflbmaaGreat

/-
  The contracts of Within and of wakes.
-/
import Derived.Test.YtoocokmkghfgmaaLower
namespace Go.Proofs.Ytoocokmkghfgmaa
open Go.ChangeShapes Go.WideShapes Go.ChangeAt Go.RowKit Go.Deep
set_option linter.unusedVariables false

def wi (i n : Int) : Int := i % 18446744073709551616 % n

theorem wi_eq (i n : Int) (h0 : 0 < n) (h1 : n ≤ 1000) : wrap64 ((IntKind.u64.wrap i).tmod n) = wi i n := by
  have e : IntKind.u64.wrap i = i % 18446744073709551616 := by simp [IntKind.wrap, IntKind.signed, IntKind.bits]
  have hb : 0 ≤ i % 18446744073709551616 := by omega
  rw [e, Int.tmod_eq_emod_of_nonneg hb]
  have h2 := Int.emod_nonneg (i % 18446744073709551616) (show n ≠ 0 by omega)
  have h3 := Int.emod_lt_of_pos (i % 18446744073709551616) h0
  unfold wi
  generalize i % 18446744073709551616 % n = z at *
  unfold wrap64
  omega
theorem wi_bd (i n : Int) (h0 : 0 < n) : 0 ≤ wi i n ∧ wi i n < n :=
  ⟨Int.emod_nonneg _ (by omega), Int.emod_lt_of_pos _ h0⟩

theorem within_any (i n : Int) (w : World) (h0 : 0 < n) (h1 : n ≤ 1000) :
    Calls Try.prog 7 #[.int .i64 i, .int .i64 n] w fun e w' => e = .returned (.int .i64 (wi i n)) ∧ w = w' := by
  have e := wi_eq i n h0 h1
  have E : Hid (wrap64 ((IntKind.u64.wrap i).tmod n) = wi i n) := e
  clear e
  go_enter Try.func7, Try.ntmps7
  go_wp2
  go_ret
  exact ⟨by rw [← E.out]; rfl, rfl⟩

theorem rE_new : rE (fun _ => 0) 1 1 = 0 := by decide
theorem rX_new : (rX (fun _ => 0) 1 1) 1 = 1 := by decide

theorem wakes_any (w : World) : Calls Try.prog 15 #[] w fun e w' => e = .returned (.bool true) ∧ Below w.heap.size w w' := by
  have hn := new_any w
  have ht : Tab 42 (w.alloc (.cells #[.int .i64 0, .int .i64 0, .int .i64 0, .int .i64 0] 42)) w.heap.size (fun _ => 0) := Tab.new w
  have hb : Below w.heap.size w (w.alloc (.cells #[.int .i64 0, .int .i64 0, .int .i64 0, .int .i64 0] 42)) := (Below.refl _ _).alloc (Nat.le_refl _) _
  have hr := raise_all _ _ 1 1 _ ht
  rw [rE_new] at hr
  generalize hy : rX (fun _ => 0) 1 1 = y at hr
  have hy1 : y 1 = 1 := by rw [← hy]; exact rX_new
  have HY : Hid (y 1 = 1) := hy1
  clear hy hy1
  generalize w.alloc (.cells #[.int .i64 0, .int .i64 0, .int .i64 0, .int .i64 0] 42) = w1 at *
  go_enter Try.func15, Try.ntmps15
  go_wp2_with (go_at_call 6; refine hn.mono ?_; rintro e w' ⟨rfl, rfl⟩)
  refine hr.mono ?_
  rintro e w2 ⟨rfl, ht2, ho⟩
  have hb2 := hb.trans (ho.below (Nat.le_refl _))
  have hl := level_yes w.heap.size y 1 w2 (by omega) ht2
  rw [HY.out] at hl
  clear ht ht2 ho hr hn hb
  go_wp2_with (first | (go_at_call 13; refine hl.mono ?_; rintro e w' ⟨rfl, rfl⟩) | (go_at_call 8; refine (num_any _ _).mono ?_; rintro e w' ⟨rfl, rfl⟩))
  go_ret
  exact ⟨rfl, hb2⟩

def s0 : Nat → Int := fun _ => 0

theorem new_abs (w : World) : Calls Try.prog 6 #[] w fun e w' => e = .returned (.pointer (some ⟨w.heap.size, 0, none⟩)) ∧ Tab 42 w' w.heap.size s0 ∧ Below w.heap.size w w' :=
  (new_any w).mono fun e w' ⟨he, hw⟩ => ⟨he, by rw [hw]; exact Tab.new w, by rw [hw]; exact (Below.refl _ _).alloc (Nat.le_refl _) _⟩

theorem Tab.congr4 {T : TypeId} {w : World} {b : Nat} {x y : Nat → Int} (h : Tab T w b x) (e : ∀ j, j < 4 → x j = y j) : Tab T w b y := by
  unfold Tab at h ⊢
  rw [← e 0 (by omega), ← e 1 (by omega), ← e 2 (by omega), ← e 3 (by omega)]
  exact h

theorem raise_to {b : Nat} {x : Nat → Int} (y : Nat → Int) {c level : Int} {n : Int} {w : World} (ht : Tab 42 w b x) (he : rE x c level = n) (hy : ∀ j, j < 4 → rX x c level j = y j) :
    Calls Try.prog 9 #[.pointer (some ⟨b, 0, none⟩), .int .i64 c, .int .i64 level] w fun e w' => e = .returned (.int .i64 n) ∧ Tab 42 w' b y ∧ Only b w w' :=
  (raise_all b x c level w ht).mono fun e w' ⟨h1, h2, h3⟩ => ⟨by rw [h1, he], h2.congr4 hy, h3⟩
theorem lower_to {b : Nat} {x : Nat → Int} (y : Nat → Int) {c level : Int} {n : Int} {w : World} (ht : Tab 42 w b x) (he : lE c level = n) (hy : ∀ j, j < 4 → lX x c level j = y j) :
    Calls Try.prog 11 #[.pointer (some ⟨b, 0, none⟩), .int .i64 c, .int .i64 level] w fun e w' => e = .returned (.int .i64 n) ∧ Tab 42 w' b y ∧ Only b w w' :=
  (lower_all b x c level w ht).mono fun e w' ⟨h1, h2, h3⟩ => ⟨by rw [h1, he], h2.congr4 hy, h3⟩

theorem within_to (i n : Int) (h0 : 0 < n) (h1 : n ≤ 1000) : ∃ m, 0 ≤ m ∧ m < n ∧ ∀ w, Calls Try.prog 7 #[.int .i64 i, .int .i64 n] w fun e w' => e = .returned (.int .i64 m) ∧ w = w' :=
  ⟨wi i n, (wi_bd i n h0).1, (wi_bd i n h0).2, fun w => within_any i n w h0 h1⟩

/-- what the walk is told of the argument: the cells of its elements -/
def Acts (w : World) (A : Option Addr) (len : Nat) (D C L : Nat → Int) : Prop :=
  0 < len → ∃ b off, A = some ⟨b, off, none⟩ ∧ b < w.heap.size ∧ ∀ i, i < len → w.cell? ⟨b, off + i * 3, none⟩ = some (.int .i64 (D i)) ∧ w.cell? ⟨b, off + i * 3 + 1, none⟩ = some (.int .i64 (C i)) ∧ w.cell? ⟨b, off + i * 3 + 2, none⟩ = some (.int .i64 (L i))

end Go.Proofs.Ytoocokmkghfgmaa

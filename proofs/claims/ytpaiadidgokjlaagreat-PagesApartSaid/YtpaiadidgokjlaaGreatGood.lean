/-
  The plain law of names: the program's and the reference's asking are one.
-/
import Derived.Test.YtpaiadidgokjlaaGreatPPagesModelx1
namespace Go.Proofs.YtpaiadidgokjlaaGreat
open Go.RowKit Go.Proofs.YtpaiadidgokjlaaGreatW.PrintWords Go.Proofs.YtpaiadidgokjlaaGreatW.PrintLast Go.Proofs.YtpaiadidgokjlaaGreatW.PrintMore
open Go.Proofs.YtpaiadidgokjlaaGreat.PPagesModel
set_option linter.unusedVariables false

def okc (c : Int) : Prop := (97 ≤ c ∧ c ≤ 122) ∨ (48 ≤ c ∧ c ≤ 57) ∨ c = 46 ∨ c = 45
/-- a name -/
def GoodN (s : ByteArray) : Prop := (∀ j : Int, 0 ≤ j → j < s.size → okc (bt s j)) ∧ 1 ≤ s.size ∧ s.size ≤ 32

theorem all_step {s : ByteArray} {i : Int} (P : Prop) (h1 : i < s.size) (hc : okc (bt s i)) :
    ((∀ j : Int, i + 1 ≤ j → j < s.size → okc (bt s j)) ∧ P) ↔ ((∀ j : Int, i ≤ j → j < s.size → okc (bt s j)) ∧ P) := by
  constructor
  · rintro ⟨h, p⟩
    refine ⟨fun j hj hl => ?_, p⟩
    by_cases e : j = i
    · rw [e]; exact hc
    · exact h j (by omega) hl
  · rintro ⟨h, p⟩
    exact ⟨fun j hj hl => h j (by omega) hl, p⟩
theorem all_stop {s : ByteArray} {i : Int} (P : Prop) (h1 : i < s.size) (hc : ¬ okc (bt s i)) : (false = true) ↔ ((∀ j : Int, i ≤ j → j < s.size → okc (bt s j)) ∧ P) :=
  ⟨fun h => (by cases h), fun ⟨h, _⟩ => absurd (h i (Int.le_refl _) h1) hc⟩

theorem wrap_next {i : Int} {n : Nat} (h0 : 0 ≤ i) (h : i < n) (hn : n ≤ 9223372036854775807) : wrap64 (i + 1) = i + 1 := by
  unfold wrap64
  omega

theorem good_l0 (s : ByteArray) (hs : s.size ≤ 9223372036854775807) (d : Nat) : ∀ (k : Nat) (i : Int), 0 ≤ i → i ≤ s.size → (s.size : Int) - i = d → d < k →
    ∃ r, disk_good.l0 k s s.size i = some r ∧ (r = true ↔ (∀ j : Int, i ≤ j → j < s.size → okc (bt s j)) ∧ 1 ≤ s.size ∧ s.size ≤ 32) := by
  induction d with
  | zero =>
    intro k i h0 h1 hd hk
    obtain ⟨k, rfl⟩ : ∃ m, k = m + 1 := ⟨k - 1, by omega⟩
    simp only [disk_good.l0]
    rw [if_neg (by omega)]
    split
    · refine ⟨_, rfl, ?_⟩
      rw [decide_eq_true_iff]
      constructor
      · intro h; exact ⟨fun j hj hl => by omega, by omega, by omega⟩
      · intro h; omega
    · refine ⟨_, rfl, ?_⟩
      constructor
      · intro h; cases h
      · intro h; omega
  | succ d ih =>
    intro k i h0 h1 hd hk
    obtain ⟨k, rfl⟩ : ∃ m, k = m + 1 := ⟨k - 1, by omega⟩
    have hlt : i < (s.size : Int) := by omega
    obtain ⟨r, hr, hiff⟩ := ih k (i + 1) (by omega) (by omega) (by omega) (by omega)
    simp only [disk_good.l0]
    rw [if_pos hlt, if_pos h0, wrap_next h0 hlt hs]
    generalize hc : bt s i = c
    by_cases ok : okc c
    · refine ⟨r, ?_, hiff.trans (all_step _ hlt (by rw [hc]; exact ok))⟩
      unfold okc at ok
      repeat' split
      all_goals first | exact hr | (exfalso; omega)
    · refine ⟨false, ?_, all_stop _ hlt (by rw [hc]; exact ok)⟩
      unfold okc at ok
      repeat' split
      all_goals first | rfl | (exfalso; omega)

theorem good_some (s : ByteArray) (hs : s.size ≤ 9223372036854775807) : ∃ r k, disk_good.f k s = some r ∧ (r = true ↔ GoodN s) := by
  obtain ⟨r, hr, h⟩ := good_l0 s hs s.size (s.size + 1) 0 (by omega) (by omega) (by omega) (by omega)
  exact ⟨r, _, hr, h⟩

/-- what 'good' answers -/
theorem good_yes {s : ByteArray} (h : GoodN s) (w : World) : Calls Tryz.prog 122 #[.string s] w fun e w' => e = .returned (.bool true) ∧ ∃ n, w' = w.drewN n := by
  obtain ⟨r, k, hr, hi⟩ := good_some s (by have := h.2.2; omega)
  rw [hi.2 h] at hr
  exact (disk_good.calls k s true w hr).mono fun e w' ⟨he, hw⟩ => ⟨he, hw.out⟩
theorem good_no {s : ByteArray} (hs : s.size ≤ 9223372036854775807) (h : ¬ GoodN s) (w : World) : Calls Tryz.prog 122 #[.string s] w fun e w' => e = .returned (.bool false) ∧ ∃ n, w' = w.drewN n := by
  obtain ⟨r, k, hr, hi⟩ := good_some s hs
  have : r = false := by cases r <;> simp_all
  subst this
  exact (disk_good.calls k s false w hr).mono fun e w' ⟨he, hw⟩ => ⟨he, hw.out⟩
end Go.Proofs.YtpaiadidgokjlaaGreat

/-
  What heavy tells, as a plain law.
-/
import Derived.Test.YtgpniaplpibhfaaRead
import Derived.Test.YtgpniaplpibhfaaPDiskSafex1
namespace Go.Proofs.Ytgpniaplpibhfaa
open Go.RowKit Go.Maps Go.Proofs.YtgpniaplpibhfaaW.PrintWords Go.Proofs.YtgpniaplpibhfaaW.PrintLast Go.Proofs.YtgpniaplpibhfaaW.PrintMore
open Go.Proofs.Ytgpniaplpibhfaa.PDiskSafe
set_option linter.unusedVariables false
set_option linter.unusedSimpArgs false

/-- what is not heavy -/
structure Light (F : List S50) (T : List S39) (S : List S33) : Prop where
  files : F.length ≤ 40
  troubles : T.length ≤ 50
  data : ∀ j, j < F.length → (rd_T50 F (j : Nat)).f1.length ≤ 5000
  acts : ∀ j : Nat, j < S.length → j < 30 → (rd_T33 S j).f4.length ≤ 5000 ∧ (rd_T33 S j).f5.length ≤ 5000

def NB : Nat := 140737488355328
def capH (i : Nat) : Nat := (40 + 2 * i) * NB
def capF (i : Nat) : Nat := i * NB
theorem capH_succ (i : Nat) : capH (i + 1) = capH i + NB + NB := by unfold capH NB; omega
theorem capF_succ (i : Nat) : capF (i + 1) = capF i + NB := by unfold capF NB; omega
theorem capH_le {i : Nat} (h : i ≤ 30) : capH i + NB + NB ≤ 1000000000000000000 := by unfold capH NB; omega
theorem capF_le {i : Nat} (h : i ≤ 40) : capF i + NB ≤ 1000000000000000000 := by unfold capF NB; omega
theorem capF_capH {i : Nat} (h : i ≤ 40) : capF i ≤ capH 0 := by unfold capF capH NB; omega
attribute [irreducible] NB capH capF

theorem wrap_nat (n : Nat) (h : n ≤ 1000000000000000000) : wrap64 (n : Int) = n := by unfold wrap64; omega

theorem wrap_add (a b : Nat) (h : a + b ≤ 1000000000000000000) : wrap64 ((a : Int) + (b : Int)) = ((a + b : Nat) : Int) := by unfold wrap64; omega
theorem wrap_one (a : Nat) (h : a ≤ 1000) : wrap64 ((a : Int) + 1) = ((a + 1 : Nat) : Int) := by unfold wrap64; omega

theorem sum2 (acc p4 p5 c N : Nat) (h1 : acc ≤ c) (h4 : p4 ≤ N) (h5 : p5 ≤ N) (hc : c + N + N ≤ 1000000000000000000) : wrap64 (wrap64 ((acc : Int) + (p4 : Int)) + (p5 : Int)) = ((acc + p4 + p5 : Nat) : Int) := by
  rw [wrap_add acc p4 (by omega), wrap_add (acc + p4) p5 (by omega)]
theorem sum1 (acc p4 c N : Nat) (h1 : acc ≤ c) (h4 : p4 ≤ N) (hc : c + N ≤ 1000000000000000000) : wrap64 ((acc : Int) + (p4 : Int)) = ((acc + p4 : Nat) : Int) := wrap_add acc p4 (by omega)
theorem le2 (acc p4 p5 c c' N : Nat) (h1 : acc ≤ c) (h4 : p4 ≤ N) (h5 : p5 ≤ N) (hc : c' = c + N + N) : acc + p4 + p5 ≤ c' := by omega
theorem le1 (acc p4 c c' N : Nat) (h1 : acc ≤ c) (h4 : p4 ≤ N) (hc : c' = c + N) : acc + p4 ≤ c' := by omega
theorem le_a (a b c n : Nat) (h : a + b + c ≤ n) : a ≤ n ∧ b ≤ n ∧ c ≤ n := by omega
theorem le_b (a b n : Nat) (h : a + b ≤ n) : a ≤ n ∧ b ≤ n := by omega
theorem pick4 {a b c d : Prop} [Decidable a] [Decidable b] [Decidable c] [Decidable d] {X Y : Option Bool} {P : Option Bool → Prop} (hX : P X) (hY : P Y) :
    P (if a then (if b then X else (if c then (if d then X else Y) else Y)) else (if c then (if d then X else Y) else Y)) := by
  by_cases ha : a <;> by_cases hb : b <;> by_cases hc : c <;> by_cases hd : d <;> simp only [ha, hb, hc, hd, if_true, if_false] <;> assumption

set_option maxHeartbeats 1000000 in
theorem heavy_l1 {F : List S50} {T : List S39} {S : List S33} (hS : ∀ j : Nat, j < S.length → (rd_T33 S j).f4.length ≤ NB ∧ (rd_T33 S j).f5.length ≤ NB) (d : Nat) :
    ∀ (k i acc : Nat), 30 - i = d → i ≤ 30 → 2 * d + 2 ≤ k → acc ≤ capH i →
    ∃ r, cadastrelaw9_heavy.l1 k acc i F T S = some r ∧ (r = false → acc ≤ 5000 ∧ F.length ≤ 40 ∧ T.length ≤ 50 ∧ ∀ j : Nat, i ≤ j → j < S.length → j < 30 → (rd_T33 S j).f4.length ≤ 5000 ∧ (rd_T33 S j).f5.length ≤ 5000) := by
  induction d with
  | zero =>
    intro k i acc hd hi hk hacc
    obtain ⟨k, rfl⟩ : ∃ j, k = j + 2 := ⟨k - 2, by omega⟩
    have hi' : i = 30 := by omega
    have e : cadastrelaw9_heavy.l1 (k + 2) acc i F T S = cadastrelaw9_heavy.j3 (k + 1) acc i false F T S := by
      rw [cadastrelaw9_heavy.l1]
      split
      · rw [show decide ((i : Int) < 30) = false from by simp; omega]
      · rfl
    rw [e, cadastrelaw9_heavy.j3]
    simp only [Bool.false_eq_true, if_false]
    split
    · exact ⟨true, rfl, fun h => by cases h⟩
    · split
      · exact ⟨true, rfl, fun h => by cases h⟩
      · exact ⟨_, rfl, fun h => ⟨by omega, by omega, by simp at h; omega, fun j h1 h2 h3 => by omega⟩⟩
  | succ d ih =>
    intro k i acc hd hi hk hacc
    obtain ⟨k, rfl⟩ : ∃ j, k = j + 2 := ⟨k - 2, by omega⟩
    by_cases hlt : i < S.length
    · have e : cadastrelaw9_heavy.l1 (k + 2) acc i F T S = cadastrelaw9_heavy.j3 (k + 1) acc i true F T S := by
        rw [cadastrelaw9_heavy.l1, if_pos (by omega), show decide ((i : Int) < 30) = true from by simp; omega]
      obtain ⟨h4, h5⟩ := hS i hlt
      have hcp := capH_le (show i ≤ 30 by omega)
      have hcs := capH_succ i
      rw [e, cadastrelaw9_heavy.j3]
      simp only [if_true]
      rw [if_pos (by omega), if_pos (by omega)]
      rw [sum2 acc _ _ _ _ hacc h4 h5 hcp, wrap_one i (by omega)]
      obtain ⟨r, hr, hp⟩ := ih k (i + 1) (acc + (rd_T33 S (i : Int)).f4.length + (rd_T33 S (i : Int)).f5.length) (by omega) (by omega) (by omega) (le2 _ _ _ _ _ _ hacc h4 h5 hcs)
      have hgo : ∃ r, cadastrelaw9_heavy.l1 k ((acc + (rd_T33 S (i : Int)).f4.length + (rd_T33 S (i : Int)).f5.length : Nat) : Int) ((i + 1 : Nat) : Int) F T S = some r ∧ (r = false → acc ≤ 5000 ∧ F.length ≤ 40 ∧ T.length ≤ 50 ∧ ∀ j : Nat, i ≤ j → j < S.length → j < 30 → (rd_T33 S j).f4.length ≤ 5000 ∧ (rd_T33 S j).f5.length ≤ 5000) := by
        refine ⟨r, hr, fun h => ?_⟩
        obtain ⟨q1, q2, q3, q4⟩ := hp h
        obtain ⟨q5, q6, q7⟩ := le_a _ _ _ _ q1
        refine ⟨q5, q2, q3, fun j h1 h2 h3 => ?_⟩
        by_cases hj : j = i
        · subst hj; exact ⟨q6, q7⟩
        · exact q4 j (by omega) h2 h3
      have ht : ∃ r, some true = some r ∧ (r = false → acc ≤ 5000 ∧ F.length ≤ 40 ∧ T.length ≤ 50 ∧ ∀ j : Nat, i ≤ j → j < S.length → j < 30 → (rd_T33 S j).f4.length ≤ 5000 ∧ (rd_T33 S j).f5.length ≤ 5000) := ⟨true, rfl, fun h => by cases h⟩
      exact pick4 (P := fun o => ∃ r, o = some r ∧ (r = false → acc ≤ 5000 ∧ F.length ≤ 40 ∧ T.length ≤ 50 ∧ ∀ j : Nat, i ≤ j → j < S.length → j < 30 → (rd_T33 S j).f4.length ≤ 5000 ∧ (rd_T33 S j).f5.length ≤ 5000)) ht hgo
    · have e : cadastrelaw9_heavy.l1 (k + 2) acc i F T S = cadastrelaw9_heavy.j3 (k + 1) acc i false F T S := by
        rw [cadastrelaw9_heavy.l1, if_neg (by omega)]
      rw [e, cadastrelaw9_heavy.j3]
      simp only [Bool.false_eq_true, if_false]
      split
      · exact ⟨true, rfl, fun h => by cases h⟩
      · split
        · exact ⟨true, rfl, fun h => by cases h⟩
        · exact ⟨_, rfl, fun h => ⟨by omega, by omega, by simp at h; omega, fun j h1 h2 h3 => by omega⟩⟩

set_option maxHeartbeats 1000000 in
theorem heavy_l0 {F : List S50} {T : List S39} {S : List S33} (hF : ∀ j : Nat, j < F.length → (rd_T50 F j).f1.length ≤ NB) (hS : ∀ j : Nat, j < S.length → (rd_T33 S j).f4.length ≤ NB ∧ (rd_T33 S j).f5.length ≤ NB) (d : Nat) :
    ∀ (k i acc : Nat), 40 - i = d → i ≤ 40 → d + 100 ≤ k → acc ≤ capF i →
    ∃ r, cadastrelaw9_heavy.l0 k acc i F T S = some r ∧ (r = false → acc ≤ 5000 ∧ F.length ≤ 40 ∧ T.length ≤ 50 ∧ (∀ j : Nat, i ≤ j → j < F.length → (rd_T50 F j).f1.length ≤ 5000) ∧ ∀ j : Nat, j < S.length → j < 30 → (rd_T33 S j).f4.length ≤ 5000 ∧ (rd_T33 S j).f5.length ≤ 5000) := by
  have stop : ∀ (k i acc : Nat), 90 ≤ k → acc ≤ capH 0 → (∀ j : Nat, i ≤ j → j < F.length → F.length ≤ 40 → False) → ∃ r, cadastrelaw9_heavy.j1 k acc F T S = some r ∧ (r = false → acc ≤ 5000 ∧ F.length ≤ 40 ∧ T.length ≤ 50 ∧ (∀ j : Nat, i ≤ j → j < F.length → (rd_T50 F j).f1.length ≤ 5000) ∧ ∀ j : Nat, j < S.length → j < 30 → (rd_T33 S j).f4.length ≤ 5000 ∧ (rd_T33 S j).f5.length ≤ 5000) := by
    intro k i acc hk hacc hno
    obtain ⟨k, rfl⟩ : ∃ j, k = j + 1 := ⟨k - 1, by omega⟩
    obtain ⟨r, hr, hp⟩ := heavy_l1 (F := F) (T := T) hS 30 k 0 acc (by omega) (by omega) (by omega) hacc
    refine ⟨r, by rw [cadastrelaw9_heavy.j1]; exact hr, fun h => ?_⟩
    obtain ⟨q1, q2, q3, q4⟩ := hp h
    exact ⟨q1, q2, q3, fun j h1 h2 => (hno j h1 h2 q2).elim, fun j h1 h2 => q4 j (Nat.zero_le _) h1 h2⟩
  induction d with
  | zero =>
    intro k i acc hd hi hk hacc
    obtain ⟨k, rfl⟩ : ∃ j, k = j + 1 := ⟨k - 1, by omega⟩
    have e : cadastrelaw9_heavy.l0 (k + 1) acc i F T S = cadastrelaw9_heavy.j1 k acc F T S := by
      rw [cadastrelaw9_heavy.l0]
      split
      · rw [if_neg (by omega)]
      · rfl
    rw [e]
    exact stop k i acc (by omega) (Nat.le_trans hacc (capF_capH (by omega))) (fun j h1 h2 h3 => by omega)
  | succ d ih =>
    intro k i acc hd hi hk hacc
    obtain ⟨k, rfl⟩ : ∃ j, k = j + 1 := ⟨k - 1, by omega⟩
    by_cases hlt : i < F.length
    · have h4 := hF i hlt
      have hcp := capF_le (show i ≤ 40 by omega)
      have hcs := capF_succ i
      rw [cadastrelaw9_heavy.l0, if_pos (by omega), if_pos (by omega), if_pos (by omega)]
      rw [sum1 acc _ _ _ hacc h4 hcp, wrap_one i (by omega)]
      obtain ⟨r, hr, hp⟩ := ih k (i + 1) (acc + (rd_T50 F (i : Int)).f1.length) (by omega) (by omega) (by omega) (le1 _ _ _ _ _ hacc h4 hcs)
      refine ⟨r, hr, fun h => ?_⟩
      obtain ⟨q1, q2, q3, q4, q5⟩ := hp h
      obtain ⟨q6, q7⟩ := le_b _ _ _ q1
      refine ⟨q6, q2, q3, fun j h1 h2 => ?_, q5⟩
      by_cases hj : j = i
      · subst hj; exact q7
      · exact q4 j (by omega) h2
    · have e : cadastrelaw9_heavy.l0 (k + 1) acc i F T S = cadastrelaw9_heavy.j1 k acc F T S := by
        rw [cadastrelaw9_heavy.l0, if_neg (by omega)]
      rw [e]
      exact stop k i acc (by omega) (Nat.le_trans hacc (capF_capH (by omega))) (fun j h1 h2 h3 => by omega)

theorem heavy_some {F : List S50} {T : List S39} {S : List S33} (hF : ∀ j : Nat, j < F.length → (rd_T50 F j).f1.length ≤ NB) (hS : ∀ j : Nat, j < S.length → (rd_T33 S j).f4.length ≤ NB ∧ (rd_T33 S j).f5.length ≤ NB) :
    ∃ r, cadastrelaw9_heavy.f 200 F T S = some r ∧ (r = false → Light F T S) := by
  obtain ⟨r, hr, hp⟩ := heavy_l0 (F := F) (T := T) (S := S) hF hS 40 200 0 0 (by omega) (by omega) (by omega) (Nat.zero_le _)
  refine ⟨r, hr, fun h => ?_⟩
  obtain ⟨q1, q2, q3, q4, q5⟩ := hp h
  exact ⟨q2, q3, fun j hj => q4 j (Nat.zero_le _) hj, q5⟩
end Go.Proofs.Ytgpniaplpibhfaa

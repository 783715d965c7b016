/-
  The plain law of LocksAlone: what holds of the levels, whatever is raised and lowered.
-/
import Derived.Test.YtoocokmkghfgmaaWakes
namespace Go.Proofs.Ytoocokmkghfgmaa
open Go.ChangeShapes Go.WideShapes Go.ChangeAt Go.RowKit Go.Deep
set_option linter.unusedVariables false

structure Inv (x : Nat → Int) : Prop where
  bd : ∀ j, j < 4 → 0 ≤ x j ∧ x j ≤ 4
  two : ∀ i j, i < 4 → j < 4 → i ≠ j → 2 ≤ x i → x j < 2
  four : ∀ i j, i < 4 → j < 4 → i ≠ j → x i = 4 → x j = 0

theorem mstep_ge (c k v m : Int) : m ≤ mstep c k v m := by unfold mstep; split <;> (try split) <;> omega
theorem mstep_gev (c k v m : Int) (h : k ≠ c) : v ≤ mstep c k v m := by unfold mstep; rw [if_neg h]; split <;> omega
theorem most_ge (x : Nat → Int) (c j : Nat) (hj : j < 4) (h : j ≠ c) : x j ≤ most4 x c := by
  unfold most4
  have a1 := mstep_ge c 0 (x 0) 0
  have a2 := mstep_ge c 1 (x 1) (mstep c 0 (x 0) 0)
  have a3 := mstep_ge c 2 (x 2) (mstep c 1 (x 1) (mstep c 0 (x 0) 0))
  have a4 := mstep_ge c 3 (x 3) (mstep c 2 (x 2) (mstep c 1 (x 1) (mstep c 0 (x 0) 0)))
  have : j = 0 ∨ j = 1 ∨ j = 2 ∨ j = 3 := by omega
  rcases this with rfl | rfl | rfl | rfl
  · have := mstep_gev c 0 (x 0) 0 (by omega); omega
  · have := mstep_gev c 1 (x 1) (mstep c 0 (x 0) 0) (by omega); omega
  · have := mstep_gev c 2 (x 2) (mstep c 1 (x 1) (mstep c 0 (x 0) 0)) (by omega); omega
  · have := mstep_gev c 3 (x 3) (mstep c 2 (x 2) (mstep c 1 (x 1) (mstep c 0 (x 0) 0))) (by omega); omega

theorem upd_same (x : Nat → Int) (c : Nat) (v : Int) : upd x c v c = v := by unfold upd; rw [if_pos rfl]
theorem upd_other (x : Nat → Int) (c j : Nat) (v : Int) (h : j ≠ c) : upd x c v j = x j := by unfold upd; rw [if_neg h]

/-- one level turned: what is to be shown of the new one alone -/
theorem Inv.upd_ {x : Nat → Int} (h : Inv x) {c : Nat} (hc : c < 4) {v : Int} (hv : 0 ≤ v ∧ v ≤ 4) (h2 : 2 ≤ v → ∀ j, j < 4 → j ≠ c → x j < 2)
    (h4 : v = 4 → ∀ j, j < 4 → j ≠ c → x j = 0) (hz : v ≠ 0 → ∀ j, j < 4 → j ≠ c → x j ≠ 4) : Inv (upd x c v) := by
  constructor
  · intro j hj
    by_cases e : j = c
    · rw [e, upd_same]; exact hv
    · rw [upd_other _ _ _ _ e]; exact h.bd j hj
  · intro i j hi hj hij h2i
    by_cases e : i = c
    · subst e; rw [upd_same] at h2i; rw [upd_other _ _ _ _ (Ne.symm hij)]; exact h2 h2i j hj (Ne.symm hij)
    · rw [upd_other _ _ _ _ e] at h2i
      by_cases e' : j = c
      · subst e'; rw [upd_same]
        rcases Int.lt_or_le v 2 with h' | h'
        · exact h'
        · have := h2 h' i hi hij; omega
      · rw [upd_other _ _ _ _ e']; exact h.two i j hi hj hij h2i
  · intro i j hi hj hij h4i
    by_cases e : i = c
    · subst e; rw [upd_same] at h4i; rw [upd_other _ _ _ _ (Ne.symm hij)]; exact h4 h4i j hj (Ne.symm hij)
    · rw [upd_other _ _ _ _ e] at h4i
      by_cases e' : j = c
      · subst e'; rw [upd_same]
        by_cases h0 : v = 0
        · exact h0
        · exact absurd h4i (hz h0 i hi hij)
      · rw [upd_other _ _ _ _ e']; exact h.four i j hi hj hij h4i

theorem Inv.raise {x : Nat → Int} (h : Inv x) (c level : Int) : Inv (rX x c level) := by
  unfold rX
  split
  · next hc =>
    obtain ⟨⟨h0, h1⟩, hl⟩ := hc
    obtain ⟨k, rfl⟩ := Int.eq_ofNat_of_zero_le h0
    have hk : k < 4 := by omega
    rw [Int.toNat_natCast]
    have hm := most_ge x k
    have hs : Inv (upd x k (x k)) := by rw [upd_self]; exact h
    have ho := h.bd k hk
    generalize most4 x k = mo at *
    unfold raiseL
    split
    · exact hs
    · rcases hl with rfl | rfl | rfl
      · simp only [if_true]
        split
        · exact hs
        · exact h.upd_ hk (by omega) (by omega) (by omega) (fun _ j hj hjk => by have := hm j hj hjk; omega)
      · rw [if_neg (by decide), if_pos rfl]
        split
        · exact hs
        · split
          · exact hs
          · exact h.upd_ hk (by omega) (fun _ j hj hjk => by have := hm j hj hjk; omega) (by omega) (fun _ j hj hjk => by have := hm j hj hjk; omega)
      · rw [if_neg (by decide), if_neg (by decide)]
        split
        · exact hs
        · split
          · exact h.upd_ hk (by omega) (fun _ j hj hjk => h.two k j hk hj (Ne.symm hjk) (by omega)) (by omega) (fun _ j hj hjk e => by have := h.two k j hk hj (Ne.symm hjk) (by omega); omega)
          · exact h.upd_ hk (by omega) (fun _ j hj hjk => by have := hm j hj hjk; omega) (fun _ j hj hjk => by have := hm j hj hjk; have := h.bd j hj; omega) (fun _ j hj hjk => by have := hm j hj hjk; omega)
  · exact h

theorem Inv.lower {x : Nat → Int} (h : Inv x) (c level : Int) : Inv (lX x c level) := by
  unfold lX
  split
  · next hc =>
    obtain ⟨⟨h0, h1⟩, hl⟩ := hc
    obtain ⟨k, rfl⟩ := Int.eq_ofNat_of_zero_le h0
    have hk : k < 4 := by omega
    rw [Int.toNat_natCast]
    have hs : Inv (upd x k (x k)) := by rw [upd_self]; exact h
    have ho := h.bd k hk
    split
    · exact h.upd_ hk (by omega) (by omega) (by omega) (fun hn j hj hjk e => by have := h.four j k hj hk hjk e; omega)
    · exact hs
  · exact h

theorem Inv.zero : Inv s0 := ⟨fun _ _ => by unfold s0; omega, fun _ _ _ _ _ h => by unfold s0 at h; omega, fun _ _ _ _ _ h => by unfold s0 at h; omega⟩

/-- how many of the first j levels are p; whether one of them is the exclusive one -/
def cnt (a : Int) (y : Nat → Int) : Nat → Int
  | 0 => 0
  | j + 1 => if a ≤ y j then cnt a y j + 1 else cnt a y j
def anyB (y : Nat → Int) : Nat → Bool
  | 0 => false
  | j + 1 => anyB y j || y j == 4
theorem cnt_bd (a : Int) (y : Nat → Int) (j : Nat) : 0 ≤ cnt a y j ∧ cnt a y j ≤ j := by
  induction j with
  | zero => simp [cnt]
  | succ j ih => unfold cnt; split <;> omega
theorem Inv.high {y : Nat → Int} (h : Inv y) : cnt 2 y 4 ≤ 1 := by
  have a := h.two 0 1 (by omega) (by omega) (by omega)
  have b := h.two 0 2 (by omega) (by omega) (by omega)
  have c := h.two 0 3 (by omega) (by omega) (by omega)
  have d := h.two 1 2 (by omega) (by omega) (by omega)
  have e := h.two 1 3 (by omega) (by omega) (by omega)
  have f := h.two 2 3 (by omega) (by omega) (by omega)
  simp only [cnt]
  repeat' split
  all_goals omega
theorem Inv.lone {y : Nat → Int} (h : Inv y) (ha : anyB y 4 = true) : cnt 1 y 4 = 1 := by
  have key : ∀ i, i < 4 → y i = 4 → cnt 1 y 4 = 1 := by
    intro i hi e
    have h0 := fun hne => h.four i 0 hi (by omega) hne e
    have h1 := fun hne => h.four i 1 hi (by omega) hne e
    have h2 := fun hne => h.four i 2 hi (by omega) hne e
    have h3 := fun hne => h.four i 3 hi (by omega) hne e
    have : i = 0 ∨ i = 1 ∨ i = 2 ∨ i = 3 := by omega
    rcases this with rfl | rfl | rfl | rfl
    · have b1 := h1 (by omega); have b2 := h2 (by omega); have b3 := h3 (by omega)
      simp [cnt, e, b1, b2, b3]
    · have b1 := h0 (by omega); have b2 := h2 (by omega); have b3 := h3 (by omega)
      simp [cnt, e, b1, b2, b3]
    · have b1 := h0 (by omega); have b2 := h1 (by omega); have b3 := h3 (by omega)
      simp [cnt, e, b1, b2, b3]
    · have b1 := h0 (by omega); have b2 := h1 (by omega); have b3 := h2 (by omega)
      simp [cnt, e, b1, b2, b3]
  simp only [anyB, Bool.false_or, Bool.or_eq_true, beq_iff_eq] at ha
  rcases ha with ((ha | ha) | ha) | ha
  · exact key 0 (by omega) ha
  · exact key 1 (by omega) ha
  · exact key 2 (by omega) ha
  · exact key 3 (by omega) ha
end Go.Proofs.Ytoocokmkghfgmaa

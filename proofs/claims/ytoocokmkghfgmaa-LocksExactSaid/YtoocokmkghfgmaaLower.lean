/-
  The contracts of Lower of both tables, and each method's one contract for whatever arguments.
-/
import Derived.Test.YtoocokmkghfgmaaRaise
namespace Go.Proofs.Ytoocokmkghfgmaa
open Go.ChangeShapes Go.WideShapes Go.ChangeAt Go.RowKit Go.Deep
set_option linter.unusedVariables false

theorem rraise_bad (b : Nat) (c level : Int) (w : World) (h : bad c level) :
    Calls Try.prog 10 #[.pointer (some ⟨b, 0, none⟩), .int .i64 c, .int .i64 level] w fun e w' => e = .returned (.int .i64 1) ∧ w = w' := by
  by_cases hc : 0 ≤ c ∧ c < 4
  · obtain ⟨h0, h1⟩ := hc
    rcases h with h | ⟨h2, h3, h4⟩
    · omega
    have e1 : (level != 1) = true := by simpa using h2
    have e2 : (level != 2) = true := by simpa using h3
    have e4 : (level != 4) = true := by simpa using h4
    clear h2 h3 h4
    go_enter Try.func10, Try.ntmps10
    go_wp2_with (go_at_call 14; refine (conn2_yes _ _ h0 h1).mono ?_; rintro e w' ⟨rfl, rfl⟩)
    go_ret
    exact ⟨rfl, rfl⟩
  · clear h
    go_enter Try.func10, Try.ntmps10
    go_wp2_with (go_at_call 14; refine (conn2_no _ _ hc).mono ?_; rintro e w' ⟨rfl, rfl⟩)
    go_ret
    exact ⟨rfl, rfl⟩

def badL (c level : Int) : Prop := ¬ (0 ≤ c ∧ c < 4) ∨ (level ≠ 0 ∧ level ≠ 1)

theorem lower_bad (b : Nat) (c level : Int) (w : World) (h : badL c level) :
    Calls Try.prog 11 #[.pointer (some ⟨b, 0, none⟩), .int .i64 c, .int .i64 level] w fun e w' => e = .returned (.int .i64 1) ∧ w = w' := by
  by_cases hc : 0 ≤ c ∧ c < 4
  · obtain ⟨h0, h1⟩ := hc
    rcases h with h | ⟨h2, h3⟩
    · omega
    have e1 : (level != 0) = true := by simpa using h2
    have e2 : (level != 1) = true := by simpa using h3
    clear h2 h3
    go_enter Try.func11, Try.ntmps11
    go_wp2_with (go_at_call 16; refine (conn_yes _ _ h0 h1).mono ?_; rintro e w' ⟨rfl, rfl⟩)
    go_ret
    exact ⟨rfl, rfl⟩
  · clear h
    go_enter Try.func11, Try.ntmps11
    go_wp2_with (go_at_call 16; refine (conn_no _ _ hc).mono ?_; rintro e w' ⟨rfl, rfl⟩)
    go_ret
    exact ⟨rfl, rfl⟩

theorem lower_ok (b c : Nat) (own level : Int) (w : World) (hc : c < 4) (hcell : w.cell? ⟨b, c, none⟩ = some (.int .i64 own)) (hfree : w.frozen? ⟨b, c, none⟩ = false) (hl : level = 0 ∨ level = 1) :
    Calls Try.prog 11 #[.pointer (some ⟨b, 0, none⟩), .int .i64 c, .int .i64 level] w fun e w' => e = .returned (.int .i64 0) ∧ w' = (w.setCell ⟨b, c, none⟩ (.int .i64 (if level < own then level else own))).drew := by
  have h0 : (0 : Int) ≤ (c : Int) := by omega
  have h1 : (c : Int) < 4 := by omega
  rcases hl with rfl | rfl
  all_goals
    go_enter Try.func11, Try.ntmps11
    go_wp2_with (go_at_call 16; refine (conn_yes _ _ h0 h1).mono ?_; rintro e w' ⟨rfl, rfl⟩)
    go_region
    go_wp2
    all_goals (go_ret; exact ⟨rfl, rfl⟩)

theorem rlower_bad (b : Nat) (c level : Int) (w : World) (h : badL c level) :
    Calls Try.prog 12 #[.pointer (some ⟨b, 0, none⟩), .int .i64 c, .int .i64 level] w fun e w' => e = .returned (.int .i64 1) ∧ w = w' := by
  by_cases hc : 0 ≤ c ∧ c < 4
  · obtain ⟨h0, h1⟩ := hc
    rcases h with h | ⟨h2, h3⟩
    · omega
    have e1 : (level != 0) = true := by simpa using h2
    have e2 : (level != 1) = true := by simpa using h3
    clear h2 h3
    go_enter Try.func12, Try.ntmps12
    go_wp2_with (go_at_call 14; refine (conn2_yes _ _ h0 h1).mono ?_; rintro e w' ⟨rfl, rfl⟩)
    go_ret
    exact ⟨rfl, rfl⟩
  · clear h
    go_enter Try.func12, Try.ntmps12
    go_wp2_with (go_at_call 14; refine (conn2_no _ _ hc).mono ?_; rintro e w' ⟨rfl, rfl⟩)
    go_ret
    exact ⟨rfl, rfl⟩

theorem rlower_ok (b c : Nat) (own level : Int) (w : World) (hc : c < 4) (hcell : w.cell? ⟨b, c, none⟩ = some (.int .i64 own)) (hfree : w.frozen? ⟨b, c, none⟩ = false) (hl : level = 0 ∨ level = 1) :
    Calls Try.prog 12 #[.pointer (some ⟨b, 0, none⟩), .int .i64 c, .int .i64 level] w fun e w' => e = .returned (.int .i64 0) ∧ w' = (w.setCell ⟨b, c, none⟩ (.int .i64 (if level < own then level else own))).drew := by
  have h0 : (0 : Int) ≤ (c : Int) := by omega
  have h1 : (c : Int) < 4 := by omega
  rcases hl with rfl | rfl
  all_goals
    go_enter Try.func12, Try.ntmps12
    go_wp2_with (go_at_call 14; refine (conn2_yes _ _ h0 h1).mono ?_; rintro e w' ⟨rfl, rfl⟩)
    go_region
    go_wp2
    all_goals (go_ret; exact ⟨rfl, rfl⟩)


/-! ### one contract a method -/
/-- a call of Raise: the number told, and the levels behind it -/
def rE (x : Nat → Int) (c level : Int) : Int := if (0 ≤ c ∧ c < 4) ∧ (level = 1 ∨ level = 2 ∨ level = 4) then raiseE (x c.toNat) (most4 x c) level else 1
def rX (x : Nat → Int) (c level : Int) : Nat → Int := if (0 ≤ c ∧ c < 4) ∧ (level = 1 ∨ level = 2 ∨ level = 4) then upd x c.toNat (raiseL (x c.toNat) (most4 x c) level) else x
def lE (c level : Int) : Int := if (0 ≤ c ∧ c < 4) ∧ (level = 0 ∨ level = 1) then 0 else 1
def lX (x : Nat → Int) (c level : Int) : Nat → Int := if (0 ≤ c ∧ c < 4) ∧ (level = 0 ∨ level = 1) then upd x c.toNat (if level < x c.toNat then level else x c.toNat) else x

/-- what a call leaves -/
def Did (T : TypeId) (b : Nat) (n : Int) (y : Nat → Int) (w : World) (e : Ending) (w' : World) : Prop :=
  e = .returned (.int .i64 n) ∧ Tab T w' b y ∧ Only b w w'

theorem did_same {T : TypeId} {b : Nat} {n m : Int} {x y : Nat → Int} {w : World} {e : Ending} {w' : World} (ht : Tab T w b x) (hn : n = m) (hx : x = y)
    (h : e = .returned (.int .i64 n) ∧ w = w') : Did T b m y w e w' := by
  obtain ⟨rfl, rfl⟩ := h; subst hn; subst hx; exact ⟨rfl, ht, Only.refl _ _⟩
theorem did_set {T : TypeId} {b c : Nat} {n m v : Int} {x y : Nat → Int} {w : World} {e : Ending} {w' : World} (ht : Tab T w b x) (hc : c < 4) (hn : n = m) (hx : upd x c v = y)
    (h : e = .returned (.int .i64 n) ∧ w' = w.setCell ⟨b, c, none⟩ (.int .i64 v)) : Did T b m y w e w' := by
  obtain ⟨rfl, rfl⟩ := h; subst hn; subst hx; exact ⟨rfl, ht.set_ c hc v, (Only.refl _ _).set_ _ _⟩
theorem did_setd {T : TypeId} {b c : Nat} {n m v : Int} {x y : Nat → Int} {w : World} {e : Ending} {w' : World} (ht : Tab T w b x) (hc : c < 4) (hn : n = m) (hx : upd x c v = y)
    (h : e = .returned (.int .i64 n) ∧ w' = (w.setCell ⟨b, c, none⟩ (.int .i64 v)).drew) : Did T b m y w e w' := by
  obtain ⟨rfl, rfl⟩ := h; subst hn; subst hx; exact ⟨rfl, (ht.set_ c hc v).drew, ((Only.refl _ _).set_ _ _).drew⟩

theorem raise_all (b : Nat) (x : Nat → Int) (c level : Int) (w : World) (ht : Tab 42 w b x) :
    Calls Try.prog 9 #[.pointer (some ⟨b, 0, none⟩), .int .i64 c, .int .i64 level] w (Did 42 b (rE x c level) (rX x c level) w) := by
  by_cases h : (0 ≤ c ∧ c < 4) ∧ (level = 1 ∨ level = 2 ∨ level = 4)
  · obtain ⟨⟨h0, h1⟩, hl⟩ := h
    obtain ⟨k, rfl⟩ := Int.eq_ofNat_of_zero_le h0
    have hk : k < 4 := by omega
    have eE : rE x k level = raiseE (x k) (most4 x k) level := by unfold rE; rw [if_pos ⟨⟨h0, h1⟩, hl⟩, Int.toNat_natCast]
    have eX : rX x k level = upd x k (raiseL (x k) (most4 x k) level) := by unfold rX; rw [if_pos ⟨⟨h0, h1⟩, hl⟩, Int.toNat_natCast]
    rw [eE, eX]
    have hself := upd_self x k
    generalize ho : x k = own at hself ⊢
    generalize hm : most4 x k = mo
    clear eE eX h0 h1
    rcases hl with rfl | rfl | rfl
    · by_cases h1 : 1 ≤ own
      · exact (raise_1a b k x own mo w ht hk ho hm h1).mono fun e w' h => did_same ht (by unfold raiseE; simp <;> omega) (by have e : raiseL own mo 1 = own := (by unfold raiseL; simp <;> omega); rw [e, hself]) h
      · by_cases h2 : 3 ≤ mo
        · exact (raise_1b b k x own mo w ht hk ho hm (by omega) h2).mono fun e w' h => did_same ht (by unfold raiseE; simp <;> omega) (by have e : raiseL own mo 1 = own := (by unfold raiseL; simp <;> omega); rw [e, hself]) h
        · exact (raise_1c b k x own mo w ht hk ho hm (by omega) (by omega)).mono fun e w' h => did_set ht hk (by unfold raiseE; simp <;> omega) (by have e : raiseL own mo 1 = 1 := (by unfold raiseL; simp <;> omega); rw [e]) h
    · by_cases h1 : 2 ≤ own
      · exact (raise_2a b k x own mo w ht hk ho hm h1).mono fun e w' h => did_same ht (by unfold raiseE; simp <;> omega) (by have e : raiseL own mo 2 = own := (by unfold raiseL; simp <;> omega); rw [e, hself]) h
      · by_cases hz : own = 0
        · exact (raise_2b b k x own mo w ht hk ho hm (by omega) hz).mono fun e w' h => did_same ht (by unfold raiseE; simp <;> omega) (by have e : raiseL own mo 2 = own := (by unfold raiseL; simp <;> omega); rw [e, hself]) h
        · by_cases h2 : 2 ≤ mo
          · exact (raise_2c b k x own mo w ht hk ho hm (by omega) hz h2).mono fun e w' h => did_same ht (by unfold raiseE; simp <;> omega) (by have e : raiseL own mo 2 = own := (by unfold raiseL; simp <;> omega); rw [e, hself]) h
          · exact (raise_2d b k x own mo w ht hk ho hm (by omega) hz (by omega)).mono fun e w' h => did_set ht hk (by unfold raiseE; simp <;> omega) (by have e : raiseL own mo 2 = 2 := (by unfold raiseL; simp <;> omega); rw [e]) h
    · by_cases h1 : 4 ≤ own
      · exact (raise_4a b k x own mo w ht hk ho hm h1).mono fun e w' h => did_same ht (by unfold raiseE; simp <;> omega) (by have e : raiseL own mo 4 = own := (by unfold raiseL; simp <;> omega); rw [e, hself]) h
      · by_cases h3 : own < 2
        · exact (raise_4b b k x own mo w ht hk ho hm (by omega) h3).mono fun e w' h => did_same ht (by unfold raiseE; simp <;> omega) (by have e : raiseL own mo 4 = own := (by unfold raiseL; simp <;> omega); rw [e, hself]) h
        · by_cases h2 : 1 ≤ mo
          · exact (raise_4c b k x own mo w ht hk ho hm (by omega) (by omega) h2).mono fun e w' h => did_set ht hk (by unfold raiseE; simp <;> omega) (by have e : raiseL own mo 4 = 3 := (by unfold raiseL; simp <;> omega); rw [e]) h
          · exact (raise_4d b k x own mo w ht hk ho hm (by omega) (by omega) (by omega)).mono fun e w' h => did_set ht hk (by unfold raiseE; simp <;> omega) (by have e : raiseL own mo 4 = 4 := (by unfold raiseL; simp <;> omega); rw [e]) h
  · have eE : rE x c level = 1 := by unfold rE; rw [if_neg h]
    have eX : rX x c level = x := by unfold rX; rw [if_neg h]
    exact (raise_bad b c level w (by unfold bad; omega)).mono fun e w' h => did_same ht eE.symm eX.symm h

theorem rraise_all (b : Nat) (x : Nat → Int) (c level : Int) (w : World) (ht : Tab 28 w b x) :
    Calls Try.prog 10 #[.pointer (some ⟨b, 0, none⟩), .int .i64 c, .int .i64 level] w (Did 28 b (rE x c level) (rX x c level) w) := by
  by_cases h : (0 ≤ c ∧ c < 4) ∧ (level = 1 ∨ level = 2 ∨ level = 4)
  · obtain ⟨⟨h0, h1⟩, hl⟩ := h
    obtain ⟨k, rfl⟩ := Int.eq_ofNat_of_zero_le h0
    have hk : k < 4 := by omega
    have eE : rE x k level = raiseE (x k) (most4 x k) level := by unfold rE; rw [if_pos ⟨⟨h0, h1⟩, hl⟩, Int.toNat_natCast]
    have eX : rX x k level = upd x k (raiseL (x k) (most4 x k) level) := by unfold rX; rw [if_pos ⟨⟨h0, h1⟩, hl⟩, Int.toNat_natCast]
    rw [eE, eX]
    have hself := upd_self x k
    generalize ho : x k = own at hself ⊢
    generalize hm : most4 x k = mo
    clear eE eX h0 h1
    rcases hl with rfl | rfl | rfl
    · by_cases h1 : 1 ≤ own
      · exact (rraise_1a b k x own mo w ht hk ho hm h1).mono fun e w' h => did_same ht (by unfold raiseE; simp <;> omega) (by have e : raiseL own mo 1 = own := (by unfold raiseL; simp <;> omega); rw [e, hself]) h
      · by_cases h2 : 3 ≤ mo
        · exact (rraise_1b b k x own mo w ht hk ho hm (by omega) h2).mono fun e w' h => did_same ht (by unfold raiseE; simp <;> omega) (by have e : raiseL own mo 1 = own := (by unfold raiseL; simp <;> omega); rw [e, hself]) h
        · exact (rraise_1c b k x own mo w ht hk ho hm (by omega) (by omega)).mono fun e w' h => did_set ht hk (by unfold raiseE; simp <;> omega) (by have e : raiseL own mo 1 = 1 := (by unfold raiseL; simp <;> omega); rw [e]) h
    · by_cases h1 : 2 ≤ own
      · exact (rraise_2a b k x own mo w ht hk ho hm h1).mono fun e w' h => did_same ht (by unfold raiseE; simp <;> omega) (by have e : raiseL own mo 2 = own := (by unfold raiseL; simp <;> omega); rw [e, hself]) h
      · by_cases hz : own = 0
        · exact (rraise_2b b k x own mo w ht hk ho hm (by omega) hz).mono fun e w' h => did_same ht (by unfold raiseE; simp <;> omega) (by have e : raiseL own mo 2 = own := (by unfold raiseL; simp <;> omega); rw [e, hself]) h
        · by_cases h2 : 2 ≤ mo
          · exact (rraise_2c b k x own mo w ht hk ho hm (by omega) hz h2).mono fun e w' h => did_same ht (by unfold raiseE; simp <;> omega) (by have e : raiseL own mo 2 = own := (by unfold raiseL; simp <;> omega); rw [e, hself]) h
          · exact (rraise_2d b k x own mo w ht hk ho hm (by omega) hz (by omega)).mono fun e w' h => did_set ht hk (by unfold raiseE; simp <;> omega) (by have e : raiseL own mo 2 = 2 := (by unfold raiseL; simp <;> omega); rw [e]) h
    · by_cases h1 : 4 ≤ own
      · exact (rraise_4a b k x own mo w ht hk ho hm h1).mono fun e w' h => did_same ht (by unfold raiseE; simp <;> omega) (by have e : raiseL own mo 4 = own := (by unfold raiseL; simp <;> omega); rw [e, hself]) h
      · by_cases h3 : own < 2
        · exact (rraise_4b b k x own mo w ht hk ho hm (by omega) h3).mono fun e w' h => did_same ht (by unfold raiseE; simp <;> omega) (by have e : raiseL own mo 4 = own := (by unfold raiseL; simp <;> omega); rw [e, hself]) h
        · by_cases h2 : 1 ≤ mo
          · exact (rraise_4c b k x own mo w ht hk ho hm (by omega) (by omega) h2).mono fun e w' h => did_set ht hk (by unfold raiseE; simp <;> omega) (by have e : raiseL own mo 4 = 3 := (by unfold raiseL; simp <;> omega); rw [e]) h
          · exact (rraise_4d b k x own mo w ht hk ho hm (by omega) (by omega) (by omega)).mono fun e w' h => did_set ht hk (by unfold raiseE; simp <;> omega) (by have e : raiseL own mo 4 = 4 := (by unfold raiseL; simp <;> omega); rw [e]) h
  · have eE : rE x c level = 1 := by unfold rE; rw [if_neg h]
    have eX : rX x c level = x := by unfold rX; rw [if_neg h]
    exact (rraise_bad b c level w (by unfold bad; omega)).mono fun e w' h => did_same ht eE.symm eX.symm h

theorem lower_all (b : Nat) (x : Nat → Int) (c level : Int) (w : World) (ht : Tab 42 w b x) :
    Calls Try.prog 11 #[.pointer (some ⟨b, 0, none⟩), .int .i64 c, .int .i64 level] w (Did 42 b (lE c level) (lX x c level) w) := by
  by_cases h : (0 ≤ c ∧ c < 4) ∧ (level = 0 ∨ level = 1)
  · obtain ⟨⟨h0, h1⟩, hl⟩ := h
    obtain ⟨k, rfl⟩ := Int.eq_ofNat_of_zero_le h0
    have hk : k < 4 := by omega
    have eE : lE k level = 0 := by unfold lE; rw [if_pos ⟨⟨h0, h1⟩, hl⟩]
    have eX : lX x k level = upd x k (if level < x k then level else x k) := by unfold lX; rw [if_pos ⟨⟨h0, h1⟩, hl⟩, Int.toNat_natCast]
    exact (lower_ok b k (x k) level w hk (ht.cell k hk) (ht.frozen k) hl).mono fun e w' h => did_setd ht hk eE.symm eX.symm h
  · have eE : lE c level = 1 := by unfold lE; rw [if_neg h]
    have eX : lX x c level = x := by unfold lX; rw [if_neg h]
    exact (lower_bad b c level w (by unfold badL; omega)).mono fun e w' h => did_same ht eE.symm eX.symm h

theorem rlower_all (b : Nat) (x : Nat → Int) (c level : Int) (w : World) (ht : Tab 28 w b x) :
    Calls Try.prog 12 #[.pointer (some ⟨b, 0, none⟩), .int .i64 c, .int .i64 level] w (Did 28 b (lE c level) (lX x c level) w) := by
  by_cases h : (0 ≤ c ∧ c < 4) ∧ (level = 0 ∨ level = 1)
  · obtain ⟨⟨h0, h1⟩, hl⟩ := h
    obtain ⟨k, rfl⟩ := Int.eq_ofNat_of_zero_le h0
    have hk : k < 4 := by omega
    have eE : lE k level = 0 := by unfold lE; rw [if_pos ⟨⟨h0, h1⟩, hl⟩]
    have eX : lX x k level = upd x k (if level < x k then level else x k) := by unfold lX; rw [if_pos ⟨⟨h0, h1⟩, hl⟩, Int.toNat_natCast]
    exact (rlower_ok b k (x k) level w hk (ht.cell k hk) (ht.frozen k) hl).mono fun e w' h => did_setd ht hk eE.symm eX.symm h
  · have eE : lE c level = 1 := by unfold lE; rw [if_neg h]
    have eX : lX x c level = x := by unfold lX; rw [if_neg h]
    exact (rlower_bad b c level w (by unfold badL; omega)).mono fun e w' h => did_same ht eE.symm eX.symm h

end Go.Proofs.Ytoocokmkghfgmaa

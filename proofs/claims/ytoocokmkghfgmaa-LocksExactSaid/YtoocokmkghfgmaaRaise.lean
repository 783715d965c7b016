/-
  The contracts of 'top', Level, Raise and Lower of both tables.
-/
import Derived.Test.YtoocokmkghfgmaaMost
namespace Go.Proofs.Ytoocokmkghfgmaa
open Go.ChangeShapes Go.WideShapes Go.ChangeAt Go.RowKit Go.Deep
set_option linter.unusedVariables false

set_option maxRecDepth 100000 in
theorem top_any (b : Nat) (x : Nat → Int) (c : Int) (w : World) (h : Tab 28 w b x) :
    Calls Try.prog 18 #[.pointer (some ⟨b, 0, none⟩), .int .i64 c] w fun e w' => e = .returned (.int .i64 (most4 x c)) ∧ w = w' := by
  have c0 := h.cell 0 (by omega)
  have c1 := h.cell 1 (by omega)
  have c2 := h.cell 2 (by omega)
  have c3 := h.cell 3 (by omega)
  clear h
  go_enter Try.func18, Try.ntmps18
  go_wp2
  go_loop [5, 6] (fun m i => (i = .int .i64 0 ∧ m = .int .i64 0) ∨ (i = .int .i64 1 ∧ m = .int .i64 (mstep c 0 (x 0) 0)) ∨ (i = .int .i64 2 ∧ m = .int .i64 (mstep c 1 (x 1) (mstep c 0 (x 0) 0))) ∨ (i = .int .i64 3 ∧ m = .int .i64 (mstep c 2 (x 2) (mstep c 1 (x 1) (mstep c 0 (x 0) 0)))) ∨ (i = .int .i64 4 ∧ m = .int .i64 (most4 x c))) (fun _ i => 4 - (intOf i).toNat)
  case atStart => exact .inl ⟨rfl, rfl⟩
  case round =>
    rcases hrel with ⟨rfl, rfl⟩ | ⟨rfl, rfl⟩ | ⟨rfl, rfl⟩ | ⟨rfl, rfl⟩ | ⟨rfl, rfl⟩
    · by_cases hc : (0 != c) = true
      · go_wp2
        go_round
        case rel => exact .inr (.inl ⟨rfl, (val_int (mstep_ne _ _ _ _ hc))⟩)
        case measure => simp [intOf]
      · have hc' : (0 != c) = false := by simpa using hc
        clear hc
        go_wp2
        go_round
        case rel => exact .inr (.inl ⟨rfl, (val_int (mstep_eq _ _ _ _ hc'))⟩)
        case measure => simp [intOf]
    · by_cases hc : (1 != c) = true
      · go_wp2
        go_round
        case rel => exact .inr (.inr (.inl ⟨rfl, (val_int (mstep_ne _ _ _ _ hc))⟩))
        case measure => simp [intOf]
      · have hc' : (1 != c) = false := by simpa using hc
        clear hc
        go_wp2
        go_round
        case rel => exact .inr (.inr (.inl ⟨rfl, (val_int (mstep_eq _ _ _ _ hc'))⟩))
        case measure => simp [intOf]
    · by_cases hc : (2 != c) = true
      · go_wp2
        go_round
        case rel => exact .inr (.inr (.inr (.inl ⟨rfl, (val_int (mstep_ne _ _ _ _ hc))⟩)))
        case measure => simp [intOf]
      · have hc' : (2 != c) = false := by simpa using hc
        clear hc
        go_wp2
        go_round
        case rel => exact .inr (.inr (.inr (.inl ⟨rfl, (val_int (mstep_eq _ _ _ _ hc'))⟩)))
        case measure => simp [intOf]
    · by_cases hc : (3 != c) = true
      · go_wp2
        go_round
        case rel => exact .inr (.inr (.inr (.inr ⟨rfl, (val_int (mstep_ne _ _ _ _ hc))⟩)))
        case measure => simp [intOf]
      · have hc' : (3 != c) = false := by simpa using hc
        clear hc
        go_wp2
        go_round
        case rel => exact .inr (.inr (.inr (.inr ⟨rfl, (val_int (mstep_eq _ _ _ _ hc'))⟩)))
        case measure => simp [intOf]
    · go_wp2
      go_ret
      exact ⟨rfl, rfl⟩

/-- what Level tells -/
theorem level_no (b : Nat) (c : Int) (w : World) (hc : ¬ (0 ≤ c ∧ c < 4)) :
    Calls Try.prog 13 #[.pointer (some ⟨b, 0, none⟩), .int .i64 c] w fun e w' => e = .returned (.tuple #[.int .i64 0, .int .i64 1]) ∧ w = w' := by
  go_enter Try.func13, Try.ntmps13
  go_wp2_with (go_at_call 16; refine (conn_no _ _ hc).mono ?_; rintro e w' ⟨rfl, rfl⟩)
  all_goals (go_ret2; exact ⟨rfl, rfl⟩)

theorem level_yes (b : Nat) (x : Nat → Int) (c : Nat) (w : World) (hc : c < 4) (h : Tab 42 w b x) :
    Calls Try.prog 13 #[.pointer (some ⟨b, 0, none⟩), .int .i64 c] w fun e w' => e = .returned (.tuple #[.int .i64 (x c), .int .i64 0]) ∧ w = w' := by
  have hcell := h.cell c hc
  clear h
  go_enter Try.func13, Try.ntmps13
  go_wp2_with (go_at_call 16; refine (conn_yes _ _ (by omega) (by omega)).mono ?_; rintro e w' ⟨rfl, rfl⟩)
  all_goals (go_ret2; exact ⟨rfl, rfl⟩)

/-- what Raise comes to: the error's number, the new level of c (if it is turned) -/
def raiseE (own mo level : Int) : Int :=
  if level ≤ own then 0
  else if level = 1 then (if 3 ≤ mo then 8 else 0)
  else if level = 2 then (if own = 0 then 11 else if 2 ≤ mo then 8 else 0)
  else (if own < 2 then 11 else if 1 ≤ mo then 8 else 0)
def raiseL (own mo level : Int) : Int :=
  if level ≤ own then own
  else if level = 1 then (if 3 ≤ mo then own else level)
  else if level = 2 then (if own = 0 then own else if 2 ≤ mo then own else level)
  else (if own < 2 then own else if 1 ≤ mo then 3 else level)
def bad (c level : Int) : Prop := ¬ (0 ≤ c ∧ c < 4) ∨ (level ≠ 1 ∧ level ≠ 2 ∧ level ≠ 4)

theorem raise_bad (b : Nat) (c level : Int) (w : World) (h : bad c level) :
    Calls Try.prog 9 #[.pointer (some ⟨b, 0, none⟩), .int .i64 c, .int .i64 level] w fun e w' => e = .returned (.int .i64 1) ∧ w = w' := by
  by_cases hc : 0 ≤ c ∧ c < 4
  · obtain ⟨h0, h1⟩ := hc
    rcases h with h | ⟨h2, h3, h4⟩
    · omega
    have e1 : (level != 1) = true := by simpa using h2
    have e2 : (level != 2) = true := by simpa using h3
    have e4 : (level != 4) = true := by simpa using h4
    clear h2 h3 h4
    go_enter Try.func9, Try.ntmps9
    go_wp2
    go_step3
    go_wp2_with (go_at_call 16; refine (conn_yes _ _ h0 h1).mono ?_; rintro e w' ⟨rfl, rfl⟩)
    rw [Exit.noGoto_ret]
    go_ret
    exact ⟨rfl, rfl⟩
  · clear h
    go_enter Try.func9, Try.ntmps9
    go_wp2
    go_step3
    go_wp2_with (go_at_call 16; refine (conn_no _ _ hc).mono ?_; rintro e w' ⟨rfl, rfl⟩)
    rw [Exit.noGoto_ret]
    go_ret
    exact ⟨rfl, rfl⟩

theorem upd_self (x : Nat → Int) (c : Nat) : upd x c (x c) = x := by
  funext j; unfold upd; split
  · next h => rw [h]
  · rfl

theorem raise_1a (b c : Nat) (x : Nat → Int) (own mo : Int) (w : World) (ht : Tab 42 w b x) (hc : c < 4) (ho : x c = own) (hmo : most4 x c = mo) (h1 : 1 ≤ own) :
    Calls Try.prog 9 #[.pointer (some ⟨b, 0, none⟩), .int .i64 c, .int .i64 1] w fun e w' => e = .returned (.int .i64 0) ∧ w = w' := by
  have hcell := ht.cell c hc
  have hfree := ht.frozen c
  have hm := most_any b x c w ht
  rw [ho] at hcell
  rw [hmo] at hm
  clear ho hmo ht
  go_enter Try.func9, Try.ntmps9
  go_wp2
  go_step3
  go_wp2_with (first | (go_at_call 16; refine (conn_yes _ _ (by omega) (by omega)).mono ?_; rintro e w' ⟨rfl, rfl⟩) | (go_at_call 17; refine hm.mono ?_; rintro e w' ⟨rfl, rfl⟩))
  rw [Exit.noGoto_ret]
  go_ret
  exact ⟨rfl, rfl⟩

theorem raise_1b (b c : Nat) (x : Nat → Int) (own mo : Int) (w : World) (ht : Tab 42 w b x) (hc : c < 4) (ho : x c = own) (hmo : most4 x c = mo) (h1 : own < 1) (h2 : 3 ≤ mo) :
    Calls Try.prog 9 #[.pointer (some ⟨b, 0, none⟩), .int .i64 c, .int .i64 1] w fun e w' => e = .returned (.int .i64 8) ∧ w = w' := by
  have hcell := ht.cell c hc
  have hfree := ht.frozen c
  have hm := most_any b x c w ht
  rw [ho] at hcell
  rw [hmo] at hm
  clear ho hmo ht
  go_enter Try.func9, Try.ntmps9
  go_wp2
  refine wp_scope_forward 0 rfl ?_
  go_wp2_with (first | (go_at_call 16; refine (conn_yes _ _ (by omega) (by omega)).mono ?_; rintro e w' ⟨rfl, rfl⟩) | (go_at_call 17; refine hm.mono ?_; rintro e w' ⟨rfl, rfl⟩))
  go_step3
  refine ⟨rfl, ?_⟩
  go_wp2
  rw [Exit.noGoto_ret]
  go_ret
  exact ⟨rfl, rfl⟩

theorem raise_1c (b c : Nat) (x : Nat → Int) (own mo : Int) (w : World) (ht : Tab 42 w b x) (hc : c < 4) (ho : x c = own) (hmo : most4 x c = mo) (h1 : own < 1) (h2 : mo < 3) :
    Calls Try.prog 9 #[.pointer (some ⟨b, 0, none⟩), .int .i64 c, .int .i64 1] w fun e w' => e = .returned (.int .i64 0) ∧ w' = w.setCell ⟨b, c, none⟩ (.int .i64 1) := by
  have hcell := ht.cell c hc
  have hfree := ht.frozen c
  have hm := most_any b x c w ht
  rw [ho] at hcell
  rw [hmo] at hm
  clear ho hmo ht
  go_enter Try.func9, Try.ntmps9
  go_wp2
  go_step3
  go_wp2_with (first | (go_at_call 16; refine (conn_yes _ _ (by omega) (by omega)).mono ?_; rintro e w' ⟨rfl, rfl⟩) | (go_at_call 17; refine hm.mono ?_; rintro e w' ⟨rfl, rfl⟩))
  rw [Exit.noGoto_ret]
  go_ret
  exact ⟨rfl, rfl⟩

theorem raise_2a (b c : Nat) (x : Nat → Int) (own mo : Int) (w : World) (ht : Tab 42 w b x) (hc : c < 4) (ho : x c = own) (hmo : most4 x c = mo) (h1 : 2 ≤ own) :
    Calls Try.prog 9 #[.pointer (some ⟨b, 0, none⟩), .int .i64 c, .int .i64 2] w fun e w' => e = .returned (.int .i64 0) ∧ w = w' := by
  have hcell := ht.cell c hc
  have hfree := ht.frozen c
  have hm := most_any b x c w ht
  rw [ho] at hcell
  rw [hmo] at hm
  clear ho hmo ht
  go_enter Try.func9, Try.ntmps9
  go_wp2
  go_step3
  go_wp2_with (first | (go_at_call 16; refine (conn_yes _ _ (by omega) (by omega)).mono ?_; rintro e w' ⟨rfl, rfl⟩) | (go_at_call 17; refine hm.mono ?_; rintro e w' ⟨rfl, rfl⟩))
  rw [Exit.noGoto_ret]
  go_ret
  exact ⟨rfl, rfl⟩

theorem raise_2b (b c : Nat) (x : Nat → Int) (own mo : Int) (w : World) (ht : Tab 42 w b x) (hc : c < 4) (ho : x c = own) (hmo : most4 x c = mo) (h1 : own < 2) (hz : own = 0) :
    Calls Try.prog 9 #[.pointer (some ⟨b, 0, none⟩), .int .i64 c, .int .i64 2] w fun e w' => e = .returned (.int .i64 11) ∧ w = w' := by
  have hcell := ht.cell c hc
  have hfree := ht.frozen c
  have hm := most_any b x c w ht
  rw [ho] at hcell
  rw [hmo] at hm
  clear ho hmo ht
  have hz' : (own == 0) = true := by simpa using hz
  clear hz
  go_enter Try.func9, Try.ntmps9
  go_wp2
  go_step3
  go_wp2_with (first | (go_at_call 16; refine (conn_yes _ _ (by omega) (by omega)).mono ?_; rintro e w' ⟨rfl, rfl⟩) | (go_at_call 17; refine hm.mono ?_; rintro e w' ⟨rfl, rfl⟩))
  rw [Exit.noGoto_ret]
  go_ret
  exact ⟨rfl, rfl⟩

theorem raise_2c (b c : Nat) (x : Nat → Int) (own mo : Int) (w : World) (ht : Tab 42 w b x) (hc : c < 4) (ho : x c = own) (hmo : most4 x c = mo) (h1 : own < 2) (hz : own ≠ 0) (h2 : 2 ≤ mo) :
    Calls Try.prog 9 #[.pointer (some ⟨b, 0, none⟩), .int .i64 c, .int .i64 2] w fun e w' => e = .returned (.int .i64 8) ∧ w = w' := by
  have hcell := ht.cell c hc
  have hfree := ht.frozen c
  have hm := most_any b x c w ht
  rw [ho] at hcell
  rw [hmo] at hm
  clear ho hmo ht
  have hz' : (own == 0) = false := by simpa using hz
  clear hz
  go_enter Try.func9, Try.ntmps9
  go_wp2
  refine wp_scope_forward 0 rfl ?_
  go_wp2_with (first | (go_at_call 16; refine (conn_yes _ _ (by omega) (by omega)).mono ?_; rintro e w' ⟨rfl, rfl⟩) | (go_at_call 17; refine hm.mono ?_; rintro e w' ⟨rfl, rfl⟩))
  go_step3
  refine ⟨rfl, ?_⟩
  go_wp2
  rw [Exit.noGoto_ret]
  go_ret
  exact ⟨rfl, rfl⟩

theorem raise_2d (b c : Nat) (x : Nat → Int) (own mo : Int) (w : World) (ht : Tab 42 w b x) (hc : c < 4) (ho : x c = own) (hmo : most4 x c = mo) (h1 : own < 2) (hz : own ≠ 0) (h2 : mo < 2) :
    Calls Try.prog 9 #[.pointer (some ⟨b, 0, none⟩), .int .i64 c, .int .i64 2] w fun e w' => e = .returned (.int .i64 0) ∧ w' = w.setCell ⟨b, c, none⟩ (.int .i64 2) := by
  have hcell := ht.cell c hc
  have hfree := ht.frozen c
  have hm := most_any b x c w ht
  rw [ho] at hcell
  rw [hmo] at hm
  clear ho hmo ht
  have hz' : (own == 0) = false := by simpa using hz
  clear hz
  go_enter Try.func9, Try.ntmps9
  go_wp2
  go_step3
  go_wp2_with (first | (go_at_call 16; refine (conn_yes _ _ (by omega) (by omega)).mono ?_; rintro e w' ⟨rfl, rfl⟩) | (go_at_call 17; refine hm.mono ?_; rintro e w' ⟨rfl, rfl⟩))
  rw [Exit.noGoto_ret]
  go_ret
  exact ⟨rfl, rfl⟩

theorem raise_4a (b c : Nat) (x : Nat → Int) (own mo : Int) (w : World) (ht : Tab 42 w b x) (hc : c < 4) (ho : x c = own) (hmo : most4 x c = mo) (h1 : 4 ≤ own) :
    Calls Try.prog 9 #[.pointer (some ⟨b, 0, none⟩), .int .i64 c, .int .i64 4] w fun e w' => e = .returned (.int .i64 0) ∧ w = w' := by
  have hcell := ht.cell c hc
  have hfree := ht.frozen c
  have hm := most_any b x c w ht
  rw [ho] at hcell
  rw [hmo] at hm
  clear ho hmo ht
  go_enter Try.func9, Try.ntmps9
  go_wp2
  go_step3
  go_wp2_with (first | (go_at_call 16; refine (conn_yes _ _ (by omega) (by omega)).mono ?_; rintro e w' ⟨rfl, rfl⟩) | (go_at_call 17; refine hm.mono ?_; rintro e w' ⟨rfl, rfl⟩))
  rw [Exit.noGoto_ret]
  go_ret
  exact ⟨rfl, rfl⟩

theorem raise_4b (b c : Nat) (x : Nat → Int) (own mo : Int) (w : World) (ht : Tab 42 w b x) (hc : c < 4) (ho : x c = own) (hmo : most4 x c = mo) (h1 : own < 4) (h3 : own < 2) :
    Calls Try.prog 9 #[.pointer (some ⟨b, 0, none⟩), .int .i64 c, .int .i64 4] w fun e w' => e = .returned (.int .i64 11) ∧ w = w' := by
  have hcell := ht.cell c hc
  have hfree := ht.frozen c
  have hm := most_any b x c w ht
  rw [ho] at hcell
  rw [hmo] at hm
  clear ho hmo ht
  go_enter Try.func9, Try.ntmps9
  go_wp2
  go_step3
  go_wp2_with (first | (go_at_call 16; refine (conn_yes _ _ (by omega) (by omega)).mono ?_; rintro e w' ⟨rfl, rfl⟩) | (go_at_call 17; refine hm.mono ?_; rintro e w' ⟨rfl, rfl⟩))
  rw [Exit.noGoto_ret]
  go_ret
  exact ⟨rfl, rfl⟩

theorem raise_4c (b c : Nat) (x : Nat → Int) (own mo : Int) (w : World) (ht : Tab 42 w b x) (hc : c < 4) (ho : x c = own) (hmo : most4 x c = mo) (h1 : own < 4) (h3 : 2 ≤ own) (h2 : 1 ≤ mo) :
    Calls Try.prog 9 #[.pointer (some ⟨b, 0, none⟩), .int .i64 c, .int .i64 4] w fun e w' => e = .returned (.int .i64 8) ∧ w' = w.setCell ⟨b, c, none⟩ (.int .i64 3) := by
  have hcell := ht.cell c hc
  have hfree := ht.frozen c
  have hm := most_any b x c w ht
  rw [ho] at hcell
  rw [hmo] at hm
  clear ho hmo ht
  go_enter Try.func9, Try.ntmps9
  go_wp2
  refine wp_scope_forward 0 rfl ?_
  go_wp2_with (first | (go_at_call 16; refine (conn_yes _ _ (by omega) (by omega)).mono ?_; rintro e w' ⟨rfl, rfl⟩) | (go_at_call 17; refine hm.mono ?_; rintro e w' ⟨rfl, rfl⟩))
  go_step3
  refine ⟨rfl, ?_⟩
  go_wp2
  rw [Exit.noGoto_ret]
  go_ret
  exact ⟨rfl, rfl⟩

theorem raise_4d (b c : Nat) (x : Nat → Int) (own mo : Int) (w : World) (ht : Tab 42 w b x) (hc : c < 4) (ho : x c = own) (hmo : most4 x c = mo) (h1 : own < 4) (h3 : 2 ≤ own) (h2 : mo < 1) :
    Calls Try.prog 9 #[.pointer (some ⟨b, 0, none⟩), .int .i64 c, .int .i64 4] w fun e w' => e = .returned (.int .i64 0) ∧ w' = w.setCell ⟨b, c, none⟩ (.int .i64 4) := by
  have hcell := ht.cell c hc
  have hfree := ht.frozen c
  have hm := most_any b x c w ht
  rw [ho] at hcell
  rw [hmo] at hm
  clear ho hmo ht
  go_enter Try.func9, Try.ntmps9
  go_wp2
  go_step3
  go_wp2_with (first | (go_at_call 16; refine (conn_yes _ _ (by omega) (by omega)).mono ?_; rintro e w' ⟨rfl, rfl⟩) | (go_at_call 17; refine hm.mono ?_; rintro e w' ⟨rfl, rfl⟩))
  rw [Exit.noGoto_ret]
  go_ret
  exact ⟨rfl, rfl⟩

theorem rraise_1a (b c : Nat) (x : Nat → Int) (own mo : Int) (w : World) (ht : Tab 28 w b x) (hc : c < 4) (ho : x c = own) (hmo : most4 x c = mo) (h1 : 1 ≤ own) :
    Calls Try.prog 10 #[.pointer (some ⟨b, 0, none⟩), .int .i64 c, .int .i64 1] w fun e w' => e = .returned (.int .i64 0) ∧ w = w' := by
  have hcell := ht.cell c hc
  have hfree := ht.frozen c
  have hm := top_any b x c w ht
  rw [ho] at hcell
  rw [hmo] at hm
  clear ho hmo ht
  go_enter Try.func10, Try.ntmps10
  go_wp2_with (first | (go_at_call 14; refine (conn2_yes _ _ (by omega) (by omega)).mono ?_; rintro e w' ⟨rfl, rfl⟩) | (go_at_call 18; refine hm.mono ?_; rintro e w' ⟨rfl, rfl⟩))
  go_ret
  exact ⟨rfl, rfl⟩

theorem rraise_1b (b c : Nat) (x : Nat → Int) (own mo : Int) (w : World) (ht : Tab 28 w b x) (hc : c < 4) (ho : x c = own) (hmo : most4 x c = mo) (h1 : own < 1) (h2 : 3 ≤ mo) :
    Calls Try.prog 10 #[.pointer (some ⟨b, 0, none⟩), .int .i64 c, .int .i64 1] w fun e w' => e = .returned (.int .i64 8) ∧ w = w' := by
  have hcell := ht.cell c hc
  have hfree := ht.frozen c
  have hm := top_any b x c w ht
  rw [ho] at hcell
  rw [hmo] at hm
  clear ho hmo ht
  go_enter Try.func10, Try.ntmps10
  go_wp2_with (first | (go_at_call 14; refine (conn2_yes _ _ (by omega) (by omega)).mono ?_; rintro e w' ⟨rfl, rfl⟩) | (go_at_call 18; refine hm.mono ?_; rintro e w' ⟨rfl, rfl⟩))
  go_ret
  exact ⟨rfl, rfl⟩

theorem rraise_1c (b c : Nat) (x : Nat → Int) (own mo : Int) (w : World) (ht : Tab 28 w b x) (hc : c < 4) (ho : x c = own) (hmo : most4 x c = mo) (h1 : own < 1) (h2 : mo < 3) :
    Calls Try.prog 10 #[.pointer (some ⟨b, 0, none⟩), .int .i64 c, .int .i64 1] w fun e w' => e = .returned (.int .i64 0) ∧ w' = w.setCell ⟨b, c, none⟩ (.int .i64 1) := by
  have hcell := ht.cell c hc
  have hfree := ht.frozen c
  have hm := top_any b x c w ht
  rw [ho] at hcell
  rw [hmo] at hm
  clear ho hmo ht
  go_enter Try.func10, Try.ntmps10
  go_wp2_with (first | (go_at_call 14; refine (conn2_yes _ _ (by omega) (by omega)).mono ?_; rintro e w' ⟨rfl, rfl⟩) | (go_at_call 18; refine hm.mono ?_; rintro e w' ⟨rfl, rfl⟩))
  go_ret
  exact ⟨rfl, rfl⟩

theorem rraise_2a (b c : Nat) (x : Nat → Int) (own mo : Int) (w : World) (ht : Tab 28 w b x) (hc : c < 4) (ho : x c = own) (hmo : most4 x c = mo) (h1 : 2 ≤ own) :
    Calls Try.prog 10 #[.pointer (some ⟨b, 0, none⟩), .int .i64 c, .int .i64 2] w fun e w' => e = .returned (.int .i64 0) ∧ w = w' := by
  have hcell := ht.cell c hc
  have hfree := ht.frozen c
  have hm := top_any b x c w ht
  rw [ho] at hcell
  rw [hmo] at hm
  clear ho hmo ht
  go_enter Try.func10, Try.ntmps10
  go_wp2_with (first | (go_at_call 14; refine (conn2_yes _ _ (by omega) (by omega)).mono ?_; rintro e w' ⟨rfl, rfl⟩) | (go_at_call 18; refine hm.mono ?_; rintro e w' ⟨rfl, rfl⟩))
  go_ret
  exact ⟨rfl, rfl⟩

theorem rraise_2b (b c : Nat) (x : Nat → Int) (own mo : Int) (w : World) (ht : Tab 28 w b x) (hc : c < 4) (ho : x c = own) (hmo : most4 x c = mo) (h1 : own < 2) (hz : own = 0) :
    Calls Try.prog 10 #[.pointer (some ⟨b, 0, none⟩), .int .i64 c, .int .i64 2] w fun e w' => e = .returned (.int .i64 11) ∧ w = w' := by
  have hcell := ht.cell c hc
  have hfree := ht.frozen c
  have hm := top_any b x c w ht
  rw [ho] at hcell
  rw [hmo] at hm
  clear ho hmo ht
  have hz' : (own == 0) = true := by simpa using hz
  clear hz
  go_enter Try.func10, Try.ntmps10
  go_wp2_with (first | (go_at_call 14; refine (conn2_yes _ _ (by omega) (by omega)).mono ?_; rintro e w' ⟨rfl, rfl⟩) | (go_at_call 18; refine hm.mono ?_; rintro e w' ⟨rfl, rfl⟩))
  go_ret
  exact ⟨rfl, rfl⟩

theorem rraise_2c (b c : Nat) (x : Nat → Int) (own mo : Int) (w : World) (ht : Tab 28 w b x) (hc : c < 4) (ho : x c = own) (hmo : most4 x c = mo) (h1 : own < 2) (hz : own ≠ 0) (h2 : 2 ≤ mo) :
    Calls Try.prog 10 #[.pointer (some ⟨b, 0, none⟩), .int .i64 c, .int .i64 2] w fun e w' => e = .returned (.int .i64 8) ∧ w = w' := by
  have hcell := ht.cell c hc
  have hfree := ht.frozen c
  have hm := top_any b x c w ht
  rw [ho] at hcell
  rw [hmo] at hm
  clear ho hmo ht
  have hz' : (own == 0) = false := by simpa using hz
  clear hz
  go_enter Try.func10, Try.ntmps10
  go_wp2_with (first | (go_at_call 14; refine (conn2_yes _ _ (by omega) (by omega)).mono ?_; rintro e w' ⟨rfl, rfl⟩) | (go_at_call 18; refine hm.mono ?_; rintro e w' ⟨rfl, rfl⟩))
  go_ret
  exact ⟨rfl, rfl⟩

theorem rraise_2d (b c : Nat) (x : Nat → Int) (own mo : Int) (w : World) (ht : Tab 28 w b x) (hc : c < 4) (ho : x c = own) (hmo : most4 x c = mo) (h1 : own < 2) (hz : own ≠ 0) (h2 : mo < 2) :
    Calls Try.prog 10 #[.pointer (some ⟨b, 0, none⟩), .int .i64 c, .int .i64 2] w fun e w' => e = .returned (.int .i64 0) ∧ w' = w.setCell ⟨b, c, none⟩ (.int .i64 2) := by
  have hcell := ht.cell c hc
  have hfree := ht.frozen c
  have hm := top_any b x c w ht
  rw [ho] at hcell
  rw [hmo] at hm
  clear ho hmo ht
  have hz' : (own == 0) = false := by simpa using hz
  clear hz
  go_enter Try.func10, Try.ntmps10
  go_wp2_with (first | (go_at_call 14; refine (conn2_yes _ _ (by omega) (by omega)).mono ?_; rintro e w' ⟨rfl, rfl⟩) | (go_at_call 18; refine hm.mono ?_; rintro e w' ⟨rfl, rfl⟩))
  go_ret
  exact ⟨rfl, rfl⟩

theorem rraise_4a (b c : Nat) (x : Nat → Int) (own mo : Int) (w : World) (ht : Tab 28 w b x) (hc : c < 4) (ho : x c = own) (hmo : most4 x c = mo) (h1 : 4 ≤ own) :
    Calls Try.prog 10 #[.pointer (some ⟨b, 0, none⟩), .int .i64 c, .int .i64 4] w fun e w' => e = .returned (.int .i64 0) ∧ w = w' := by
  have hcell := ht.cell c hc
  have hfree := ht.frozen c
  have hm := top_any b x c w ht
  rw [ho] at hcell
  rw [hmo] at hm
  clear ho hmo ht
  go_enter Try.func10, Try.ntmps10
  go_wp2_with (first | (go_at_call 14; refine (conn2_yes _ _ (by omega) (by omega)).mono ?_; rintro e w' ⟨rfl, rfl⟩) | (go_at_call 18; refine hm.mono ?_; rintro e w' ⟨rfl, rfl⟩))
  go_ret
  exact ⟨rfl, rfl⟩

theorem rraise_4b (b c : Nat) (x : Nat → Int) (own mo : Int) (w : World) (ht : Tab 28 w b x) (hc : c < 4) (ho : x c = own) (hmo : most4 x c = mo) (h1 : own < 4) (h3 : own < 2) :
    Calls Try.prog 10 #[.pointer (some ⟨b, 0, none⟩), .int .i64 c, .int .i64 4] w fun e w' => e = .returned (.int .i64 11) ∧ w = w' := by
  have hcell := ht.cell c hc
  have hfree := ht.frozen c
  have hm := top_any b x c w ht
  rw [ho] at hcell
  rw [hmo] at hm
  clear ho hmo ht
  go_enter Try.func10, Try.ntmps10
  go_wp2_with (first | (go_at_call 14; refine (conn2_yes _ _ (by omega) (by omega)).mono ?_; rintro e w' ⟨rfl, rfl⟩) | (go_at_call 18; refine hm.mono ?_; rintro e w' ⟨rfl, rfl⟩))
  go_ret
  exact ⟨rfl, rfl⟩

theorem rraise_4c (b c : Nat) (x : Nat → Int) (own mo : Int) (w : World) (ht : Tab 28 w b x) (hc : c < 4) (ho : x c = own) (hmo : most4 x c = mo) (h1 : own < 4) (h3 : 2 ≤ own) (h2 : 1 ≤ mo) :
    Calls Try.prog 10 #[.pointer (some ⟨b, 0, none⟩), .int .i64 c, .int .i64 4] w fun e w' => e = .returned (.int .i64 8) ∧ w' = w.setCell ⟨b, c, none⟩ (.int .i64 3) := by
  have hcell := ht.cell c hc
  have hfree := ht.frozen c
  have hm := top_any b x c w ht
  rw [ho] at hcell
  rw [hmo] at hm
  clear ho hmo ht
  go_enter Try.func10, Try.ntmps10
  go_wp2_with (first | (go_at_call 14; refine (conn2_yes _ _ (by omega) (by omega)).mono ?_; rintro e w' ⟨rfl, rfl⟩) | (go_at_call 18; refine hm.mono ?_; rintro e w' ⟨rfl, rfl⟩))
  go_ret
  exact ⟨rfl, rfl⟩

theorem rraise_4d (b c : Nat) (x : Nat → Int) (own mo : Int) (w : World) (ht : Tab 28 w b x) (hc : c < 4) (ho : x c = own) (hmo : most4 x c = mo) (h1 : own < 4) (h3 : 2 ≤ own) (h2 : mo < 1) :
    Calls Try.prog 10 #[.pointer (some ⟨b, 0, none⟩), .int .i64 c, .int .i64 4] w fun e w' => e = .returned (.int .i64 0) ∧ w' = w.setCell ⟨b, c, none⟩ (.int .i64 4) := by
  have hcell := ht.cell c hc
  have hfree := ht.frozen c
  have hm := top_any b x c w ht
  rw [ho] at hcell
  rw [hmo] at hm
  clear ho hmo ht
  go_enter Try.func10, Try.ntmps10
  go_wp2_with (first | (go_at_call 14; refine (conn2_yes _ _ (by omega) (by omega)).mono ?_; rintro e w' ⟨rfl, rfl⟩) | (go_at_call 18; refine hm.mono ?_; rintro e w' ⟨rfl, rfl⟩))
  go_ret
  exact ⟨rfl, rfl⟩
end Go.Proofs.Ytoocokmkghfgmaa

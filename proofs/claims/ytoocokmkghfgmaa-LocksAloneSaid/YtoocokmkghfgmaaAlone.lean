/-
  The walk of LocksAlone.
-/
import Derived.Test.YtoocokmkghfgmaaInv
import Derived.Deep.DeepCutAuto
namespace Go.Proofs.Ytoocokmkghfgmaa
open Go.ChangeShapes Go.WideShapes Go.ChangeAt Go.RowKit Go.Deep
set_option linter.unusedVariables false

theorem raise_inv {b : Nat} {x : Nat → Int} {c level : Int} {w : World} (ht : Tab 42 w b x) (hi : Inv x) :
    Calls Try.prog 9 #[.pointer (some ⟨b, 0, none⟩), .int .i64 c, .int .i64 level] w fun e w' => ∃ n y, e = .returned (.int .i64 n) ∧ Tab 42 w' b y ∧ Inv y ∧ Only b w w' :=
  (raise_all b x c level w ht).mono fun e w' ⟨h1, h2, h3⟩ => ⟨_, _, h1, h2, hi.raise c level, h3⟩
theorem lower_inv {b : Nat} {x : Nat → Int} {c level : Int} {w : World} (ht : Tab 42 w b x) (hi : Inv x) :
    Calls Try.prog 11 #[.pointer (some ⟨b, 0, none⟩), .int .i64 c, .int .i64 level] w fun e w' => ∃ n y, e = .returned (.int .i64 n) ∧ Tab 42 w' b y ∧ Inv y ∧ Only b w w' :=
  (lower_all b x c level w ht).mono fun e w' ⟨h1, h2, h3⟩ => ⟨_, _, h1, h2, hi.lower c level, h3⟩

theorem lX_eq (y : Nat → Int) (j : Nat) (hj : j < 4) : lX y j 0 = upd y j (if 0 < y j then 0 else y j) := by
  unfold lX; rw [if_pos ⟨⟨by omega, by omega⟩, .inl rfl⟩, Int.toNat_natCast]
theorem lX_pos (y : Nat → Int) (j : Nat) (hj : j < 4) (h : ∀ i, i < 4 → 0 ≤ y i) : ∀ i, i < 4 → 0 ≤ lX y j 0 i := by
  intro i hi
  rw [lX_eq y j hj]
  by_cases e : i = j
  · rw [e, upd_same]; have := h j hj; split <;> omega
  · rw [upd_other _ _ _ _ e]; exact h i hi
theorem lX_zero (y : Nat → Int) (j : Nat) (hj : j < 4) (h : ∀ i, i < 4 → 0 ≤ y i) (hz : ∀ i, i < j → y i = 0) : ∀ i, i < j + 1 → lX y j 0 i = 0 := by
  intro i hi
  rw [lX_eq y j hj]
  by_cases e : i = j
  · rw [e, upd_same]; have := h j hj; split <;> omega
  · rw [upd_other _ _ _ _ e]; exact hz i (by omega)

set_option maxRecDepth 100000 in
set_option maxHeartbeats 1000000 in
theorem alone_any (A : Option Addr) (len cap : Nat) (D C L : Nat → Int) (w : World) (hl : len ≤ 9223372036854775807) (ha : Acts w A len D C L) :
    Calls Try.prog 4 #[.slice A len cap] w fun e w' => e = .returned (.bool true) ∧ Below w.heap.size w w' := by
  have HA : Hid (Acts w A len D C L) := ha
  clear ha
  go_enter Try.func4, Try.ntmps4
  go_wp2_with fail
  refine (new_abs _).mono ?_
  rintro e w1 ⟨rfl, ht, hb⟩
  have HS : Hid (w.heap.size < w1.heap.size) := ht.lt
  go_wp2
  go_loopw [4] (fun i wr => ∃ (k : Nat) (x : Nat → Int), i = .int .i64 k ∧ k ≤ len ∧ Tab 42 wr w.heap.size x ∧ Inv x ∧ Below w.heap.size w wr) (fun i _ => len - (intOf i).toNat)
  case atStart => exact ⟨0, s0, rfl, by omega, ht, Inv.zero, hb⟩
  case round =>
    clear ht hb
    obtain ⟨k, x, rfl, hk, ht, hi, hb⟩ := hrel
    have hwlt := ht.lt
    by_cases h1 : k < len
    · by_cases h2 : k < 60
      · obtain ⟨b, off, rfl, hbw, hcells⟩ := HA.out (by omega)
        obtain ⟨hd, hc, hL⟩ := hcells k h1
        have hd' : wr.cell? ⟨b, off + k * 3, none⟩ = some (.int .i64 (D k)) := (hb.cell (p := ⟨b, off + k * 3, none⟩) hbw).trans hd
        have hc' : wr.cell? ⟨b, off + k * 3 + 1, none⟩ = some (.int .i64 (C k)) := (hb.cell (p := ⟨b, off + k * 3 + 1, none⟩) hbw).trans hc
        have hL' : wr.cell? ⟨b, off + k * 3 + 2, none⟩ = some (.int .i64 (L k)) := (hb.cell (p := ⟨b, off + k * 3 + 2, none⟩) hbw).trans hL
        have hblt : b < wr.heap.size := by have := hb.size; omega
        have hLa := fun o => (World.cell?_alloc_lt wr o ⟨b, off + k * 3 + 2, none⟩ hblt).trans hL'
        clear hL'
        clear hcells hc hd hL
        obtain ⟨m, m0, m1, hm⟩ := within_to (C k) 4 (by omega) (by omega)
        obtain ⟨d, d0, d1, hdd⟩ := within_to (D k) 5 (by omega) (by omega)
        obtain ⟨l2, l20, l21, hl2⟩ := within_to (L k) 2 (by omega) (by omega)
        obtain ⟨l3, l30, l31, hl3⟩ := within_to (L k) 3 (by omega) (by omega)
        by_cases hd4 : (d == 4) = true
        · clear hl3
          have hl2c : l2 = 0 ∨ l2 = 1 := by omega
          rcases hl2c with rfl | rfl
          all_goals
            go_wp2_with (first | (go_at_call_of 7 (C k); refine (hm _).mono ?_; rintro e w' ⟨rfl, rfl⟩) | (go_at_call_of 7 (D k); refine (hdd _).mono ?_; rintro e w' ⟨rfl, rfl⟩) | (go_at_call_of 7 (L k); refine (hl2 _).mono ?_; rintro e w' ⟨rfl, rfl⟩))
            refine (lower_inv (ht.alloc _) hi).mono ?_
            rintro e w2 ⟨n, y, rfl, ht2, hi2, ho⟩
            replace hb := (hb.alloc hb.size _).trans (ho.below (Nat.le_refl _))
            clear ht hi ho hm hdd hl2 hd' hc' hLa
            have hh := hi2.high
            have hb4 := cnt_bd 2 y 4
            go_wp2_with fail
            go_loop [6, 7, 8, 9] (fun s h al kk => ∃ j : Nat, j ≤ 4 ∧ kk = .int .i64 j ∧ s = .int .i64 (cnt 1 y j) ∧ h = .int .i64 (cnt 2 y j) ∧ al = .bool (anyB y j)) (fun _ _ _ kk => 4 - (intOf kk).toNat)
            case atStart => exact ⟨0, by omega, rfl, rfl, rfl, rfl⟩
            case round =>
              obtain ⟨j, hj, rfl, rfl, rfl, rfl⟩ := hrel
              by_cases hj4 : j < 4
              · clear hh hb4
                have c1 := cnt_bd 1 y j
                have c2 := cnt_bd 2 y j
                obtain ⟨s', hs', hs1, hs2⟩ : ∃ s', cnt 1 y (j + 1) = s' ∧ (1 ≤ y j → s' = cnt 1 y j + 1) ∧ (¬ 1 ≤ y j → s' = cnt 1 y j) := ⟨_, rfl, fun h => if_pos h, fun h => if_neg h⟩
                obtain ⟨h', hh', hh1, hh2⟩ : ∃ s', cnt 2 y (j + 1) = s' ∧ (2 ≤ y j → s' = cnt 2 y j + 1) ∧ (¬ 2 ≤ y j → s' = cnt 2 y j) := ⟨_, rfl, fun h => if_pos h, fun h => if_neg h⟩
                have H : Hid ((cnt 1 y (j + 1) = s' ∧ (1 ≤ y j → s' = cnt 1 y j + 1) ∧ (¬ 1 ≤ y j → s' = cnt 1 y j)) ∧ (cnt 2 y (j + 1) = h' ∧ (2 ≤ y j → h' = cnt 2 y j + 1) ∧ (¬ 2 ≤ y j → h' = cnt 2 y j)) ∧ anyB y (j + 1) = (anyB y j || y j == 4)) := ⟨⟨hs', hs1, hs2⟩, ⟨hh', hh1, hh2⟩, rfl⟩
                clear hs' hs1 hs2 hh' hh1 hh2
                have hlv := level_yes w.heap.size y j w2 hj4 ht2
                generalize y j = yj at *
                generalize cnt 1 y j = n1 at *
                generalize cnt 2 y j = n2 at *
                generalize anyB y j = a1 at *
                by_cases p4 : yj = 4
                · subst p4
                  cases a1
                  all_goals
                    go_wp2_with (first | (go_at_call 13; refine hlv.mono ?_; rintro e w' ⟨rfl, rfl⟩) | (go_at_call 8; refine (num_any _ _).mono ?_; rintro e w' ⟨rfl, rfl⟩))
                    go_round
                    case rel => exact ⟨j + 1, by omega, by go_num, by rw [H.out.1.1, H.out.1.2.1 (by omega)], by rw [H.out.2.1.1, H.out.2.1.2.1 (by omega)], by rw [H.out.2.2]; rfl⟩
                    case measure => simp [intOf]; omega
                · have p4' : (yj == 4) = false := by simpa using p4
                  clear p4
                  by_cases p2 : 2 ≤ yj
                  · cases a1
                    all_goals
                      go_wp2_with (first | (go_at_call 13; refine hlv.mono ?_; rintro e w' ⟨rfl, rfl⟩) | (go_at_call 8; refine (num_any _ _).mono ?_; rintro e w' ⟨rfl, rfl⟩))
                      go_round
                      case rel => exact ⟨j + 1, by omega, by go_num, by rw [H.out.1.1, H.out.1.2.1 (by omega)], by rw [H.out.2.1.1, H.out.2.1.2.1 (by omega)], by rw [H.out.2.2, p4']; rfl⟩
                      case measure => simp [intOf]; omega
                  · by_cases p1 : 0 < yj
                    · cases a1
                      all_goals
                        go_wp2_with (first | (go_at_call 13; refine hlv.mono ?_; rintro e w' ⟨rfl, rfl⟩) | (go_at_call 8; refine (num_any _ _).mono ?_; rintro e w' ⟨rfl, rfl⟩))
                        go_round
                        case rel => exact ⟨j + 1, by omega, by go_num, by rw [H.out.1.1, H.out.1.2.1 (by omega)], by rw [H.out.2.1.1, H.out.2.1.2.2 (by omega)], by rw [H.out.2.2, p4']; rfl⟩
                        case measure => simp [intOf]; omega
                    · cases a1
                      all_goals
                        go_wp2_with (first | (go_at_call 13; refine hlv.mono ?_; rintro e w' ⟨rfl, rfl⟩) | (go_at_call 8; refine (num_any _ _).mono ?_; rintro e w' ⟨rfl, rfl⟩))
                        go_round
                        case rel => exact ⟨j + 1, by omega, by go_num, by rw [H.out.1.1, H.out.1.2.2 (by omega)], by rw [H.out.2.1.1, H.out.2.1.2.2 (by omega)], by rw [H.out.2.2, p4']; rfl⟩
                        case measure => simp [intOf]; omega
              · obtain rfl : j = 4 := by omega
                have HL1 : Hid (anyB y 4 = true → cnt 1 y 4 = 1) := hi2.lone
                generalize ha4 : anyB y 4 = a4 at *
                generalize hc1 : cnt 1 y 4 = c14 at *
                generalize cnt 2 y 4 = c24 at *
                clear ha4 hc1
                cases a4
                · go_wp2
                  go_roundw
                  case rel => exact ⟨k + 1, y, by go_num, by omega, ht2, hi2, hb⟩
                  case measure => simp [intOf]; omega
                · obtain rfl : c14 = 1 := HL1.out rfl
                  go_wp2
                  go_roundw
                  case rel => exact ⟨k + 1, y, by go_num, by omega, ht2, hi2, hb⟩
                  case measure => simp [intOf]; omega
        · have hd4' : (d == 4) = false := by simpa using hd4
          clear hd4 hl2
          have hl3c : l3 = 0 ∨ l3 = 1 ∨ l3 = 2 := by omega
          rcases hl3c with rfl | rfl | rfl
          all_goals
            go_wp2_with (first | (go_at_call_of 7 (C k); refine (hm _).mono ?_; rintro e w' ⟨rfl, rfl⟩) | (go_at_call_of 7 (D k); refine (hdd _).mono ?_; rintro e w' ⟨rfl, rfl⟩) | (go_at_call_of 7 (L k); refine (hl3 _).mono ?_; rintro e w' ⟨rfl, rfl⟩))
            refine (raise_inv (ht.alloc _) hi).mono ?_
            rintro e w2 ⟨n, y, rfl, ht2, hi2, ho⟩
            replace hb := (hb.alloc hb.size _).trans (ho.below (Nat.le_refl _))
            clear ht hi ho hm hdd hl3 hd' hc' hLa
            have hh := hi2.high
            have hb4 := cnt_bd 2 y 4
            go_wp2_with fail
            go_loop [6, 7, 8, 9] (fun s h al kk => ∃ j : Nat, j ≤ 4 ∧ kk = .int .i64 j ∧ s = .int .i64 (cnt 1 y j) ∧ h = .int .i64 (cnt 2 y j) ∧ al = .bool (anyB y j)) (fun _ _ _ kk => 4 - (intOf kk).toNat)
            case atStart => exact ⟨0, by omega, rfl, rfl, rfl, rfl⟩
            case round =>
              obtain ⟨j, hj, rfl, rfl, rfl, rfl⟩ := hrel
              by_cases hj4 : j < 4
              · clear hh hb4
                have c1 := cnt_bd 1 y j
                have c2 := cnt_bd 2 y j
                obtain ⟨s', hs', hs1, hs2⟩ : ∃ s', cnt 1 y (j + 1) = s' ∧ (1 ≤ y j → s' = cnt 1 y j + 1) ∧ (¬ 1 ≤ y j → s' = cnt 1 y j) := ⟨_, rfl, fun h => if_pos h, fun h => if_neg h⟩
                obtain ⟨h', hh', hh1, hh2⟩ : ∃ s', cnt 2 y (j + 1) = s' ∧ (2 ≤ y j → s' = cnt 2 y j + 1) ∧ (¬ 2 ≤ y j → s' = cnt 2 y j) := ⟨_, rfl, fun h => if_pos h, fun h => if_neg h⟩
                have H : Hid ((cnt 1 y (j + 1) = s' ∧ (1 ≤ y j → s' = cnt 1 y j + 1) ∧ (¬ 1 ≤ y j → s' = cnt 1 y j)) ∧ (cnt 2 y (j + 1) = h' ∧ (2 ≤ y j → h' = cnt 2 y j + 1) ∧ (¬ 2 ≤ y j → h' = cnt 2 y j)) ∧ anyB y (j + 1) = (anyB y j || y j == 4)) := ⟨⟨hs', hs1, hs2⟩, ⟨hh', hh1, hh2⟩, rfl⟩
                clear hs' hs1 hs2 hh' hh1 hh2
                have hlv := level_yes w.heap.size y j w2 hj4 ht2
                generalize y j = yj at *
                generalize cnt 1 y j = n1 at *
                generalize cnt 2 y j = n2 at *
                generalize anyB y j = a1 at *
                by_cases p4 : yj = 4
                · subst p4
                  cases a1
                  all_goals
                    go_wp2_with (first | (go_at_call 13; refine hlv.mono ?_; rintro e w' ⟨rfl, rfl⟩) | (go_at_call 8; refine (num_any _ _).mono ?_; rintro e w' ⟨rfl, rfl⟩))
                    go_round
                    case rel => exact ⟨j + 1, by omega, by go_num, by rw [H.out.1.1, H.out.1.2.1 (by omega)], by rw [H.out.2.1.1, H.out.2.1.2.1 (by omega)], by rw [H.out.2.2]; rfl⟩
                    case measure => simp [intOf]; omega
                · have p4' : (yj == 4) = false := by simpa using p4
                  clear p4
                  by_cases p2 : 2 ≤ yj
                  · cases a1
                    all_goals
                      go_wp2_with (first | (go_at_call 13; refine hlv.mono ?_; rintro e w' ⟨rfl, rfl⟩) | (go_at_call 8; refine (num_any _ _).mono ?_; rintro e w' ⟨rfl, rfl⟩))
                      go_round
                      case rel => exact ⟨j + 1, by omega, by go_num, by rw [H.out.1.1, H.out.1.2.1 (by omega)], by rw [H.out.2.1.1, H.out.2.1.2.1 (by omega)], by rw [H.out.2.2, p4']; rfl⟩
                      case measure => simp [intOf]; omega
                  · by_cases p1 : 0 < yj
                    · cases a1
                      all_goals
                        go_wp2_with (first | (go_at_call 13; refine hlv.mono ?_; rintro e w' ⟨rfl, rfl⟩) | (go_at_call 8; refine (num_any _ _).mono ?_; rintro e w' ⟨rfl, rfl⟩))
                        go_round
                        case rel => exact ⟨j + 1, by omega, by go_num, by rw [H.out.1.1, H.out.1.2.1 (by omega)], by rw [H.out.2.1.1, H.out.2.1.2.2 (by omega)], by rw [H.out.2.2, p4']; rfl⟩
                        case measure => simp [intOf]; omega
                    · cases a1
                      all_goals
                        go_wp2_with (first | (go_at_call 13; refine hlv.mono ?_; rintro e w' ⟨rfl, rfl⟩) | (go_at_call 8; refine (num_any _ _).mono ?_; rintro e w' ⟨rfl, rfl⟩))
                        go_round
                        case rel => exact ⟨j + 1, by omega, by go_num, by rw [H.out.1.1, H.out.1.2.2 (by omega)], by rw [H.out.2.1.1, H.out.2.1.2.2 (by omega)], by rw [H.out.2.2, p4']; rfl⟩
                        case measure => simp [intOf]; omega
              · obtain rfl : j = 4 := by omega
                have HL1 : Hid (anyB y 4 = true → cnt 1 y 4 = 1) := hi2.lone
                generalize ha4 : anyB y 4 = a4 at *
                generalize hc1 : cnt 1 y 4 = c14 at *
                generalize cnt 2 y 4 = c24 at *
                clear ha4 hc1
                cases a4
                · go_wp2
                  go_roundw
                  case rel => exact ⟨k + 1, y, by go_num, by omega, ht2, hi2, hb⟩
                  case measure => simp [intOf]; omega
                · obtain rfl : c14 = 1 := HL1.out rfl
                  go_wp2
                  go_roundw
                  case rel => exact ⟨k + 1, y, by go_num, by omega, ht2, hi2, hb⟩
                  case measure => simp [intOf]; omega
      · clear hwlt HA
        go_wp2
        go_loopw [12] (fun kk wz => ∃ (j : Nat) (y : Nat → Int), kk = .int .i64 j ∧ j ≤ 4 ∧ Tab 42 wz w.heap.size y ∧ (∀ i, i < 4 → 0 ≤ y i) ∧ (∀ i, i < j → y i = 0) ∧ Below w.heap.size w wz) (fun kk _ => 4 - (intOf kk).toNat)
        case atStart => exact ⟨0, x, rfl, by omega, ht, fun i h => (hi.bd i h).1, fun i h => absurd h (by omega), hb⟩
        case round =>
          clear ht hi hb
          obtain ⟨j, y, rfl, hj, ht, hp, hz, hb⟩ := hrel
          have HP : Hid (∀ i, i < 4 → 0 ≤ y i) := hp
          have HZ : Hid (∀ i, i < j → y i = 0) := hz
          clear hp hz
          by_cases hj4 : j < 4
          · go_wp2_with fail
            refine (lower_to (lX y j 0) ht (n := 0) (by unfold lE; rw [if_pos ⟨⟨by omega, by omega⟩, .inl rfl⟩]) (fun _ _ => rfl)).mono ?_
            clear ht
            rintro e w3 ⟨rfl, ht, ho⟩
            replace hb := hb.trans (ho.below (Nat.le_refl _))
            clear ho
            go_wp2_with (go_at_call 8; refine (num_any _ _).mono ?_; rintro e w' ⟨rfl, rfl⟩)
            go_roundw
            case rel => exact ⟨j + 1, lX y j 0, by go_num, by omega, ht, lX_pos y j hj4 HP.out, lX_zero y j hj4 HP.out HZ.out, hb⟩
            case measure => simp [intOf]; omega
          · obtain rfl : j = 4 := by omega
            replace ht := ht.congr4 (y := s0) HZ.out
            go_wp2_with fail
            refine (raise_to (rX s0 2 1) ht (n := 0) (by decide) (fun _ _ => rfl)).mono ?_
            clear ht
            rintro e w3 ⟨rfl, ht, ho⟩
            replace hb := hb.trans (ho.below (Nat.le_refl _))
            clear ho
            go_wp2_with (go_at_call 8; refine (num_any _ _).mono ?_; rintro e w' ⟨rfl, rfl⟩)
            refine (raise_to (rX (rX s0 2 1) 2 2) ht (n := 0) (by decide) (fun _ _ => rfl)).mono ?_
            clear ht
            rintro e w4 ⟨rfl, ht, ho⟩
            replace hb := hb.trans (ho.below (Nat.le_refl _))
            clear ho
            go_wp2_with (go_at_call 8; refine (num_any _ _).mono ?_; rintro e w' ⟨rfl, rfl⟩)
            refine (raise_to (rX (rX (rX s0 2 1) 2 2) 2 4) ht (n := 0) (by decide) (fun _ _ => rfl)).mono ?_
            clear ht
            rintro e w5 ⟨rfl, ht, ho⟩
            replace hb := hb.trans (ho.below (Nat.le_refl _))
            clear ho
            go_wp2_with (first | (go_at_call 8; refine (num_any _ _).mono ?_; rintro e w' ⟨rfl, rfl⟩) | (go_at_call 15; refine (wakes_any _).mono ?_; rintro e w' ⟨rfl, hb2⟩))
            go_ret
            exact ⟨rfl, hb.trans (hb2.mono hb.size)⟩
    · clear hwlt HA
      go_wp2
      go_loopw [12] (fun kk wz => ∃ (j : Nat) (y : Nat → Int), kk = .int .i64 j ∧ j ≤ 4 ∧ Tab 42 wz w.heap.size y ∧ (∀ i, i < 4 → 0 ≤ y i) ∧ (∀ i, i < j → y i = 0) ∧ Below w.heap.size w wz) (fun kk _ => 4 - (intOf kk).toNat)
      case atStart => exact ⟨0, x, rfl, by omega, ht, fun i h => (hi.bd i h).1, fun i h => absurd h (by omega), hb⟩
      case round =>
        clear ht hi hb
        obtain ⟨j, y, rfl, hj, ht, hp, hz, hb⟩ := hrel
        have HP : Hid (∀ i, i < 4 → 0 ≤ y i) := hp
        have HZ : Hid (∀ i, i < j → y i = 0) := hz
        clear hp hz
        by_cases hj4 : j < 4
        · go_wp2_with fail
          refine (lower_to (lX y j 0) ht (n := 0) (by unfold lE; rw [if_pos ⟨⟨by omega, by omega⟩, .inl rfl⟩]) (fun _ _ => rfl)).mono ?_
          clear ht
          rintro e w3 ⟨rfl, ht, ho⟩
          replace hb := hb.trans (ho.below (Nat.le_refl _))
          clear ho
          go_wp2_with (go_at_call 8; refine (num_any _ _).mono ?_; rintro e w' ⟨rfl, rfl⟩)
          go_roundw
          case rel => exact ⟨j + 1, lX y j 0, by go_num, by omega, ht, lX_pos y j hj4 HP.out, lX_zero y j hj4 HP.out HZ.out, hb⟩
          case measure => simp [intOf]; omega
        · obtain rfl : j = 4 := by omega
          replace ht := ht.congr4 (y := s0) HZ.out
          go_wp2_with fail
          refine (raise_to (rX s0 2 1) ht (n := 0) (by decide) (fun _ _ => rfl)).mono ?_
          clear ht
          rintro e w3 ⟨rfl, ht, ho⟩
          replace hb := hb.trans (ho.below (Nat.le_refl _))
          clear ho
          go_wp2_with (go_at_call 8; refine (num_any _ _).mono ?_; rintro e w' ⟨rfl, rfl⟩)
          refine (raise_to (rX (rX s0 2 1) 2 2) ht (n := 0) (by decide) (fun _ _ => rfl)).mono ?_
          clear ht
          rintro e w4 ⟨rfl, ht, ho⟩
          replace hb := hb.trans (ho.below (Nat.le_refl _))
          clear ho
          go_wp2_with (go_at_call 8; refine (num_any _ _).mono ?_; rintro e w' ⟨rfl, rfl⟩)
          refine (raise_to (rX (rX (rX s0 2 1) 2 2) 2 4) ht (n := 0) (by decide) (fun _ _ => rfl)).mono ?_
          clear ht
          rintro e w5 ⟨rfl, ht, ho⟩
          replace hb := hb.trans (ho.below (Nat.le_refl _))
          clear ho
          go_wp2_with (first | (go_at_call 8; refine (num_any _ _).mono ?_; rintro e w' ⟨rfl, rfl⟩) | (go_at_call 15; refine (wakes_any _).mono ?_; rintro e w' ⟨rfl, hb2⟩))
          go_ret
          exact ⟨rfl, hb.trans (hb2.mono hb.size)⟩
end Go.Proofs.Ytoocokmkghfgmaa

/-
  The walk of LocksExact.
-/
import Derived.Test.YtoocokmkghfgmaaWakes
import Derived.Deep.RegionHeld3
namespace Go.Proofs.Ytoocokmkghfgmaa
open Go.ChangeShapes Go.WideShapes Go.ChangeAt Go.RowKit Go.Deep
set_option linter.unusedVariables false

theorem Only.cell {b : Nat} {w w' : World} (h : Only b w w') {p : Addr} (hp : p.block ≠ b) : w'.cell? p = w.cell? p := World.cell?_of_block (h.block p.block hp)

set_option maxRecDepth 100000 in
set_option maxHeartbeats 1000000 in
theorem exact_any (A : Option Addr) (len cap : Nat) (D C L : Nat → Int) (w : World) (hl : len ≤ 9223372036854775807) (ha : Acts w A len D C L) :
    Calls Try.prog 3 #[.slice A len cap] w fun e w' => e = .returned (.bool true) ∧ Below w.heap.size w w' := by
  have HA : Hid (Acts w A len D C L) := ha
  clear ha
  go_enter Try.func3, Try.ntmps3
  go_wp2_with fail
  refine (new_abs _).mono ?_
  rintro e w1 ⟨rfl, ht, hb⟩
  have hlt := ht.lt
  have hr : Tab 28 (w1.alloc (.cells #[.int .i64 0, .int .i64 0, .int .i64 0, .int .i64 0] 28)) w1.heap.size s0 := Tab.new w1
  replace ht := ht.alloc (.cells #[.int .i64 0, .int .i64 0, .int .i64 0, .int .i64 0] 28)
  replace hb := hb.alloc hb.size (.cells #[.int .i64 0, .int .i64 0, .int .i64 0, .int .i64 0] 28)
  go_wp2
  go_loopw [5] (fun i wr => ∃ (k : Nat) (x : Nat → Int), i = .int .i64 k ∧ k ≤ len ∧ Tab 42 wr w.heap.size x ∧ Tab 28 wr w1.heap.size x ∧ Below w.heap.size w wr) (fun i _ => len - (intOf i).toNat)
  case atStart => exact ⟨0, s0, rfl, by omega, ht, hr, hb⟩
  case round =>
    clear ht hr hb
    obtain ⟨k, x, rfl, hk, ht, hr, hb⟩ := hrel
    by_cases h1 : k < len
    · by_cases h2 : k < 60
      · obtain ⟨b, off, rfl, hbw, hcells⟩ := HA.out (by omega)
        obtain ⟨hd, hc, hL⟩ := hcells k h1
        have hd' : wr.cell? ⟨b, off + k * 3, none⟩ = some (.int .i64 (D k)) := (hb.cell (p := ⟨b, off + k * 3, none⟩) hbw).trans hd
        have hc' : wr.cell? ⟨b, off + k * 3 + 1, none⟩ = some (.int .i64 (C k)) := (hb.cell (p := ⟨b, off + k * 3 + 1, none⟩) hbw).trans hc
        have hL' : wr.cell? ⟨b, off + k * 3 + 2, none⟩ = some (.int .i64 (L k)) := (hb.cell (p := ⟨b, off + k * 3 + 2, none⟩) hbw).trans hL
        clear hcells hc hd hL
        obtain ⟨d, d0, d1, hdd⟩ := within_to (D k) 6 (by omega) (by omega)
        have hMlt : w.heap.size < wr.heap.size := ht.lt
        have hRlt : w1.heap.size < wr.heap.size := hr.lt
        have hNR : w.heap.size ≠ w1.heap.size := Nat.ne_of_lt hlt
        replace hb := hb.alloc hb.size (.cells #[.int .i64 (D k), .int .i64 (C k), .int .i64 (L k)] 30)
        replace ht := ht.alloc (.cells #[.int .i64 (D k), .int .i64 (C k), .int .i64 (L k)] 30)
        replace hr := hr.alloc (.cells #[.int .i64 (D k), .int .i64 (C k), .int .i64 (L k)] 30)
        by_cases hd4 : d < 4
        · go_wp2_with (go_at_call 7; refine (hdd _).mono ?_; rintro e w' ⟨rfl, rfl⟩)
          clear hdd hd' hc' hL'
          have hC : (wr.alloc (.cells #[.int .i64 (D k), .int .i64 (C k), .int .i64 (L k)] 30)).cell? ⟨wr.heap.size, 1, none⟩ = some (.int .i64 (C k)) := by simp
          have hLL : (wr.alloc (.cells #[.int .i64 (D k), .int .i64 (C k), .int .i64 (L k)] 30)).cell? ⟨wr.heap.size, 2, none⟩ = some (.int .i64 (L k)) := by simp
          have hMne : wr.heap.size ≠ w.heap.size := Nat.ne_of_gt hMlt
          have hMne' : wr.heap.size ≠ w1.heap.size := Nat.ne_of_gt hRlt
          generalize wr.alloc (.cells #[.int .i64 (D k), .int .i64 (C k), .int .i64 (L k)] 30) = wa at *
          generalize wr.heap.size = M at *
          generalize D k = dk at *
          generalize C k = ck at *
          generalize L k = lk at *
          have c9 := fun W (hW : Tab 42 W w.heap.size x) => raise_all w.heap.size x ck lk W hW
          have c10 := fun W (hW : Tab 28 W w1.heap.size x) => rraise_all w1.heap.size x ck lk W hW
          generalize rE x ck lk = n at *
          generalize rX x ck lk = y at *
          have A9 : ∀ W, Tab 42 W w.heap.size x → Tab 28 W w1.heap.size x → (W.cell? ⟨M, 1, none⟩ = some (.int .i64 ck) ∧ W.cell? ⟨M, 2, none⟩ = some (.int .i64 lk)) → Below w.heap.size w W →
              Calls Try.prog 9 #[.pointer (some ⟨w.heap.size, 0, none⟩), .int .i64 ck, .int .i64 lk] W fun e w' => e = .returned (.int .i64 n) ∧ (Tab 42 w' w.heap.size y ∧ Tab 28 w' w1.heap.size x ∧ (w'.cell? ⟨M, 1, none⟩ = some (.int .i64 ck) ∧ w'.cell? ⟨M, 2, none⟩ = some (.int .i64 lk)) ∧ Below w.heap.size w w') :=
            fun W h1 h2 h3 h4 => (c9 W h1).mono fun e w' ⟨a1, a2, a3⟩ => ⟨a1, a2, a3.tab h2 (Ne.symm hNR), ⟨(a3.cell (p := ⟨M, 1, none⟩) hMne).trans h3.1, (a3.cell (p := ⟨M, 2, none⟩) hMne).trans h3.2⟩, h4.trans (a3.below (Nat.le_refl _))⟩
          have A10 : ∀ W, Tab 42 W w.heap.size y → Tab 28 W w1.heap.size x → (W.cell? ⟨M, 1, none⟩ = some (.int .i64 ck) ∧ W.cell? ⟨M, 2, none⟩ = some (.int .i64 lk)) → Below w.heap.size w W →
              Calls Try.prog 10 #[.pointer (some ⟨w1.heap.size, 0, none⟩), .int .i64 ck, .int .i64 lk] W fun e w' => e = .returned (.int .i64 n) ∧ (Tab 42 w' w.heap.size y ∧ Tab 28 w' w1.heap.size y ∧ (w'.cell? ⟨M, 1, none⟩ = some (.int .i64 ck) ∧ w'.cell? ⟨M, 2, none⟩ = some (.int .i64 lk)) ∧ Below w.heap.size w w') :=
            fun W h1 h2 h3 h4 => (c10 W h2).mono fun e w' ⟨a1, a2, a3⟩ => ⟨a1, a3.tab h1 hNR, a2, ⟨(a3.cell (p := ⟨M, 1, none⟩) hMne').trans h3.1, (a3.cell (p := ⟨M, 2, none⟩) hMne').trans h3.2⟩, h4.trans (a3.below (Nat.le_of_lt hlt))⟩
          have B9 := A9 wa.drew ht.drew hr.drew ⟨hC, hLL⟩ hb.drew
          clear A9 c9 c10
          go_region_held3 (fun w' => w'.cell? ⟨M, 1, none⟩ = some (.int .i64 ck) ∧ w'.cell? ⟨M, 2, none⟩ = some (.int .i64 lk)) (first | go_keep | assumption)
            (first | (go_at_call 9; refine B9.mono ?_; rintro e w2 ⟨rfl, ht2, hr2, hs2, hb2⟩) | (go_at_call 8; refine (num_any _ _).mono ?_; rintro e w' ⟨rfl, rfl⟩) | (go_at_call 10; refine (A10 _ ht2 hr2 hs2 hb2).mono ?_; rintro e w3 ⟨rfl, ht3, hr3, hs3, hb3⟩))
          have HSZ : Hid (k + 1 ≤ len) := h1
          clear HA A10 B9 hC hLL ht hr hb ht2 hr2 hs2 hb2 hs3
          go_wp2_with fail
          go_loop [7] (fun c => ∃ q : Int, c = .int .i64 q ∧ -1 ≤ q ∧ q ≤ 5) (fun c => (5 - intOf c).toNat)
          case atStart => exact ⟨-1, rfl, by omega, by omega⟩
          case round =>
            obtain ⟨q, rfl, q0, q1⟩ := hrel
            by_cases q4 : q ≤ 4
            · by_cases hq : 0 ≤ q ∧ q < 4
              · obtain ⟨hq0, hq1⟩ := hq
                obtain ⟨j, rfl⟩ := Int.eq_ofNat_of_zero_le hq0
                have hj : j < 4 := by omega
                have hlv := level_yes w.heap.size y j w3 hj ht3
                have hcl := hr3.cell j hj
                generalize y j = yj at *
                go_wp2_with (first | (go_at_call 13; refine hlv.mono ?_; rintro e w' ⟨rfl, rfl⟩) | (go_at_call 14; refine (conn2_yes _ _ hq0 hq1).mono ?_; rintro e w' ⟨rfl, rfl⟩) | (go_at_call 8; refine (num_any _ _).mono ?_; rintro e w' ⟨rfl, rfl⟩))
                go_round
                case rel => exact ⟨j + 1, by go_num, by omega, by omega⟩
                case measure => simp [intOf]; omega
              · have hlv := level_no w.heap.size q w3 hq
                go_wp2_with (first | (go_at_call 13; refine hlv.mono ?_; rintro e w' ⟨rfl, rfl⟩) | (go_at_call 14; refine (conn2_no _ _ hq).mono ?_; rintro e w' ⟨rfl, rfl⟩) | (go_at_call 8; refine (num_any _ _).mono ?_; rintro e w' ⟨rfl, rfl⟩))
                go_round
                case rel => exact ⟨q + 1, by go_num, by omega, by omega⟩
                case measure => simp [intOf]; omega
            · go_wp2
              go_roundw
              case rel => exact ⟨k + 1, y, by go_num, HSZ.out, ht3, hr3, hb3⟩
              case measure => simp [intOf]; omega
        · go_wp2_with (go_at_call 7; refine (hdd _).mono ?_; rintro e w' ⟨rfl, rfl⟩)
          clear hdd hd' hc' hL'
          have hC : (wr.alloc (.cells #[.int .i64 (D k), .int .i64 (C k), .int .i64 (L k)] 30)).cell? ⟨wr.heap.size, 1, none⟩ = some (.int .i64 (C k)) := by simp
          have hLL : (wr.alloc (.cells #[.int .i64 (D k), .int .i64 (C k), .int .i64 (L k)] 30)).cell? ⟨wr.heap.size, 2, none⟩ = some (.int .i64 (L k)) := by simp
          have hMne : wr.heap.size ≠ w.heap.size := Nat.ne_of_gt hMlt
          have hMne' : wr.heap.size ≠ w1.heap.size := Nat.ne_of_gt hRlt
          generalize wr.alloc (.cells #[.int .i64 (D k), .int .i64 (C k), .int .i64 (L k)] 30) = wa at *
          generalize wr.heap.size = M at *
          generalize D k = dk at *
          generalize C k = ck at *
          generalize L k = lk at *
          have c9 := fun W (hW : Tab 42 W w.heap.size x) => lower_all w.heap.size x ck lk W hW
          have c10 := fun W (hW : Tab 28 W w1.heap.size x) => rlower_all w1.heap.size x ck lk W hW
          generalize lE ck lk = n at *
          generalize lX x ck lk = y at *
          have A9 : ∀ W, Tab 42 W w.heap.size x → Tab 28 W w1.heap.size x → (W.cell? ⟨M, 1, none⟩ = some (.int .i64 ck) ∧ W.cell? ⟨M, 2, none⟩ = some (.int .i64 lk)) → Below w.heap.size w W →
              Calls Try.prog 11 #[.pointer (some ⟨w.heap.size, 0, none⟩), .int .i64 ck, .int .i64 lk] W fun e w' => e = .returned (.int .i64 n) ∧ (Tab 42 w' w.heap.size y ∧ Tab 28 w' w1.heap.size x ∧ (w'.cell? ⟨M, 1, none⟩ = some (.int .i64 ck) ∧ w'.cell? ⟨M, 2, none⟩ = some (.int .i64 lk)) ∧ Below w.heap.size w w') :=
            fun W h1 h2 h3 h4 => (c9 W h1).mono fun e w' ⟨a1, a2, a3⟩ => ⟨a1, a2, a3.tab h2 (Ne.symm hNR), ⟨(a3.cell (p := ⟨M, 1, none⟩) hMne).trans h3.1, (a3.cell (p := ⟨M, 2, none⟩) hMne).trans h3.2⟩, h4.trans (a3.below (Nat.le_refl _))⟩
          have A10 : ∀ W, Tab 42 W w.heap.size y → Tab 28 W w1.heap.size x → (W.cell? ⟨M, 1, none⟩ = some (.int .i64 ck) ∧ W.cell? ⟨M, 2, none⟩ = some (.int .i64 lk)) → Below w.heap.size w W →
              Calls Try.prog 12 #[.pointer (some ⟨w1.heap.size, 0, none⟩), .int .i64 ck, .int .i64 lk] W fun e w' => e = .returned (.int .i64 n) ∧ (Tab 42 w' w.heap.size y ∧ Tab 28 w' w1.heap.size y ∧ (w'.cell? ⟨M, 1, none⟩ = some (.int .i64 ck) ∧ w'.cell? ⟨M, 2, none⟩ = some (.int .i64 lk)) ∧ Below w.heap.size w w') :=
            fun W h1 h2 h3 h4 => (c10 W h2).mono fun e w' ⟨a1, a2, a3⟩ => ⟨a1, a3.tab h1 hNR, a2, ⟨(a3.cell (p := ⟨M, 1, none⟩) hMne').trans h3.1, (a3.cell (p := ⟨M, 2, none⟩) hMne').trans h3.2⟩, h4.trans (a3.below (Nat.le_of_lt hlt))⟩
          have B9 := A9 wa.drew ht.drew hr.drew ⟨hC, hLL⟩ hb.drew
          clear A9 c9 c10
          go_region_held3 (fun w' => w'.cell? ⟨M, 1, none⟩ = some (.int .i64 ck) ∧ w'.cell? ⟨M, 2, none⟩ = some (.int .i64 lk)) (first | go_keep | assumption)
            (first | (go_at_call 11; refine B9.mono ?_; rintro e w2 ⟨rfl, ht2, hr2, hs2, hb2⟩) | (go_at_call 8; refine (num_any _ _).mono ?_; rintro e w' ⟨rfl, rfl⟩) | (go_at_call 12; refine (A10 _ ht2 hr2 hs2 hb2).mono ?_; rintro e w3 ⟨rfl, ht3, hr3, hs3, hb3⟩))
          have HSZ : Hid (k + 1 ≤ len) := h1
          clear HA A10 B9 hC hLL ht hr hb ht2 hr2 hs2 hb2 hs3
          go_wp2_with fail
          go_loop [7] (fun c => ∃ q : Int, c = .int .i64 q ∧ -1 ≤ q ∧ q ≤ 5) (fun c => (5 - intOf c).toNat)
          case atStart => exact ⟨-1, rfl, by omega, by omega⟩
          case round =>
            obtain ⟨q, rfl, q0, q1⟩ := hrel
            by_cases q4 : q ≤ 4
            · by_cases hq : 0 ≤ q ∧ q < 4
              · obtain ⟨hq0, hq1⟩ := hq
                obtain ⟨j, rfl⟩ := Int.eq_ofNat_of_zero_le hq0
                have hj : j < 4 := by omega
                have hlv := level_yes w.heap.size y j w3 hj ht3
                have hcl := hr3.cell j hj
                generalize y j = yj at *
                go_wp2_with (first | (go_at_call 13; refine hlv.mono ?_; rintro e w' ⟨rfl, rfl⟩) | (go_at_call 14; refine (conn2_yes _ _ hq0 hq1).mono ?_; rintro e w' ⟨rfl, rfl⟩) | (go_at_call 8; refine (num_any _ _).mono ?_; rintro e w' ⟨rfl, rfl⟩))
                go_round
                case rel => exact ⟨j + 1, by go_num, by omega, by omega⟩
                case measure => simp [intOf]; omega
              · have hlv := level_no w.heap.size q w3 hq
                go_wp2_with (first | (go_at_call 13; refine hlv.mono ?_; rintro e w' ⟨rfl, rfl⟩) | (go_at_call 14; refine (conn2_no _ _ hq).mono ?_; rintro e w' ⟨rfl, rfl⟩) | (go_at_call 8; refine (num_any _ _).mono ?_; rintro e w' ⟨rfl, rfl⟩))
                go_round
                case rel => exact ⟨q + 1, by go_num, by omega, by omega⟩
                case measure => simp [intOf]; omega
            · go_wp2
              go_roundw
              case rel => exact ⟨k + 1, y, by go_num, HSZ.out, ht3, hr3, hb3⟩
              case measure => simp [intOf]; omega
      · go_wp2_with (go_at_call 15; refine (wakes_any _).mono ?_; rintro e w' ⟨rfl, hb2⟩)
        go_ret
        exact ⟨rfl, hb.trans (hb2.mono hb.size)⟩
    · go_wp2_with (go_at_call 15; refine (wakes_any _).mono ?_; rintro e w' ⟨rfl, hb2⟩)
      go_ret
      exact ⟨rfl, hb.trans (hb2.mono hb.size)⟩
end Go.Proofs.Ytoocokmkghfgmaa

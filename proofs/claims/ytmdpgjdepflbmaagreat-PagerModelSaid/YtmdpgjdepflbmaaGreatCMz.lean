/-
  PagerModel: the law's walk.
-/
import Derived.Test.YtmdpgjdepflbmaaGreatCT
import Derived.Test.YtmdpgjdepflbmaaGreatCS
namespace Go.Proofs.YtmdpgjdepflbmaaGreat
open Go.RowKit Go.Maps Go.Proofs.YtmdpgjdepflbmaaGreatW.PrintWords Go.Proofs.YtmdpgjdepflbmaaGreatW.PrintLast Go.Proofs.YtmdpgjdepflbmaaGreatW.PrintMore
open Go.Proofs.YtmdpgjdepflbmaaGreat.PPagerFolds
set_option linter.unusedVariables false
set_option linter.unusedSimpArgs false

theorem mode12_some (a : Int) (w : World) : Calls Tryz.prog 17 #[.int .i64 a] w fun e w' => ∃ m : Int, Aside0 (m = 1 ∨ m = 2) ∧ e = .returned (.int .i64 m) ∧ ∃ n, w' = w.drewN n := by
  refine (mode12_any a w).mono ?_
  rintro e w' ⟨rfl, n, rfl⟩
  exact ⟨_, ⟨(mode12_or a).2⟩, rfl, n, rfl⟩
set_option maxHeartbeats 8000000 in
set_option maxRecDepth 100000 in
theorem pmodel_any (md : Int) (A A1 A2 : Option Addr) (len cap n1 k1 n2 k2 : Nat) (D0 C0 L0 : Nat → Int) (w : World) (hl0 : len ≤ 9223372036854775807) (hA : Acts w A len D0 C0 L0) :
    Calls Tryz.prog 7 #[.agg #[.int .i64 md, .slice A len cap, .slice A1 n1 k1, .slice A2 n2 k2]] w fun e w' => e = .returned (.bool true) ∧ Below w.heap.size w w' := by
  have HA := Aside0.mk hA
  clear hA
  obtain ⟨bx, hbx⟩ : ∃ bx, bx = w.heap.size := ⟨_, rfl⟩
  obtain ⟨W, hW⟩ : ∃ W, W = w.alloc (.cells #[.int .i64 md, .slice A len cap, .slice A1 n1 k1, .slice A2 n2 k2] 62) := ⟨_, rfl⟩
  have HD := Aside0.mk (dnew_nil W)
  have HW := Aside0.mk (And.intro hbx hW)
  clear hbx
  go_enter Tryz.func7, Tryz.ntmps7
  go_wp2_with fail
  rw [← hW]
  refine (HD.out).mono ?_
  rintro e w1 ⟨rfl, hD, hb⟩
  have hbW : W.heap[bx]? = some (.cells #[.int .i64 md, .slice A len cap, .slice A1 n1 k1, .slice A2 n2 k2] 62 (0, 0)) := by rw [HW.out.1, HW.out.2]; exact heap_alloc_new w _
  have hbw : Below w.heap.size w W := by rw [HW.out.2]; exact (Below.refl _ _).alloc (Nat.le_refl _) _
  have HB := Aside0.mk (And.intro hbW hbw)
  have hDJ : Dk W (fun _ _ => True) (W.heap.size + 2) [] 0 0 w1 := Dk.start hD.tight' (fun k hk => hk) hb ⟨fun _ _ => trivial, fun _ _ => trivial⟩ (fun P => trivial)
  obtain ⟨d0, hd0⟩ : ∃ d0, d0 = W.heap.size + 2 := ⟨_, rfl⟩
  rw [← hd0] at hDJ ⊢
  have e0 : w1.cell? ⟨bx, 0, none⟩ = some (.int .i64 md) := cell_of_row w1 bx 0 _ _ (0, 0) ((hb.block bx (heap_lt hbW)).trans hbW)
  have H1 := Aside0.mk hDJ
  clear hD hb hW hbW hbw hDJ hd0
  rw [← HW.out.1]
  go_wp2_with (first
    | (go_at_call 15; refine (num12_any _ _).mono ?_; rintro e w' ⟨rfl, rfl⟩)
    | (go_at_call 17; refine (mode12_some _ _).mono ?_; rintro e w' ⟨mo, hmo, rfl, m0, rfl⟩))
  refine (o_open (H1.out.drewN m0) (by omega) (by omega) mo hmo.out).mono ?_
  rintro e w3 ⟨p, rfl, hS3⟩
  have hM0 := MShut.start (hS3.more (Nat.le_refl _) (by omega))
  obtain ⟨g, hg⟩ : ∃ g, g = w3.heap.size := ⟨_, rfl⟩
  obtain ⟨W3, hW3⟩ : ∃ W3, W3 = w3.alloc (.cells #[.slice none 0 0, .bool false, .slice none 0 0, .slice none 0 0, .slice none 0 0] 73) := ⟨_, rfl⟩
  rw [← hg, ← hW3] at hM0
  have HM0 := Aside0.mk hM0
  clear hS3 hM0
  go_wp2
  rw [← hg, ← hW3]
  clear hg hW3
  go_loopw [5, 6, 8] (fun v5 v6 v8 wr => ∃ (i p : Nat) (mo : Int), v5 = .int .i64 mo ∧ v6 = dp p ∧ v8 = .int .i64 i ∧ i ≤ len ∧ i ≤ 40 ∧ Aside0 (MO W g p d0 mo i wr)) (fun _ _ v8 _ => len - (intOf v8).toNat)
  case atStart => exact ⟨0, p, mo, rfl, rfl, rfl, by omega, by omega, ⟨.inl ⟨_, _, _, _, _, HM0.out⟩⟩⟩
  case round =>
    clear HM0
    obtain ⟨i, p, mo, rfl, rfl, rfl, hi, hi40, HI⟩ := hrel
    have hbxr := (HI.out.below.block bx (heap_lt HB.out.1)).trans HB.out.1
    have e1 : wr.cell? ⟨bx, 1, none⟩ = some (.slice A len cap) := cell_of_row wr bx 1 _ _ (0, 0) hbxr
    clear hbxr
    by_cases h1 : i < len ∧ i < 40
    · obtain ⟨h1, h2⟩ := h1
      have q6 : decide ((i : Int) < 40) = true := decide_eq_true (by omega)
      obtain ⟨b, off, rfl, hbw, hcells⟩ := HA.out (by omega)
      obtain ⟨hc0, hc1, hc2⟩ := hcells i (by omega)
      have HC1 := Aside0.mk (fun (w' : World) (h : Below W.heap.size W w') => And.intro (cell_of_row w' bx 1 _ _ (0, 0) ((h.block bx (heap_lt HB.out.1)).trans HB.out.1)) (((HB.out.2.trans (h.mono HB.out.2.size)).cell (p := ⟨b, off + i * 3 + 1, none⟩) hbw).trans hc1))
      have hbl := HB.out.2.trans (HI.out.below.mono HB.out.2.size)
      have c0 : wr.cell? ⟨b, off + i * 3, none⟩ = some (.int .i64 (D0 i)) := (hbl.cell (p := ⟨b, off + i * 3, none⟩) hbw).trans hc0
      have c1 : wr.cell? ⟨b, off + i * 3 + 1, none⟩ = some (.int .i64 (C0 i)) := (hbl.cell (p := ⟨b, off + i * 3 + 1, none⟩) hbw).trans hc1
      have c2 : wr.cell? ⟨b, off + i * 3 + 2, none⟩ = some (.int .i64 (L0 i)) := (hbl.cell (p := ⟨b, off + i * 3 + 2, none⟩) hbw).trans hc2
      clear hcells hc0 hc1 hc2 hbw hbl
      generalize D0 i = dk at *
      generalize C0 i = ck at *
      generalize L0 i = lk at *
      obtain ⟨q, hq⟩ : ∃ q, q = (IntKind.u64.wrap dk) % 11 := ⟨_, rfl⟩
      have HD1 := Aside0.mk (fun V : World => within_d hq V)
      clear hq
      by_cases h9 : q = 9
      · subst h9
        rcases HI.out with ⟨Ad, nd, cd, Dd, C, hM⟩ | ⟨Ad, nd, cd, Dd, C, hM⟩
        · have o1 := hM.open_
          have HM := Aside0.mk hM
          clear hM HI
          go_wp2_with fail
          refine (HD1.out _).mono ?_
          rintro e w' ⟨rfl, m1, rfl⟩
          go_wp2_with (go_at_call 17; refine (mode12_some _ _).mono ?_; rintro e w' ⟨mo2, hmo2, rfl, m0, rfl⟩)
          refine ((HM.out.step (pw_below_drewN (Below.refl _ _) _)).again (by omega) mo2 hmo2.out).mono ?_
          rintro e w4 ⟨p2, rfl, hM2⟩
          have H2 := Aside0.mk hM2
          clear hM2
          go_wp2_with fail
          refine (H2.out.count).mono ?_
          rintro e w5 ⟨rfl, rfl⟩
          go_wp2_with fail
          go_roundw
          case rel => exact ⟨i + 1, p2, mo2, rfl, rfl, by go_num, by omega, by omega, ⟨.inl ⟨_, _, _, _, _, H2.out⟩⟩⟩
          case measure => simp [intOf]; omega
        · have o1 := hM.open_
          have HM := Aside0.mk hM
          clear hM HI
          go_wp2_with fail
          refine (HD1.out _).mono ?_
          rintro e w' ⟨rfl, m1, rfl⟩
          go_wp2_with fail
          refine ((HM.out.step (pw_below_drewN (Below.refl _ _) _)).roll).mono ?_
          rintro e w3 ⟨rfl, o3, z3, hM3, hS3⟩
          have f1 := (HC1.out _ hM3.below).1
          have f2 := (HC1.out _ hM3.below).2
          have H3 := Aside0.mk hM3
          clear hM3 hS3
          go_wp2_with (first
            | (go_at_call 15; refine (num12_any _ _).mono ?_; rintro e w' ⟨rfl, rfl⟩)
            | (go_at_call 17; refine (mode12_some _ _).mono ?_; rintro e w' ⟨mo2, hmo2, rfl, m0, rfl⟩))
          refine ((H3.out.step (pw_below_drewN (Below.refl _ _) _)).again (by omega) mo2 hmo2.out).mono ?_
          rintro e w4 ⟨p2, rfl, hM2⟩
          have H2 := Aside0.mk hM2
          clear hM2
          go_wp2_with fail
          refine (H2.out.count).mono ?_
          rintro e w5 ⟨rfl, rfl⟩
          go_wp2_with fail
          go_roundw
          case rel => exact ⟨i + 1, p2, mo2, rfl, rfl, by go_num, by omega, by omega, ⟨.inl ⟨_, _, _, _, _, H2.out⟩⟩⟩
          case measure => simp [intOf]; omega
      · have q9 : (q == 9) = false := by simpa using h9
        clear h9
        go_wp2_with fail
        refine (HD1.out _).mono ?_
        rintro e w' ⟨rfl, m1, rfl⟩
        go_wp2_with fail
        refine (mact_any (HI.out.drewN _) (by omega) dk ck lk).mono ?_
        rintro e w4 ⟨rfl, hM4⟩
        have H4 := Aside0.mk hM4
        clear hM4
        go_wp2_with fail
        go_roundw
        case rel => exact ⟨i + 1, p, mo, rfl, rfl, by go_num, by omega, by omega, ⟨H4.out⟩⟩
        case measure => simp [intOf]; omega
    · rcases (show len ≤ i ∨ (i < len ∧ 40 ≤ i) by omega) with h2 | h2
      all_goals
        (try have q6 : decide ((i : Int) < 40) = false := decide_eq_false (by omega))
        clear h1
        go_wp2_with (go_at_call 29; refine (wakes12_any _).mono ?_; rintro e w5 ⟨rfl, hb5⟩; have H5 := Aside0.mk hb5; clear hb5)
        go_ret
        have hbl := HB.out.2.trans (HI.out.below.mono HB.out.2.size)
        exact ⟨rfl, hbl.trans (H5.out.mono hbl.size)⟩
end Go.Proofs.YtmdpgjdepflbmaaGreat

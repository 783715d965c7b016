/-
  The walk of DiskTroubles.
-/
import Derived.Test.YtgpniaplpibhfaaActs
import Derived.Deep.DeepCutAuto
import Derived.Deep.RegionHeld3
namespace Go.Proofs.Ytgpniaplpibhfaa
open Go.RowKit Go.Maps Go.Proofs.YtgpniaplpibhfaaW.PrintWords Go.Proofs.YtgpniaplpibhfaaW.PrintLast Go.Proofs.YtgpniaplpibhfaaW.PrintMore
open Go.Proofs.Ytgpniaplpibhfaa.PDiskSafe
set_option linter.unusedVariables false
set_option linter.unusedSimpArgs false

set_option maxRecDepth 100000 in
set_option maxHeartbeats 1000000 in
theorem troubles_any {w : World} {A0 : Option Addr} {c0 : Nat} {F : List S50} {A1 : Option Addr} {c1 : Nat} {T : List S39} {A2 : Option Addr} {c2 : Nat} {S : List S33} (h : In w A0 c0 F A1 c1 T A2 c2 S) :
    Calls Try.prog 3 #[.agg #[.slice A0 F.length c0, .slice A1 T.length c1, .slice A2 S.length c2]] w fun e w' => e = .returned (.bool true) ∧ Below w.heap.size w w' := by
  obtain ⟨wl, hwl⟩ : ∃ wl : World, wl = w.alloc (.cells #[.slice A0 F.length c0, .slice A1 T.length c1, .slice A2 S.length c2] 26) := ⟨_, rfl⟩
  have hb0 : Below w.heap.size w wl := by rw [hwl]; exact below_alloc (Below.refl _ _) _
  have HB0 := Aside0.mk hb0
  have HI : Aside0 (In wl A0 c0 F A1 c1 T A2 c2 S) := ⟨by rw [hwl]; exact h.below (below_alloc (Below.refl _ _) _)⟩
  have HX : Aside0 (∀ W, Below wl.heap.size wl W → W.cell? ⟨w.heap.size, 0, none⟩ = some (.slice A0 F.length c0) ∧ W.cell? ⟨w.heap.size, 2, none⟩ = some (.slice A2 S.length c2)) := ⟨fun W hb => by
    have hlt : w.heap.size < wl.heap.size := by rw [hwl]; simp
    refine ⟨(hb.cell (p := ⟨w.heap.size, 0, none⟩) hlt).trans ?_, (hb.cell (p := ⟨w.heap.size, 2, none⟩) hlt).trans ?_⟩
    · rw [hwl]; exact cell_of_row _ _ 0 _ 26 (0, 0) (heap_alloc_new w _)
    · rw [hwl]; exact cell_of_row _ _ 2 _ 26 (0, 0) (heap_alloc_new w _)⟩
  have HWL := Aside0.mk hwl
  clear h hb0
  go_enter Try.func3, Try.ntmps3
  go_wp2_with fail
  rw [← hwl]
  clear hwl
  refine (HI.out.heavy).mono ?_
  rintro e W1 ⟨r, rfl, hl, hb⟩
  have HB1 := Aside0.mk hb
  cases r with
  | true =>
    clear hl hb
    go_wp2
    go_ret
    exact ⟨rfl, HB0.out.trans (HB1.out.mono HB0.out.size)⟩
  | false =>
    have HL := Aside0.mk (hl rfl)
    obtain ⟨g0, g2⟩ := HX.out W1 hb
    clear hl hb
    go_wp2_with fail
    refine (may_any (Kd.C_below HI.out.h0 HB1.out) HI.out.hc0 HI.out.hN).mono ?_
    rintro e W2 ⟨r2, n2, rfl, hF, hW2⟩
    have HB2 : Aside0 (Below wl.heap.size wl W2) := ⟨by rw [hW2]; exact pw_below_drewN HB1.out _⟩
    obtain ⟨f0, f2⟩ := HX.out W2 HB2.out
    clear g0 g2 hW2 HB1
    cases r2 with
    | false =>
      clear hF
      go_wp2
      go_ret
      exact ⟨rfl, HB0.out.trans (HB2.out.mono HB0.out.size)⟩
    | true =>
      have HF := Aside0.mk (hF rfl)
      clear hF
      by_cases h8 : 8 < F.length
      · have b8 : decide ((8 : Int) < (F.length : Int)) = true := by simp; omega
        clear h8
        go_wp2
        go_ret
        exact ⟨rfl, HB0.out.trans (HB2.out.mono HB0.out.size)⟩
      · have b8 : decide ((8 : Int) < (F.length : Int)) = false := by simp; omega
        by_cases hS0 : S.length = 0
        · have bS : ((S.length : Int) == 0) = true := by simp [hS0]
          clear hS0 h8
          go_wp2
          go_ret
          exact ⟨rfl, HB0.out.trans (HB2.out.mono HB0.out.size)⟩
        · have bS : ((S.length : Int) == 0) = false := by rw [beq_eq_false_iff_ne]; omega
          have hS0' : 0 < S.length := by omega
          clear hS0 h8
          obtain ⟨ad, A4, c4, A5, c5, e, q0, q1, q2, q3, q4, q5, hl4, hi4, hl5, hi5⟩ := at_T33 (Kd.C_below HI.out.h2 HB2.out) 0 (by omega) (by omega)
          cases e
          have e0 : ad.add (Int.toNat 0 * 6) = ad := by simp [Addr.add]
          rw [e0] at q2 q3
          clear q0 q1 q4 q5 hl4 hi4 hl5 hi5 e0
          obtain ⟨m1, m10, m11, hm1⟩ := within_any (rd_T33 S 0).f2 10 (by omega) (by omega)
          obtain ⟨m2, m20, m21, hm2⟩ := within_any (rd_T33 S 0).f3 2 (by omega) (by omega)
          have HM1 := Aside0.mk hm1
          have HM2 := Aside0.mk hm2
          clear hm1 hm2
          go_upto_region 5 with (first
            | (go_at_call_of 8 (rd_T33 S 0).f2; refine (HM1.out _).mono ?_; rintro e w' ⟨rfl, n, rfl⟩)
            | (go_at_call_of 8 (rd_T33 S 0).f3; refine (HM2.out _).mono ?_; rintro e w' ⟨rfl, n, rfl⟩))
          have HS0 := Aside0.mk hS0'
          have HF2 : ∀ n, Kd.C k50 (W2.drewN n) A0 F.length F := fun n => Kd.C_drewN (Kd.C_below HI.out.h0 HB2.out) n
          have HFC := Aside0.mk HF2
          clear HF2 q2 q3 hS0' bS b8
          go_wp2_with (first
            | (go_at_call 9
               refine (new_T (HFC.out _) HI.out.hc0 HF.out (by omega) (by omega) (by omega) (by omega)).mono ?_
               rintro e W3 ⟨d, ok, rfl, hD, hB⟩
               have HN := Aside0.mk (And.intro hD hB)
               clear hD hB)
            | (go_at_call 10; refine (num_any _ _).mono ?_; rintro e w' ⟨rfl, n, rfl⟩))
          obtain ⟨ts, hts⟩ : ∃ ts : List S39, ts = [⟨1 + m1, 1 + m2⟩] := ⟨_, rfl⟩
          have HJ0 : Aside0 (DJ ts 0 d wl.heap.size (newM F ts) ok W3 ∧ Below wl.heap.size wl W3) := ⟨by
            obtain ⟨hD, hB⟩ := HN.out
            have hb2 := HB2.out
            rw [hts]
            exact ⟨⟨hD.at_, fun j hj => Nat.le_trans hb2.size (hD.lo j hj), hD.ok⟩, (pw_below_drewN hb2 _).trans (hB.mono hb2.size)⟩⟩
          have HTS := Aside0.mk hts
          clear hts HN HFC HB2 f0 f2 HF
          go_loopg [7] 31 (fun kq v7 w' => ∃ x : Int, v7 = .int .i64 x ∧ Aside0 (∃ (i : Nat) (M : DM) (okq : Nat → Prop), x = i ∧ i + kq = 31 ∧ DJ ts i d wl.heap.size M okq w' ∧ Below wl.heap.size wl w'))
          case atStart => exact ⟨0, rfl, ⟨0, _, ok, rfl, rfl, ⟨HJ0.out.1.at_.drewN _, HJ0.out.1.lo, HJ0.out.1.ok⟩, pw_below_drewN HJ0.out.2 _⟩⟩
          case round =>
            obtain ⟨x, rfl, HI2⟩ := hrel
            obtain ⟨i, M, okq, hxi, hik, hD, hB⟩ := HI2.out
            obtain ⟨_, ha⟩ := HX.out wr hB
            by_cases hgo : i < S.length ∧ i < 30
            · have t1 : decide (x < (S.length : Int)) = true := by simp; omega
              have t2 : decide (x < 30) = true := by simp; omega
              cases gk with
              | zero => omega
              | succ k1 =>
              have p1 : 0 ≤ x := by omega
              have p2 : x < (S.length : Int) := by omega
              obtain ⟨ad', A4, c4, A5, c5, e, q0, q1, q2, q3, q4, q5, hl4, hi4, hl5, hi5⟩ := at_T33 HI.out.h2 x p1 p2
              cases e
              replace q0 := (hB.cell (World.block_lt_of_cell? _ _ q0)).trans q0
              replace q1 := (hB.cell (World.block_lt_of_cell? _ _ q1)).trans q1
              replace q2 := (hB.cell (World.block_lt_of_cell? _ _ q2)).trans q2
              replace q3 := (hB.cell (World.block_lt_of_cell? _ _ q3)).trans q3
              replace q4 := (hB.cell (World.block_lt_of_cell? _ _ q4)).trans q4
              replace q5 := (hB.cell (World.block_lt_of_cell? _ _ q5)).trans q5
              have hlt : w.heap.size < wr.heap.size := World.block_lt_of_cell? _ _ ha
              have HDX := Aside0.mk (And.intro hxi (And.intro hik (And.intro hgo (And.intro hD (And.intro hB (And.intro hi4 hi5))))))
              clear HI2 hxi hik hgo hD hB hi4 hi5
              have hlx : x.toNat < S.length := by omega
              have hacts := HL.out.acts x.toNat hlx (by have := HDX.out.2.2.1; have := HDX.out.1; omega)
              have hsz := (HI.out.hA x.toNat hlx).2.2.2.1
              rw [show ((x.toNat : Nat) : Int) = x from by omega] at hacts hsz
              obtain ⟨x1, hx1w⟩ : ∃ x1, IntKind.i64.wrap (x + 1) = x1 := ⟨_, rfl⟩
              have HX1 : Aside0 (x1 = x + 1) := ⟨by rw [← hx1w, IntKind.wrap_i64]; have := HDX.out.2.2.1; have := HDX.out.1; omega⟩
              generalize rd_T33 S x = y at *
              obtain ⟨m4, m40, m41, hm4⟩ := within_any y.f0 4 (by omega) (by omega)
              have HM4 := Aside0.mk hm4
              have HY := Aside0.mk (And.intro hacts hsz)
              have HL4 := Aside0.mk hl4
              have HL5 := Aside0.mk hl5
              clear hm4 hacts hsz hlx hl4 hl5
              go_upto_region 12 with fail
              clear q0 q1 q2 q3 q4 q5 t1 t2 ha p1 p2
              obtain ⟨g, hg⟩ : ∃ g, g = wr.heap.size := ⟨_, rfl⟩
              obtain ⟨W10, hW10⟩ : ∃ W10, W10 = wr.alloc (.cells #[.int .i64 y.f0, .string y.f1, .int .i64 y.f2, .int .i64 y.f3, .slice A4 y.f4.length c4, .slice A5 y.f5.length c5] 33) := ⟨_, rfl⟩
              rw [← hW10, ← hg]
              have hbox : W10.heap[g]? = some (.cells #[.int .i64 y.f0, .string y.f1, .int .i64 y.f2, .int .i64 y.f3, .slice A4 y.f4.length c4, .slice A5 y.f5.length c5] 33 (0, 0)) := by rw [hW10, hg]; exact heap_alloc_new wr _
              have hb10 : Below wr.heap.size wr W10 := by rw [hW10]; exact below_alloc (Below.refl _ _) _
              obtain ⟨ok1, hok1⟩ : ∃ ok1 : Nat → Prop, ok1 = fun k => okq k ∧ k < g := ⟨_, rfl⟩
              have HD10 : Aside0 (DJ ts i d wl.heap.size M ok1 W10) := ⟨by rw [hok1, hg]; exact HDX.out.2.2.2.1.tight.below hb10⟩
              have HOK : Aside0 (∀ k, ok1 k → k < g) := ⟨by rw [hok1]; exact fun k hk => hk.2⟩
              have HG : Aside0 (g < W10.heap.size ∧ wl.heap.size ≤ g ∧ Below wl.heap.size wl W10) := ⟨by
                have h1 := HDX.out.2.2.2.2.1
                exact ⟨heap_lt hbox, by rw [hg]; exact h1.size, h1.trans (hb10.mono h1.size)⟩⟩
              have HC4 : Aside0 (U8.C W10 A4 y.f4.length y.f4) := ⟨Kd.C_below HDX.out.2.2.2.2.2.1 HG.out.2.2⟩
              have HC5 : Aside0 (I64.C W10 A5 y.f5.length y.f5) := ⟨Kd.C_below HDX.out.2.2.2.2.2.2 HG.out.2.2⟩
              have HBX := Aside0.mk hbox
              have hc5 : W10.cell? ⟨g, 5, none⟩ = some (.slice A5 y.f5.length c5) := cell_of_row _ _ 5 _ 33 (0, 0) hbox
              clear hW10 hg hbox hb10 hok1 hlt
              go_upto_region 13 with (go_at_call 11
                                      refine (crash_dj HD10.out HC5.out HL5.out (C_lt HC5.out)).mono ?_
                                      rintro e W11 ⟨A6, c6, rfl, hS, hB11⟩
                                      have HS := Aside0.mk (And.intro hS hB11)
                                      clear hS hB11 hc5)
              have HD11 := Aside0.mk (HD10.out.below HS.out.2)
              have hbx11 : W11.heap[g]? = _ := (HS.out.2.block g HG.out.1).trans HBX.out
              have k0 : W11.cell? ⟨g, 0, none⟩ = some (.int .i64 y.f0) := cell_of_row _ _ 0 _ 33 (0, 0) hbx11
              have k1' : W11.cell? ⟨g, 1, none⟩ = some (.string y.f1) := cell_of_row _ _ 1 _ 33 (0, 0) hbx11
              have k2 : W11.cell? ⟨g, 2, none⟩ = some (.int .i64 y.f2) := cell_of_row _ _ 2 _ 33 (0, 0) hbx11
              have k3 : W11.cell? ⟨g, 3, none⟩ = some (.int .i64 y.f3) := cell_of_row _ _ 3 _ 33 (0, 0) hbx11
              have k4 : W11.cell? ⟨g, 4, none⟩ = some (.slice A4 y.f4.length c4) := cell_of_row _ _ 4 _ 33 (0, 0) hbx11
              have HBX11 := Aside0.mk hbx11
              clear hbx11
              go_upto_block 2 with (first
                | (go_at_call 12; refine (strokes_any HD11.out.at_).mono ?_; rintro e w' ⟨rfl, rfl⟩)
                | (go_at_call 8; refine (HM4.out _).mono ?_; rintro e w' ⟨rfl, n, rfl⟩))
              go_cut [11] (fun v11 wc => ∃ r, v11 = .int .i64 r ∧ Aside0 (ActR ts (nm y.f1) i d wl.heap.size M ok1 W11 r wc))
              case first =>
                have hm : m4 = 0 ∨ m4 = 1 ∨ m4 = 2 ∨ m4 = 3 := by omega
                have hB11 : Aside0 (wl.heap.size ≤ W11.heap.size) := ⟨by have h1 := HS.out.2.size; have h2 := HG.out.2.2.size; omega⟩
                have hi9 : Aside0 (i < 1000000) := ⟨by have := HDX.out.2.2.1; omega⟩
                rcases hm with rfl | rfl | rfl | rfl
                · go_wp2_with (go_at_call 13; refine ((act_trunc (HD11.out.drewN _) hB11.out hi9.out HY.out.2 _).mono fun e w' hA => hA.to (pw_below_drewN (Below.refl _ _) _)).mono ?_; rintro e w' ⟨r, rfl, hr⟩; have HR := Aside0.mk hr; clear hr)
                  go_meet
                  exact ⟨_, rfl, HR⟩
                · go_wp2_with (go_at_call 14; refine ((act_sync (HD11.out.drewN _) hB11.out hi9.out HY.out.2).mono fun e w' hA => hA.to (pw_below_drewN (Below.refl _ _) _)).mono ?_; rintro e w' ⟨r, rfl, hr⟩; have HR := Aside0.mk hr; clear hr)
                  go_meet
                  exact ⟨_, rfl, HR⟩
                · go_wp2_with (go_at_call 15; refine ((act_del (HD11.out.drewN _) hB11.out hi9.out HY.out.2).mono fun e w' hA => hA.to (pw_below_drewN (Below.refl _ _) _)).mono ?_; rintro e w' ⟨r, rfl, hr⟩; have HR := Aside0.mk hr; clear hr)
                  go_meet
                  exact ⟨_, rfl, HR⟩
                · have HCP : Aside0 (∀ W, Below W11.heap.size W11 W → Calls Try.prog 17 #[.slice A4 y.f4.length c4] W fun e w' => ∃ A c, e = .returned (.slice A y.f4.length c) ∧ Below W11.heap.size W11 w' ∧ (U8.C w' A y.f4.length y.f4 ∧ ∀ ad, A = some ad → W11.heap.size ≤ ad.block ∧ ad.block < w'.heap.size) ∧ w'.cell? ⟨g, 1, none⟩ = some (.string y.f1) ∧ w'.cell? ⟨g, 2, none⟩ = some (.int .i64 y.f2) ∧ w'.cell? ⟨g, 4, none⟩ = some (.slice A4 y.f4.length c4)) := ⟨fun W hW => by
                    have hb1 := (HS.out.2.mono (Nat.le_refl _)).trans (hW.mono HS.out.2.size)
                    refine (copy_src (Kd.C_below HC4.out hb1) HL4.out HY.out.1.1).mono ?_
                    rintro e w' ⟨A, c, he, ⟨h1, h2⟩, h3⟩
                    have hb2 := hW.trans (h3.mono hW.size)
                    have hbx : w'.heap[g]? = _ := (hb2.block g (by have := HS.out.2.size; have := HG.out.1; omega)).trans HBX11.out
                    exact ⟨A, c, he, hb2, ⟨h1, fun ad e => ⟨by have := (h2 ad e).1; have := hW.size; omega, (h2 ad e).2⟩⟩, cell_of_row _ _ 1 _ 33 (0, 0) hbx, cell_of_row _ _ 2 _ 33 (0, 0) hbx, cell_of_row _ _ 4 _ 33 (0, 0) hbx⟩⟩
                  have HWR : Aside0 (∀ W A c, Below W11.heap.size W11 W → (U8.C W A y.f4.length y.f4 ∧ ∀ ad, A = some ad → W11.heap.size ≤ ad.block ∧ ad.block < W.heap.size) → Calls Try.prog 16 #[dptr d, .string y.f1, .int .i64 y.f2, .slice A y.f4.length c] W fun e w' => ∃ r, e = .returned (.int .i64 r) ∧ ActR ts (nm y.f1) i d wl.heap.size M ok1 W11 r w' ∧ w'.cell? ⟨g, 1, none⟩ = some (.string y.f1) ∧ w'.cell? ⟨g, 2, none⟩ = some (.int .i64 y.f2) ∧ w'.cell? ⟨g, 4, none⟩ = some (.slice A4 y.f4.length c4)) := ⟨fun W A c hW hs =>
                    (act_write (HD11.out.below hW) (Nat.le_trans hB11.out hW.size) hi9.out HY.out.2 _ ⟨hs.1, fun ad e hk => by have h1 := (hs.2 ad e).1; have h2 := HOK.out _ hk; have h3 := HG.out.1; have h4 := HS.out.2.size; omega⟩ (fun ad e => (hs.2 ad e).2)).mono fun e w' hA => by
                      obtain ⟨r, he, hr⟩ := hA.to hW
                      obtain ⟨M', ok', q1, q2, q3, q4⟩ := hr
                      have hbx : w'.heap[g]? = _ := (q4.block g (by have := HS.out.2.size; have := HG.out.1; omega) (fun hk => Nat.lt_irrefl _ (HOK.out g hk))).trans HBX11.out
                      exact ⟨r, he, ⟨M', ok', q1, q2, q3, q4⟩, cell_of_row _ _ 1 _ 33 (0, 0) hbx, cell_of_row _ _ 2 _ 33 (0, 0) hbx, cell_of_row _ _ 4 _ 33 (0, 0) hbx⟩⟩
                  clear k0 k3
                  go_wp2
                  go_region_held3 (fun w' => w'.cell? ⟨g, 1, none⟩ = some (.string y.f1) ∧ w'.cell? ⟨g, 2, none⟩ = some (.int .i64 y.f2) ∧ w'.cell? ⟨g, 4, none⟩ = some (.slice A4 y.f4.length c4)) (first | go_keep | assumption)
                    (first
                      | (go_at_call 17; refine (HCP.out _ (by first | exact pw_below_drewN (Below.refl _ _) _ | exact below_drew (pw_below_drewN (Below.refl _ _) _))).mono ?_; rintro e w2 ⟨A, c, rfl, hb2, hs2, ha2, hb2', hc2'⟩)
                      | (go_at_call 16; refine (HWR.out _ _ _ hb2 hs2).mono ?_; rintro e w' ⟨r, rfl, hr, ha3, hb3', hc3'⟩; have HR := Aside0.mk hr; clear hr))
                  go_wp2
                  go_meet
                  exact ⟨_, rfl, HR⟩
              case rest =>
              obtain ⟨r, rfl, HR⟩ := hcut
              obtain ⟨W20, hW20⟩ : ∃ W20 : World, W20 = wc := ⟨_, rfl⟩
              subst hW20
              obtain ⟨M', ok2, hO, hD2, hk2, hF2⟩ := HR.out
              have hsz11 := HS.out.2.size
              have hS2 : Kd.S kF 50 W20 W10.heap.size (fun k => W10.heap.size ≤ k) (.slice A6 (crashL M.fs y.f5).length c6) (crashL M.fs y.f5) := Kd.S_mono (Kd.S_step (Kd.S_bound HS.out.1) (fun k hk hlt => hF2.block k hlt (fun ho => by have h1 := HOK.out k ho; have h2 := hk.2.1; have h3 := HG.out.1; omega))) (fun k hk => hk.2.1)
              have hbx2 : W20.heap[g]? = _ := (hF2.block g (by have := HG.out.1; omega) (fun hk => Nat.lt_irrefl _ (HOK.out g hk))).trans HBX11.out
              have hB2 : Below wl.heap.size wl W20 := by
                have h1 := HG.out.2.2
                have h2 := h1.trans (HS.out.2.mono h1.size)
                exact h2.trans (hF2.below (fun k hk => HD11.out.lo k hk) h2.size)
              have hC5 : I64.C W20 A5 y.f5.length y.f5 := Kd.C_below HDX.out.2.2.2.2.2.2 hB2
              have HS2 := Aside0.mk hS2
              have HB2 := Aside0.mk hB2
              have HC52 := Aside0.mk hC5
              have HD2 := Aside0.mk hD2
              have b5 : W20.cell? ⟨g, 5, none⟩ = some (.slice A5 y.f5.length c5) := cell_of_row _ _ 5 _ 33 (0, 0) hbx2
              have HTR := Aside0.mk (HD10.out.ok.crash HD10.out.at_ y.f5)
              have hst0 := HD10.out.ok.st0
              have hst1 := HD10.out.ok.st1
              have hi30 : i < 30 := HDX.out.2.2.1.2
              have hfin : ∀ W, Below W20.heap.size W20 W → ∃ x' : Int, Value.int .i64 x1 = .int .i64 x' ∧ Aside0 (∃ (i : Nat) (M : DM) (okq : Nat → Prop), x' = i ∧ i + k1 = 31 ∧ DJ ts i d wl.heap.size M okq W ∧ Below wl.heap.size wl W) := fun W hW =>
                ⟨x1, rfl, ⟨i + 1, M', ok2, by rw [HX1.out, HDX.out.1]; omega, by have := HDX.out.2.1; omega, HD2.out.below hW, HB2.out.trans (hW.mono HB2.out.size)⟩⟩
              have HFIN := Aside0.mk hfin
              have HH := Aside0.mk hO.how
              clear hfin hO hD2 hk2 hF2 hS2 hB2 hC5 hbx2 k0 k1' k2 k3 k4
              generalize hst : M.st = st at *
              have HST := Aside0.mk hst
              clear hst
              rcases HH.out with ⟨hr, hMM⟩ | ⟨hr, hst', hh⟩
              · have hs' : M'.st = st := by rw [hMM]; exact HST.out
                have hstr : Aside0 (∀ n, Calls Try.prog 12 #[dptr d] (W20.drewN n) fun e w' => e = .returned (.int .i64 st) ∧ W20.drewN n = w') := ⟨fun n => by
                  have := strokes_any (HD2.out.drewN n).at_
                  rw [hs'] at this; exact this⟩
                have hstr0 : Aside0 (Calls Try.prog 12 #[dptr d] W20 fun e w' => e = .returned (.int .i64 st) ∧ W20 = w') := ⟨hstr.out 0⟩
                clear hs' hMM HH b5
                subst hr
                go_wp2_with (first
                  | (go_at_call 12; refine hstr0.out.mono ?_; rintro e w' ⟨rfl, rfl⟩)
                  | (go_at_call 10; refine (num_any _ _).mono ?_; rintro e w' ⟨rfl, n, rfl⟩))
                go_roundg k1
                case measure => omega
                case rel => exact HFIN.out _ (pw_below_drewN (Below.refl _ _) _)
              · have hstr0 : Aside0 (Calls Try.prog 12 #[dptr d] W20 fun e w' => e = .returned (.int .i64 (st + 1)) ∧ W20 = w') := ⟨by
                  have := strokes_any HD2.out.at_
                  rw [hst'] at this; exact this⟩
                have hr1 : (r == 1) = false := by rw [beq_eq_false_iff_ne]; exact hr
                have HHH := Aside0.mk (And.intro hr hh)
                clear hst' HH hh hr
                by_cases he : st + 1 = 1 + m1
                · have be : (st + 1 == 1 + m1) = true := by rw [he]; simp
                  have hcase : (m2 = 0 ∧ r = 9 ∨ m2 = 1 ∧ r = 10) ∧ M'.fs = M.fs := by
                    obtain ⟨_, hh⟩ := HHH.out
                    rw [HTS.out, trOf_one, if_pos he.symm] at hh
                    rcases hh with ⟨h1, h2, h3⟩ | ⟨h1, h2, h3⟩ | ⟨h1, h2, _⟩
                    · exact ⟨.inl ⟨by omega, h2⟩, h3⟩
                    · exact ⟨.inr ⟨by omega, h2⟩, h3⟩
                    · omega
                  obtain ⟨hc, hfs⟩ := hcase
                  have HCR : Aside0 (∀ n, Calls Try.prog 11 #[dptr d, .slice A5 y.f5.length c5] (W20.drewN n) fun e w' => ∃ A7 c7, e = .returned (.slice A7 (crashL M.fs y.f5).length c7) ∧ Calls Try.prog 18 #[.slice A7 (crashL M.fs y.f5).length c7, .slice A6 (crashL M.fs y.f5).length c6] w' (fun e w'' => e = .returned (.bool true) ∧ Below W20.heap.size W20 w'')) := ⟨fun n => by
                    have := crash_dj (HD2.out.drewN n) (Kd.C_drewN HC52.out n) HL5.out (c := c5) (C_lt (Kd.C_drewN HC52.out n))
                    rw [hfs] at this
                    refine this.mono ?_
                    rintro e w' ⟨A7, c7, he, hS7, hB7⟩
                    obtain ⟨_, l7, C7⟩ := Kd.S_reads' hS7
                    obtain ⟨_, l6, C6⟩ := Kd.S_reads' (Kd.S_below (Kd.S_drewN HS2.out n) hB7)
                    have hb := (pw_below_drewN (Below.refl W20.heap.size W20) n)
                    exact ⟨A7, c7, he, (eqfiles_any (kF_C C7) l7 (kF_C C6) l6 HTR.out.1 HTR.out.2).mono fun e w'' ⟨h1, h2⟩ => ⟨h1, (hb.trans (hB7.mono hb.size)).trans (h2.mono (hb.trans (hB7.mono hb.size)).size)⟩⟩⟩
                  have b5n : ∀ n, (W20.drewN n).cell? ⟨g, 5, none⟩ = some (.slice A5 y.f5.length c5) := fun _ => b5
                  clear he hr1 hfs
                  rcases hc with ⟨rfl, rfl⟩ | ⟨rfl, rfl⟩
                  all_goals
                    go_wp2_with (first
                      | (go_at_call 12; refine hstr0.out.mono ?_; rintro e w' ⟨rfl, rfl⟩)
                      | (go_at_call 10; refine (num_any _ _).mono ?_; rintro e w' ⟨rfl, n, rfl⟩)
                      | (go_at_call 11; refine (HCR.out _).mono ?_; rintro e W30 ⟨A7, c7, rfl, hE⟩; have HE := Aside0.mk hE; clear hE)
                      | (go_at_call 18; refine HE.out.mono ?_; rintro e W31 ⟨rfl, hB31⟩; have HB31 := Aside0.mk hB31; clear hB31))
                    go_roundg k1
                    case measure => omega
                    case rel => exact HFIN.out _ HB31.out
                · have be : (st + 1 == 1 + m1) = false := by rw [beq_eq_false_iff_ne]; exact he
                  have hr9 : (r == 9) = false := by
                    rw [beq_eq_false_iff_ne]
                    obtain ⟨_, hh⟩ := HHH.out
                    rw [HTS.out, trOf_one, if_neg (fun e => he e.symm)] at hh
                    rcases hh with ⟨h, _⟩ | ⟨h, _⟩ | ⟨_, _, h⟩
                    · omega
                    · omega
                    · exact h
                  clear he
                  go_wp2_with (first
                    | (go_at_call 12; refine hstr0.out.mono ?_; rintro e w' ⟨rfl, rfl⟩)
                    | (go_at_call 10; refine (num_any _ _).mono ?_; rintro e w' ⟨rfl, n, rfl⟩))
                  go_roundg k1
                  case measure => omega
                  case rel => exact HFIN.out _ (pw_below_drewN (Below.refl _ _) _)
            · have HK : Aside0 (x = i ∧ i + gk = 31 ∧ Below wl.heap.size wl wr) := ⟨⟨hxi, hik, hB⟩⟩
              have t1 : decide (x < (S.length : Int)) = false ∨ decide (x < (S.length : Int)) = true ∧ decide (x < 30) = false := by
                by_cases h : i < S.length
                · exact .inr ⟨by simp; omega, by simp; omega⟩
                · exact .inl (by simp; omega)
              clear hxi hik hgo HI2 hD hB
              rcases t1 with t1 | ⟨t1, t2⟩
              all_goals
                go_wp2_with (go_at_call 19
                             refine (wakes_any _).mono ?_
                             rintro e W21 ⟨rfl, hB⟩
                             have HW := Aside0.mk hB
                             clear hB)
                go_ret
                have b0 := HB0.out
                have b1 := HK.out.2.2
                have b2 := HW.out
                have b01 := b0.trans (b1.mono b0.size)
                exact ⟨rfl, b01.trans (b2.mono b01.size)⟩
end Go.Proofs.Ytgpniaplpibhfaa

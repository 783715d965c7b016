/-
  The walk of DiskSafe.
-/
import Derived.Test.YtgpniaplpibhfaaSafeA
import Derived.Deep.DeepCutAuto
import Derived.Deep.RegionHeld3

import Derived.Deep.QuietTactic
import Derived.BigQuiet
namespace Go.Proofs.Ytgpniaplpibhfaa
open Go.RowKit Go.Maps Go.Proofs.YtgpniaplpibhfaaW.PrintWords Go.Proofs.YtgpniaplpibhfaaW.PrintLast Go.Proofs.YtgpniaplpibhfaaW.PrintMore
open Go.Proofs.Ytgpniaplpibhfaa.PDiskSafe
set_option linter.unusedVariables false
set_option linter.unusedSimpArgs false

set_option maxRecDepth 100000 in
set_option maxHeartbeats 1000000 in
theorem safe_any {w : World} {A0 : Option Addr} {c0 : Nat} {F : List S50} {A1 : Option Addr} {c1 : Nat} {T : List S39} {A2 : Option Addr} {c2 : Nat} {S : List S33} (h : In w A0 c0 F A1 c1 T A2 c2 S) :
    Calls Try.prog 4 #[.agg #[.slice A0 F.length c0, .slice A1 T.length c1, .slice A2 S.length c2]] w fun e w' => e = .returned (.bool true) ∧ Below w.heap.size w w' := by
  obtain ⟨wl, hwl⟩ : ∃ wl : World, wl = w.alloc (.cells #[.slice A0 F.length c0, .slice A1 T.length c1, .slice A2 S.length c2] 26) := ⟨_, rfl⟩
  have hb0 : Below w.heap.size w wl := by rw [hwl]; exact below_alloc (Below.refl _ _) _
  have HB0 := Aside0.mk hb0
  have HI : Aside0 (In wl A0 c0 F A1 c1 T A2 c2 S) := ⟨by rw [hwl]; exact h.below (below_alloc (Below.refl _ _) _)⟩
  have HX : Aside0 (∀ W, Below wl.heap.size wl W → W.cell? ⟨w.heap.size, 0, none⟩ = some (.slice A0 F.length c0) ∧ W.cell? ⟨w.heap.size, 2, none⟩ = some (.slice A2 S.length c2)) := ⟨fun W hb => by
    have hlt : w.heap.size < wl.heap.size := by rw [hwl]; simp
    refine ⟨(hb.cell (p := ⟨w.heap.size, 0, none⟩) hlt).trans ?_, (hb.cell (p := ⟨w.heap.size, 2, none⟩) hlt).trans ?_⟩
    · rw [hwl]; exact cell_of_row _ _ 0 _ 26 (0, 0) (heap_alloc_new w _)
    · rw [hwl]; exact cell_of_row _ _ 2 _ 26 (0, 0) (heap_alloc_new w _)⟩
  have HWL := Aside0.mk hwl
  clear h hb0
  go_enter Try.func4, Try.ntmps4
  go_wp2_with fail
  rw [← hwl]
  clear hwl
  refine (HI.out.heavy).mono ?_
  rintro e W1 ⟨r, rfl, hl, hb⟩
  have HB1 := Aside0.mk hb
  cases r with
  | true =>
    clear hl hb
    go_wp2
    go_ret
    exact ⟨rfl, HB0.out.trans (HB1.out.mono HB0.out.size)⟩
  | false =>
    have HL := Aside0.mk (hl rfl)
    obtain ⟨g0, g2⟩ := HX.out W1 hb
    clear hl hb
    go_wp2_with fail
    refine (may_any (Kd.C_below HI.out.h0 HB1.out) HI.out.hc0 HI.out.hN).mono ?_
    rintro e W2 ⟨r2, n2, rfl, hF, hW2⟩
    have HB2 : Aside0 (Below wl.heap.size wl W2) := ⟨by rw [hW2]; exact pw_below_drewN HB1.out _⟩
    obtain ⟨f0, f2⟩ := HX.out W2 HB2.out
    clear g0 g2 hW2 HB1
    cases r2 with
    | false =>
      clear hF
      go_wp2
      go_ret
      exact ⟨rfl, HB0.out.trans (HB2.out.mono HB0.out.size)⟩
    | true =>
      have HF := Aside0.mk (hF rfl)
      clear hF
      by_cases h8 : 8 < F.length
      · have b8 : decide ((8 : Int) < (F.length : Int)) = true := by simp; omega
        clear h8
        go_wp2
        go_ret
        exact ⟨rfl, HB0.out.trans (HB2.out.mono HB0.out.size)⟩
      · have b8 : decide ((8 : Int) < (F.length : Int)) = false := by simp; omega
        have hF8 : F.length ≤ 8 := by omega
        clear h8
        have HF0 : Aside0 (∀ W, Below W2.heap.size W2 W → Kd.C k50 W A0 F.length F) := ⟨fun W hb => Kd.C_below HI.out.h0 (HB2.out.trans (hb.mono HB2.out.size))⟩
        go_wp2
        go_loop [3] (fun t => ∃ k : Nat, k ≤ F.length ∧ t = .int .i64 k ∧ Aside0 (∀ j : Nat, j < k → (rd_T50 F j).f0 ≠ sK)) (fun t => F.length - (intOf t).toNat)
        case atStart => exact ⟨0, Nat.zero_le _, rfl, ⟨fun j hj => absurd hj (Nat.not_lt_zero _)⟩⟩
        case round =>
          obtain ⟨k, hk, rfl, HK⟩ := hrel
          by_cases hlt : k < F.length
          · obtain ⟨ad, A4, c4, e, q0, q1, hl4, hi4⟩ := at_T50 (HF0.out W2 (Below.refl _ _)) (k : Int) (by omega) (by omega)
            cases e
            rw [Int.toNat_natCast] at q0
            clear q1 hl4 hi4
            have hb := beq_sK (rd_T50 F (k : Int)).f0
            by_cases hs : (rd_T50 F (k : Int)).f0 = sK
            · have ht : ((rd_T50 F (k : Int)).f0.toList == [107, 101, 112, 116]) = true := by rw [hb]; simp [hs]
              clear hb hs
              go_wp2
              go_ret
              exact ⟨rfl, HB0.out.trans (HB2.out.mono HB0.out.size)⟩
            · have ht : ((rd_T50 F (k : Int)).f0.toList == [107, 101, 112, 116]) = false := by rw [hb]; simp [hs]
              have HS := Aside0.mk hs
              clear hb hs
              go_wp2
              go_round
              case rel => exact ⟨k + 1, by omega, by go_num, ⟨fun j hj => by
                by_cases e : j = k
                · rw [e]; exact HS.out
                · exact HK.out j (by omega)⟩⟩
              case measure => simp [intOf]; omega
          · have hkF : k = F.length := by omega
            have HNK : Aside0 ((newM F []).fs (nm sK) = none) := ⟨fsOf_none (fun z hz e => by
              obtain ⟨j, hj, rfl⟩ := List.getElem_of_mem hz
              have h1 := HK.out j (by omega)
              rw [rd50_nat F j hj] at h1
              exact h1 (by rw [← strL_nm' F[j].f0, e, strL_nm']))⟩
            clear HK hkF
            go_wp2_with fail
            refine (new_X HF.out (HF0.out W2 (Below.refl _ _)) HI.out.hc0).mono ?_
            rintro e W3 ⟨d, ok3, rfl, hD, hB⟩
            have HN : Aside0 (DJ [] 0 d wl.heap.size (newM F []) (fun k => ok3 k ∧ k < W3.heap.size) W3 ∧ Below wl.heap.size wl W3) := ⟨by
              have hb2 := HB2.out
              have hD' := hD.tight
              exact ⟨⟨hD'.at_, fun j hj => Nat.le_trans hb2.size (hD'.lo j hj), hD'.ok⟩, hb2.trans (hB.mono hb2.size)⟩⟩
            clear hD hB HF0 f0 f2 hlt
            have hconv : ∀ (nq : Nat) (C : Array Value) (n c : Nat), (convert 30 30 (.slice (some ⟨W3.heap.size, 0, none⟩) n c)).run Try.prog ((W3.drewN nq).alloc (.cells C 5)) = .ok (.slice (some ⟨W3.heap.size, 0, none⟩) n c) ((W3.drewN nq).alloc (.cells C 5 (C.size, C.size + 1))) := fun nq C n c => run_conv30 (W3.drewN nq) C n c
            obtain ⟨kb, hkb⟩ : ∃ kb, kb = W3.heap.size := ⟨_, rfl⟩
            have HKB := Aside0.mk hkb
            have HFI : Aside0 (∀ n, Calls Try.prog 16 #[dptr d, .string sK, .int .i64 0, .slice (some ⟨W3.heap.size, 0, none⟩) 85 85] ((W3.drewN n).alloc (.cells (keepB.map (Value.int .u8)).toArray 5 (85, 86))) fun e w' => e = .returned (.int .i64 0) ∧ KJ 1 d kb (some ([], keepB)) wl w') := ⟨fun n => by
              rw [hkb]; exact kj_first HN.out.1 (fun k hk => hk.2) HN.out.2 HNK.out HF.out hF8 n⟩
            clear hkb
            go_wp2_with (first
              | (go_at_call 10; refine (num_any _ _).mono ?_; rintro e w' ⟨rfl, n, rfl⟩)
              | (go_at_call 16; refine (HFI.out _).mono ?_; rintro e W4 ⟨rfl, hK⟩; have HK1 := Aside0.mk hK; clear hK)
              | (go_at_call 14; refine (kj_sync (HK1.out.drewN _) (by omega)).mono ?_; rintro e W5 ⟨rfl, hK⟩; have HK2 := Aside0.mk hK; clear hK))
            rw [← HKB.out]
            clear hconv HFI HK1 HKB HN HNK b8 hk hF8
            go_loopg [7] 31 (fun kq v7 w' => ∃ x : Int, v7 = .int .i64 x ∧ Aside0 (∃ i : Nat, x = i ∧ i + kq = 31 ∧ KJ (i + 2) d kb (some (keepB, keepB)) wl w'))
            case atStart => exact ⟨0, rfl, ⟨0, rfl, rfl, HK2.out.drewN _⟩⟩
            case round =>
              obtain ⟨x, rfl, HI2⟩ := hrel
              obtain ⟨i, hxi, hik, hK⟩ := HI2.out
              obtain ⟨_, ha⟩ := HX.out wr hK.below
              by_cases hgo : i < S.length ∧ i < 30
              · have t1 : decide (x < (S.length : Int)) = true := by simp; omega
                have t2 : decide (x < 30) = true := by simp; omega
                cases gk with
                | zero => omega
                | succ k1 =>
                have p1 : 0 ≤ x := by omega
                have p2 : x < (S.length : Int) := by omega
                have hB := hK.below
                obtain ⟨ad', A4, c4, A5, c5, e, q0, q1, q2, q3, q4, q5, hl4, hi4, hl5, hi5⟩ := at_T33 HI.out.h2 x p1 p2
                cases e
                replace q0 := (hB.cell (World.block_lt_of_cell? _ _ q0)).trans q0
                replace q1 := (hB.cell (World.block_lt_of_cell? _ _ q1)).trans q1
                replace q2 := (hB.cell (World.block_lt_of_cell? _ _ q2)).trans q2
                replace q3 := (hB.cell (World.block_lt_of_cell? _ _ q3)).trans q3
                replace q4 := (hB.cell (World.block_lt_of_cell? _ _ q4)).trans q4
                replace q5 := (hB.cell (World.block_lt_of_cell? _ _ q5)).trans q5
                have hlt : w.heap.size < wr.heap.size := World.block_lt_of_cell? _ _ ha
                have HDX := Aside0.mk (And.intro hxi (And.intro hik (And.intro hgo (And.intro hK (And.intro hi4 hi5)))))
                clear HI2 hxi hik hgo hK hB hi4 hi5
                have hlx : x.toNat < S.length := by omega
                have hacts := HL.out.acts x.toNat hlx (by have := HDX.out.2.2.1; have := HDX.out.1; omega)
                have hsz := (HI.out.hA x.toNat hlx).2.2.2.1
                rw [show ((x.toNat : Nat) : Int) = x from by omega] at hacts hsz
                obtain ⟨x1, hx1w⟩ : ∃ x1, IntKind.i64.wrap (x + 1) = x1 := ⟨_, rfl⟩
                have HX1 : Aside0 (x1 = x + 1) := ⟨by rw [← hx1w, IntKind.wrap_i64]; have := HDX.out.2.2.1; have := HDX.out.1; omega⟩
                generalize rd_T33 S x = y at *
                obtain ⟨m, m0, m1, hm⟩ := within_any y.f0 11 (by omega) (by omega)
                have HM := Aside0.mk hm
                have HY := Aside0.mk (And.intro hacts hsz)
                have HL4 := Aside0.mk hl4
                have HL5 := Aside0.mk hl5
                clear hm hacts hsz hlx hl4 hl5
                go_upto_region 18 with fail
                clear q0 q1 q2 q3 q4 q5 t1 t2 ha p1 p2
                obtain ⟨g, hg⟩ : ∃ g, g = wr.heap.size := ⟨_, rfl⟩
                obtain ⟨W10, hW10⟩ : ∃ W10, W10 = wr.alloc (.cells #[.int .i64 y.f0, .string y.f1, .int .i64 y.f2, .int .i64 y.f3, .slice A4 y.f4.length c4, .slice A5 y.f5.length c5] 33) := ⟨_, rfl⟩
                rw [← hW10, ← hg]
                have hbox : W10.heap[g]? = some (.cells #[.int .i64 y.f0, .string y.f1, .int .i64 y.f2, .int .i64 y.f3, .slice A4 y.f4.length c4, .slice A5 y.f5.length c5] 33 (0, 0)) := by rw [hW10, hg]; exact heap_alloc_new wr _
                have hb10 : Below wr.heap.size wr W10 := by rw [hW10]; exact below_alloc (Below.refl _ _) _
                have HK10 : Aside0 (KJ (i + 2) d kb (some (keepB, keepB)) wl W10) := ⟨HDX.out.2.2.2.1.of_below hb10⟩
                have HC4 : Aside0 (U8.C W10 A4 y.f4.length y.f4) := ⟨Kd.C_below HDX.out.2.2.2.2.1 HK10.out.below⟩
                have HC5 : Aside0 (I64.C W10 A5 y.f5.length y.f5) := ⟨Kd.C_below HDX.out.2.2.2.2.2 HK10.out.below⟩
                have HBX := Aside0.mk hbox
                have k0 : W10.cell? ⟨g, 0, none⟩ = some (.int .i64 y.f0) := cell_of_row _ _ 0 _ 33 (0, 0) hbox
                have k1' : W10.cell? ⟨g, 1, none⟩ = some (.string y.f1) := cell_of_row _ _ 1 _ 33 (0, 0) hbox
                have k2 : W10.cell? ⟨g, 2, none⟩ = some (.int .i64 y.f2) := cell_of_row _ _ 2 _ 33 (0, 0) hbox
                have k3 : W10.cell? ⟨g, 3, none⟩ = some (.int .i64 y.f3) := cell_of_row _ _ 3 _ 33 (0, 0) hbox
                have k4 : W10.cell? ⟨g, 4, none⟩ = some (.slice A4 y.f4.length c4) := cell_of_row _ _ 4 _ 33 (0, 0) hbox
                have k5 : W10.cell? ⟨g, 5, none⟩ = some (.slice A5 y.f5.length c5) := cell_of_row _ _ 5 _ 33 (0, 0) hbox
                have hgw : g < W10.heap.size := heap_lt hbox
                have HGW : Aside0 (Below wr.heap.size wr W10 ∧ wr.heap.size ≤ g) := ⟨⟨hb10, by omega⟩⟩
                clear hW10 hg hbox hb10 hlt
                have hfin : ∀ W, KJ (i + 3) d kb (some (keepB, keepB)) wl W → ∃ x' : Int, Value.int .i64 x1 = .int .i64 x' ∧ Aside0 (∃ i : Nat, x' = i ∧ i + k1 = 31 ∧ KJ (i + 2) d kb (some (keepB, keepB)) wl W) := fun W hW =>
                  ⟨x1, rfl, ⟨i + 1, by rw [HX1.out, HDX.out.1]; omega, by have := HDX.out.2.1; omega, hW⟩⟩
                have HFIN := Aside0.mk hfin
                clear hfin
                have hb := beq_sK y.f1
                by_cases hs : y.f1 = sK
                · have ht : (y.f1.toList == [107, 101, 112, 116]) = true := by rw [hb]; simp [hs]
                  clear hb hs
                  go_wp2
                  go_roundg k1
                  case measure => omega
                  case rel => exact HFIN.out _ (HK10.out.up (by omega))
                · have ht : (y.f1.toList == [107, 101, 112, 116]) = false := by rw [hb]; simp [hs]
                  have HNE := Aside0.mk hs
                  clear hb hs
                  go_upto_block 4 with (go_at_call 8; refine (HM.out _).mono ?_; rintro e w' ⟨rfl, n, rfl⟩)
                  have hi9 : Aside0 (i + 2 < 1000000) := ⟨by have := HDX.out.2.2.1; omega⟩
                  have kn1 : ∀ n, (W10.drewN n).cell? ⟨g, 1, none⟩ = some (.string y.f1) := fun _ => k1'
                  by_cases h4 : m = 4
                  · subst h4
                    go_wp2_with (go_at_call 13; refine (kj_trunc (HK10.out.drewN _) hi9.out HY.out.2 HNE.out _).mono ?_; rintro e w' ⟨r, rfl, hr⟩; have HR := Aside0.mk hr; clear hr)
                    go_roundg k1
                    case measure => omega
                    case rel => exact HFIN.out _ HR.out
                  · by_cases h5 : m = 5
                    · subst h5
                      go_wp2_with (go_at_call 14; refine (kj_sync_ (HK10.out.drewN _) hi9.out HY.out.2 HNE.out).mono ?_; rintro e w' ⟨r, rfl, hr⟩; have HR := Aside0.mk hr; clear hr)
                      go_roundg k1
                      case measure => omega
                      case rel => exact HFIN.out _ HR.out
                    · by_cases h6 : m = 6
                      · subst h6
                        go_wp2_with (go_at_call 15; refine (kj_del (HK10.out.drewN _) hi9.out HY.out.2 HNE.out).mono ?_; rintro e w' ⟨r, rfl, hr⟩; have HR := Aside0.mk hr; clear hr)
                        go_roundg k1
                        case measure => omega
                        case rel => exact HFIN.out _ HR.out
                      · have b4 : (m == 4) = false := by simp [h4]
                        have b5 : (m == 5) = false := by simp [h5]
                        have b6 : (m == 6) = false := by simp [h6]
                        by_cases h7 : 7 ≤ m
                        · have h7c : m = 7 ∨ m = 8 ∨ m = 9 ∨ m = 10 := by omega
                          clear h4 h5 h6
                          go_upto_if 124 with fail
                          go_cut [124] (fun v124 wc => v124 = .bool true ∧ ∃ n, wc = W10.drewN n)
                          case first =>
                            rcases h7c with rfl | rfl | rfl | rfl
                            all_goals
                              go_wp2
                              go_meet
                              exact ⟨rfl, _, rfl⟩
                          case rest =>
                            obtain ⟨rfl, n12, hwc⟩ := hcut
                            subst hwc
                            clear h7c b4 b5 b6
                            have kn5 : ∀ n, (W10.drewN n).cell? ⟨g, 5, none⟩ = some (.slice A5 y.f5.length c5) := fun _ => k5
                            go_upto_if 124 with fail
                            refine crash_arm n12 HK10 HC5 HL5 kn5 _ _ _ _ _ _ _ _ _ _ _ _ _ _ _ _ _ _ _ _ _ _ _ _ _ _ _ _ _ _ _ _ _ _ _ _ _ _ _ _ _ _ _ _ _ _ _ _ _ _ _ _ _ _ _ _ _ _ _ _ _ _ _ _ _ _ _ _ _ _ _ _ _ _ _ _ _ _ _ _ _ _ _ _ _ _ _ _ _ _ _ _ _ _ _ _ _ _ _ _ _ _ _ _ _ _ _ _ _ _ _ _ _ _ _ _ _ _ _ _ _ _ _ _ _ _ _ _ _ _ _ _ _ _ _ _ _ _ _ _ _ _ _ _ _ _ _ _ _ _ _ _ _ _ _ _ _ _ _ _ _ _ _ _ _ _ _ _ _ _ _ _ _ _ _ _ _ _ _ _ _ _ _ _ _ _ _ _ _ _ _ _ _ _ _ _ _ _ _ _ _ _ _ _ _ _ _ _ _ _ _ _ _ _ _ _ _ _ _ _ _ _ _ _ _ _ _ _ _ _ _ _ _ _ _ ⟨?_⟩
                            intros
                            rename_i W31 hK31
                            have HR := Aside0.mk hK31
                            clear hK31
                            go_wp2
                            go_roundg k1
                            case measure => omega
                            case rel => exact HFIN.out _ HR.out
                        · have b7 : (m == 7) = false := by rw [beq_eq_false_iff_ne]; omega
                          have b8 : (m == 8) = false := by rw [beq_eq_false_iff_ne]; omega
                          have b9 : (m == 9) = false := by rw [beq_eq_false_iff_ne]; omega
                          have b10 : (m == 10) = false := by rw [beq_eq_false_iff_ne]; omega
                          clear h4 h5 h6 h7
                          have HCP : Aside0 (∀ W, Below W10.heap.size W10 W → Calls Try.prog 17 #[.slice A4 y.f4.length c4] W fun e w' => ∃ A c, e = .returned (.slice A y.f4.length c) ∧ Below W10.heap.size W10 w' ∧ (U8.C w' A y.f4.length y.f4 ∧ ∀ ad, A = some ad → W10.heap.size ≤ ad.block ∧ ad.block < w'.heap.size) ∧ w'.cell? ⟨g, 1, none⟩ = some (.string y.f1) ∧ w'.cell? ⟨g, 2, none⟩ = some (.int .i64 y.f2) ∧ w'.cell? ⟨g, 4, none⟩ = some (.slice A4 y.f4.length c4)) := ⟨fun W hW => by
                            refine (copy_src (Kd.C_below HC4.out hW) HL4.out HY.out.1.1).mono ?_
                            rintro e w' ⟨A, c, he, ⟨h1, h2⟩, h3⟩
                            have hb2 := hW.trans (h3.mono hW.size)
                            have hbx : w'.heap[g]? = _ := (hb2.block g hgw).trans HBX.out
                            exact ⟨A, c, he, hb2, ⟨h1, fun ad e => ⟨by have := (h2 ad e).1; have := hW.size; omega, (h2 ad e).2⟩⟩, cell_of_row _ _ 1 _ 33 (0, 0) hbx, cell_of_row _ _ 2 _ 33 (0, 0) hbx, cell_of_row _ _ 4 _ 33 (0, 0) hbx⟩⟩
                          have HWR : Aside0 (∀ W A c, Below W10.heap.size W10 W → (U8.C W A y.f4.length y.f4 ∧ ∀ ad, A = some ad → W10.heap.size ≤ ad.block ∧ ad.block < W.heap.size) → Calls Try.prog 16 #[dptr d, .string y.f1, .int .i64 y.f2, .slice A y.f4.length c] W fun e w' => ∃ r, e = .returned (.int .i64 r) ∧ KJ (i + 3) d kb (some (keepB, keepB)) wl w' ∧ w'.cell? ⟨g, 1, none⟩ = some (.string y.f1) ∧ w'.cell? ⟨g, 2, none⟩ = some (.int .i64 y.f2) ∧ w'.cell? ⟨g, 4, none⟩ = some (.slice A4 y.f4.length c4)) := ⟨fun W A c hW hs => by
                            obtain ⟨hg1, hg2⟩ := HGW.out
                            refine (kj_write_ HDX.out.2.2.2.1 hi9.out HY.out.2 HNE.out _ (hg1.trans (hW.mono hg1.size)) hs.1 (fun ad e => ⟨by have := (hs.2 ad e).1; have := hg1.size; omega, (hs.2 ad e).2⟩)).mono ?_
                            rintro e w' ⟨r, he, hk, hkeep⟩
                            have hbx : w'.heap[g]? = _ := (hkeep g hg2 (by have := hW.size; omega)).trans ((hW.block g hgw).trans HBX.out)
                            exact ⟨r, he, hk, cell_of_row _ _ 1 _ 33 (0, 0) hbx, cell_of_row _ _ 2 _ 33 (0, 0) hbx, cell_of_row _ _ 4 _ 33 (0, 0) hbx⟩⟩
                          clear k0 k3 k5
                          go_wp2
                          go_region_held3 (fun w' => w'.cell? ⟨g, 1, none⟩ = some (.string y.f1) ∧ w'.cell? ⟨g, 2, none⟩ = some (.int .i64 y.f2) ∧ w'.cell? ⟨g, 4, none⟩ = some (.slice A4 y.f4.length c4)) (first | go_keep | assumption)
                            (first
                              | (go_at_call 17; refine (HCP.out _ (by first | exact pw_below_drewN (Below.refl _ _) _ | exact below_drew (pw_below_drewN (Below.refl _ _) _))).mono ?_; rintro e w2 ⟨A, c, rfl, hb2, hs2, ha2, hb2', hc2'⟩)
                              | (go_at_call 16; refine (HWR.out _ _ _ hb2 hs2).mono ?_; rintro e w' ⟨r, rfl, hr, ha3, hb3', hc3'⟩; have HR := Aside0.mk hr; clear hr))
                          go_wp2
                          go_roundg k1
                          case measure => omega
                          case rel => exact HFIN.out _ HR.out
              · have HK : Aside0 (x = i ∧ i + gk = 31 ∧ Below wl.heap.size wl wr) := ⟨⟨hxi, hik, hK.below⟩⟩
                have t1 : decide (x < (S.length : Int)) = false ∨ decide (x < (S.length : Int)) = true ∧ decide (x < 30) = false := by
                  by_cases h : i < S.length
                  · exact .inr ⟨by simp; omega, by simp; omega⟩
                  · exact .inl (by simp; omega)
                clear hxi hik hgo HI2 hK
                rcases t1 with t1 | ⟨t1, t2⟩
                all_goals
                  go_wp2_with (go_at_call 19
                               refine (wakes_any _).mono ?_
                               rintro e W21 ⟨rfl, hB⟩
                               have HW := Aside0.mk hB
                               clear hB)
                  go_ret
                  have b0 := HB0.out
                  have b1 := HK.out.2.2
                  have b2 := HW.out
                  have b01 := b0.trans (b1.mono b0.size)
                  exact ⟨rfl, b01.trans (b2.mono b01.size)⟩
end Go.Proofs.Ytgpniaplpibhfaa

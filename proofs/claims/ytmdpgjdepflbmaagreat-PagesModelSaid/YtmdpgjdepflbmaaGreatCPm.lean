/-
  PagesModel: the law's walk.
-/
import Derived.Test.YtmdpgjdepflbmaaGreatCPmA
namespace Go.Proofs.YtmdpgjdepflbmaaGreat
open Go.RowKit Go.Maps Go.Proofs.YtmdpgjdepflbmaaGreatW.PrintWords Go.Proofs.YtmdpgjdepflbmaaGreatW.PrintLast Go.Proofs.YtmdpgjdepflbmaaGreatW.PrintMore
open Go.Proofs.YtmdpgjdepflbmaaGreat.PPagerFolds
set_option linter.unusedVariables false
set_option linter.unusedSimpArgs false

/-- the first loop's relation: k acts so far, G the most pages that were held -/
def BM (w : World) (g mb : Nat) (B : PG) (k : Nat) (G : Int) (wr : World) : Prop := ∃ V cnt ok hv tv L T R, MS w wr g B V cnt ok mb hv tv L T R k ∧ wordZ (V 0) 16 ≤ G ∧ (L.length : Int) ≤ G ∧ G ≤ k
set_option maxHeartbeats 4000000 in
set_option maxRecDepth 100000 in
theorem model_any (A : Option Addr) (len cap : Nat) (D C L0 : Nat → Int) (w : World) (hl0 : len ≤ 9223372036854775807) (hA : Acts w A len D C L0) :
    Calls Tryz.prog 12 #[.slice A len cap] w fun e w' => e = .returned (.bool true) ∧ Below w.heap.size w w' := by
  have HS := Aside0.mk (fs_start w)
  have HA := Aside0.mk hA
  clear hA
  go_enter Tryz.func12, Tryz.ntmps12
  go_wp2_with fail
  refine (HS.out).mono ?_
  rintro e w1 ⟨g, p, d, l, ok0, rfl, hF⟩
  have H1 := Aside0.mk (MS.start hF)
  obtain ⟨mb, hmb⟩ : ∃ mb, mb = w1.heap.size := ⟨_, rfl⟩
  obtain ⟨W1, hW1⟩ : ∃ W1, W1 = w1.alloc (.cells #[.slice none 0 0, .slice none 0 0, .int .i64 0, .int .i64 0, .int .i64 0, .int .i64 0, .int .i64 0, .int .i64 0, .int .i64 0, .int .i64 0] 85) := ⟨_, rfl⟩
  rw [← hmb, ← hW1] at H1
  clear hF HS
  go_wp2
  rw [← hmb, ← hW1]
  clear hmb hW1
  go_loopw [6, 7] (fun v6 v7 wr => ∃ (k : Nat) (G : Int), v7 = .int .i64 k ∧ v6 = .int .i64 G ∧ k ≤ len ∧ k ≤ 60 ∧ 0 ≤ G ∧ G ≤ 60 ∧ Aside0 (BM w g mb (B0 p d l) k G wr)) (fun _ v7 _ => len - (intOf v7).toNat)
  case atStart => exact ⟨0, 0, rfl, rfl, by omega, by omega, by omega, by omega, ⟨_, _, _, _, _, _, _, _, H1.out, by rw [V0_zero, zero_top]; omega, by simp, by simp⟩⟩
  case round =>
    clear H1
    obtain ⟨k, G, rfl, rfl, hk, hk60, hG0, hG1, HI⟩ := hrel
    by_cases h1 : k < len ∧ k < 60
    · obtain ⟨h1, h2⟩ := h1
      obtain ⟨b, off, rfl, hbw, hcells⟩ := HA.out (by omega)
      obtain ⟨V, cnt, ok, hv, tv, L, T, R, hM, hT1, hT2, hT3⟩ := HI.out
      obtain ⟨hc0, hc1, hc2⟩ := hcells k (by omega)
      have hbl := hM.fs.below
      have c0 : wr.cell? ⟨b, off + k * 3, none⟩ = some (.int .i64 (D k)) := (hbl.cell (p := ⟨b, off + k * 3, none⟩) hbw).trans hc0
      have c1 : wr.cell? ⟨b, off + k * 3 + 1, none⟩ = some (.int .i64 (C k)) := (hbl.cell (p := ⟨b, off + k * 3 + 1, none⟩) hbw).trans hc1
      have c2 : wr.cell? ⟨b, off + k * 3 + 2, none⟩ = some (.int .i64 (L0 k)) := (hbl.cell (p := ⟨b, off + k * 3 + 2, none⟩) hbw).trans hc2
      have HAct := Aside0.mk (act_any hM (by omega) (D k) (C k) (L0 k))
      have HT := Aside0.mk (And.intro hT1 (And.intro hT2 hT3))
      clear hcells hc0 hc1 hc2 hM hbl hbw HI hT1 hT2 hT3
      generalize D k = dk at *
      generalize C k = ck at *
      generalize L0 k = lk at *
      go_wp2_with (go_at_call 38; refine HAct.out.mono ?_; rintro e w2 ⟨rfl, V2, cnt2, ok2, hv2, tv2, L2, T2, R2, hM2, hA2, hTG⟩
                   obtain ⟨A2, n2, c2', rfl⟩ : ∃ A n c, hv2 = .slice A n c := by obtain ⟨A', c', e, _, _⟩ := R_rowk hM2.mm.md.held; exact ⟨_, _, _, e⟩
                   obtain ⟨hC2, hc2', hn2⟩ := C_of_rowk hM2.mm.md.held
                   have d0 : w2.cell? ⟨mb, 0, none⟩ = some (.slice A2 n2 c2') := hM2.mm.md.c0
                   have hn60 : n2 ≤ k + 1 := by have := hM2.len; omega
                   have HHl := Aside0.mk (fs_held hM2.fs hM2.srt (fun x => (hM2.held x).symm))
                   have HM2 := Aside0.mk (And.intro hM2 (And.intro hTG hn2))
                   clear hM2 hA2 hTG hC2 hc2' hn2)
      obtain ⟨y, hy⟩ : ∃ y, y = max G (n2 : Int) := ⟨_, rfl⟩
      have hy0 : 0 ≤ y := by omega
      have hy1 : y ≤ 60 := by omega
      have hyt : wordZ (V2 0) 16 ≤ y := by
        have h1 := HM2.out.2.1
        have h2 := HT.out
        have h3 := HM2.out.2.2
        omega
      have hyl : (L2.length : Int) ≤ y := by
        have h3 := HM2.out.2.2
        omega
      have hyc : decide (y + 2 + y / 100 < cnt2) = false := by
        have := HM2.out.1.cb
        simp; omega
      have hyk : y ≤ (k : Int) + 1 := by have := HT.out; omega
      have HY := Aside0.mk (And.intro hyt (And.intro hyl hyk))
      rw [← hy]
      clear hy hyt hyl hyk
      go_wp2_with (first
        | (go_at_call 40; refine HHl.out.mono ?_; rintro e w6 ⟨v6, rfl, hv6, hb6⟩
           obtain ⟨A6, c6, rfl, hC6, hc6⟩ := R_row hv6
           have hM6 := HM2.out.1.step hb6
           have d1 : w6.cell? ⟨mb, 0, none⟩ = some (.slice A2 n2 c2') := hM6.mm.md.c0
           obtain ⟨hC2, hc2', hn2⟩ := C_of_rowk hM6.mm.md.held
           have HQ := eqnumbers_any hC6 hc6 hC2 hc2' (by have := hM6.len; omega)
           rw [decide_eq_true rfl] at HQ
           replace HQ := Aside0.mk HQ
           have HV6 := Aside0.mk (And.intro hv6 (And.intro hb6 hM6))
           clear hv6 hb6 hC6 hc6 hM6 hC2 hc2' hn2)
        | (go_at_call 41; refine HQ.out.mono ?_; rintro e w' ⟨rfl, m6, rfl⟩
           have HCt := Aside0.mk (count_any (HV6.out.2.2.step (pw_below_drewN (Below.refl _ _) m6)).fs.fat))
        | (go_at_call 25; refine HCt.out.mono ?_; rintro e w' ⟨rfl, rfl⟩)
        | (go_at_call 45; refine (numbers_any (w0 := w2) (P0 := fun k => w2.heap.size ≤ k) (HV6.out.2.1.trans (pw_below_drewN (Below.refl _ _) m6 |>.mono HV6.out.2.1.size)) (Kd.R_step HV6.out.1 (fun _ _ _ => rfl)) (by have := HY.out.2.1; omega)).mono ?_; rintro e w7 ⟨rfl, hb7, _⟩
           have HB7 := Aside0.mk hb7
           clear hb7)
        | (go_at_call 39; refine (num13_any _ _).mono ?_; rintro e w' ⟨rfl, rfl⟩))
      go_roundw
      case rel =>
        exact ⟨k + 1, y, by go_num, rfl, by omega, by omega, by omega, by omega, ⟨V2, cnt2, ok2, _, tv2, L2, T2, R2, HM2.out.1.step HB7.out, HY.out⟩⟩
      case measure => simp [intOf]; omega
    · rcases (show len ≤ k ∨ (k < len ∧ 60 ≤ k) by omega) with h2 | h2
      all_goals
        (try have q60 : decide ((k : Int) < 60) = false := by simp; omega)
        clear h1
        obtain ⟨V, cnt, ok, hv, tv, L, T, R, hM, _, _, _⟩ := HI.out
        obtain ⟨Ah, nh, ch, rfl⟩ : ∃ A n c, hv = .slice A n c := by obtain ⟨A', c', e, _, _⟩ := R_rowk hM.mm.md.held; exact ⟨_, _, _, e⟩
        have HCm := Aside0.mk (f_commit (w := w) hM.fs.fat rfl rfl rfl)
        rw [show (B0 p d l).p = p from rfl] at HCm
        have HM := Aside0.mk hM
        clear hM HI
        go_wp2_with (first
          | (go_at_call 26; refine HCm.out.mono ?_; rintro e w1 ⟨rfl, okS, X1, M', hC⟩
             have hBg := s_begin hC.sys hC.jq hC.mode hC.dead hC.inn hC.wrote
             rw [show X1.p = p from hC.hp] at hBg
             have HBg := Aside0.mk hBg
             have HC := Aside0.mk hC
             clear hBg hC)
          | (go_at_call 19; refine HBg.out.mono ?_; rintro e w2 ⟨rfl, hS2⟩
             have HS2 := Aside0.mk hS2
             clear hS2)
          | (go_at_call 43; refine (gnew_any _ _).mono ?_; rintro e w3 ⟨rfl, hw3⟩
             obtain ⟨B2, V2, cnt2, ok2, hN⟩ := ns_anew HM.out HC.out HS2.out hw3
             obtain ⟨g2, hg2⟩ : ∃ g2, g2 = w2.heap.size := ⟨_, rfl⟩
             rw [← hg2] at hN ⊢
             have HHl := Aside0.mk (fs_held hN.fs hN.srt (fun x => (hN.held x).symm))
             have HN := Aside0.mk hN
             clear hN hw3 hg2)
          | (go_at_call 40; refine HHl.out.mono ?_; rintro e w6 ⟨v6, rfl, hv6, hb6⟩
             obtain ⟨A6, c6, rfl, hC6, hc6⟩ := R_row hv6
             have hN6 := HN.out.step hb6
             have d0 : w6.cell? ⟨mb, 0, none⟩ = some (.slice Ah nh ch) := hN6.mm.md.c0
             obtain ⟨hCh, hch, hnh⟩ := C_of_rowk hN6.mm.md.held
             have HQ := eqnumbers_any hC6 hc6 hCh hch (by have := HM.out.len; omega)
             rw [decide_eq_true rfl] at HQ
             replace HQ := Aside0.mk HQ
             have HN6 := Aside0.mk (And.intro hN6 hnh)
             clear hv6 hb6 hC6 hc6 hN6 hCh hch hnh)
          | (go_at_call 41; refine HQ.out.mono ?_; rintro e w' ⟨rfl, m6, rfl⟩)
          | (go_at_call 39; refine (num13_any _ _).mono ?_; rintro e w' ⟨rfl, rfl⟩))
        have hnh60 : nh ≤ 60 := by have := HM.out.len; have := HN6.out.2; omega
        go_loopw [13] (fun v13 wr => ∃ i : Nat, v13 = .int .i64 i ∧ i ≤ nh ∧ Aside0 (NS w wr g2 B2 M' V2 cnt2 ok2 ok mb (.slice Ah nh ch) tv L T R)) (fun v13 _ => nh - (intOf v13).toNat)
        case atStart => exact ⟨0, rfl, by omega, ⟨HN6.out.1.step (pw_below_drewN (Below.refl _ _) m6)⟩⟩
        case round =>
          obtain ⟨i, rfl, hi, HI⟩ := hrel
          have hnh := HN6.out.2
          by_cases h5 : i < nh
          · have hM := HI.out
            have hil : i < L.length := by omega
            obtain ⟨x, hx⟩ : ∃ x, L[i]? = some x := ⟨_, List.getElem?_eq_getElem hil⟩
            obtain ⟨gh, ch', he, _, _, _⟩ := Kd.R_form hM.mm.md.held (by omega)
            injection he with he1 he2 he3
            subst he1
            have c0 : wr.cell? ⟨mb, 0, none⟩ = some (.slice (some ⟨gh, 0, none⟩) nh ch) := hM.mm.md.c0
            have hcx := irow_cell hM.mm.md.held i h5
            have hrx : rd L (i : Int) = x := by simp [rd, List.getD_eq_getElem?_getD, hx]
            rw [hrx] at hcx
            have HR := Aside0.mk (fs_read hM.fs x ((hM.held x).2 (List.mem_of_getElem? hx)))
            have HX := Aside0.mk hx
            have HHN := Aside0.mk hnh
            clear hM hx hrx he2 he3 hil hnh
            go_wp2_with (first
              | (go_at_call 42; refine HR.out.mono ?_; rintro e w7 ⟨v7, rfl, hv7, hb7⟩
                 have hM7 := HI.out.step hb7
                 obtain ⟨hVl, tb, tc, t, rfl, hT, hct, hCt, ht2⟩ := hM7.textcell HX.out
                 obtain ⟨A7, c7, rfl⟩ := Kd.R_slice hv7
                 rw [hVl] at hv7 ⊢
                 obtain ⟨hC7, hc7, _⟩ := C_of_row hv7
                 have c1 : w7.cell? ⟨mb, 1, none⟩ = some (.slice (some ⟨tb, 0, none⟩) L.length tc) := hM7.mm.md.c1
                 rw [HHN.out] at c1
                 have HE := eqbytes_any hC7 hc7 hCt ht2 (by omega)
                 rw [decide_eq_true rfl] at HE
                 replace HE := Aside0.mk HE
                 have H7 := Aside0.mk (And.intro hM7 hT)
                 clear hM7 hVl hT hCt ht2 hv7 hb7 hC7 hc7)
              | (go_at_call 24; refine HE.out.mono ?_; rintro e w' ⟨rfl, m7, rfl⟩)
              | (go_at_call 39; refine (num13_any _ _).mono ?_; rintro e w' ⟨rfl, rfl⟩))
            go_roundw
            case rel => exact ⟨i + 1, by go_num, by omega, ⟨H7.out.1.step (pw_below_drewN (Below.refl _ _) m7)⟩⟩
            case measure => simp [intOf]; omega
          · have hM := HI.out
            have c0 : wr.cell? ⟨mb, 0, none⟩ = some (.slice Ah nh ch) := hM.mm.md.c0
            clear hM hnh
            go_wp2_with fail
            go_loopw [16] (fun v16 wr => ∃ i : Nat, v16 = .int .i64 i ∧ i ≤ 8 ∧ Aside0 (NS w wr g2 B2 M' V2 cnt2 ok2 ok mb (.slice Ah nh ch) tv L T R)) (fun v16 _ => 8 - (intOf v16).toNat)
            case atStart => exact ⟨0, rfl, by omega, ⟨HI.out⟩⟩
            case round =>
              clear HI
              obtain ⟨r, rfl, hr, HI⟩ := hrel
              by_cases h6 : r < 8
              · have hRt := groot_yes HI.out.fs.fat HI.out.fs.good (r : Int) (by omega) (by omega)
                rw [Int.toNat_natCast] at hRt
                have HRt := Aside0.mk hRt
                clear hRt
                go_wp2_with (first
                  | (go_at_call 46; refine HRt.out.mono ?_; rintro e w8 ⟨rfl, hb8⟩
                     have hM8 := HI.out.step hb8
                     have c8 := hM8.rootcell h6
                     have H8 := Aside0.mk hM8
                     clear hM8 hb8)
                  | (go_at_call 39; refine (num13_any _ _).mono ?_; rintro e w' ⟨rfl, rfl⟩))
                go_roundw
                case rel => exact ⟨r + 1, by go_num, by omega, ⟨H8.out⟩⟩
                case measure => simp [intOf]; omega
              · go_wp2_with (first
                  | (go_at_call 44; refine (wakes_any _).mono ?_; rintro e w9 ⟨rfl, hb9⟩; have H9 := Aside0.mk hb9; clear hb9))
                go_ret
                exact ⟨rfl, HI.out.fs.below.trans (H9.out.mono HI.out.fs.below.size)⟩
end Go.Proofs.YtmdpgjdepflbmaaGreat

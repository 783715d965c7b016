/-
  PagerMarks: the law's walk.
-/
import Derived.Test.YtmdpgjdepflbmaaGreatCN
namespace Go.Proofs.YtmdpgjdepflbmaaGreat
open Go.RowKit Go.Maps Go.Proofs.YtmdpgjdepflbmaaGreatW.PrintWords Go.Proofs.YtmdpgjdepflbmaaGreatW.PrintLast Go.Proofs.YtmdpgjdepflbmaaGreatW.PrintMore
open Go.Proofs.YtmdpgjdepflbmaaGreat.PPagerFolds
set_option linter.unusedVariables false
set_option linter.unusedSimpArgs false

def idsL (i : Nat) : List Int := (List.range i).map (fun j => ((j : Nat) : Int) + 1)
theorem idsL_succ (i : Nat) : idsL (i + 1) = idsL i ++ [(i : Int) + 1] := by unfold idsL; rw [List.range_succ, List.map_append]; rfl
theorem idsL_length (i : Nat) : (idsL i).length = i := by unfold idsL; simp
theorem idsL_rd {i n : Nat} (h : i < n) : rd (idsL n) (i : Int) = (i : Int) + 1 := by unfold rd idsL; simp [List.getD_eq_getElem?_getD, h]
abbrev nilV : Value := .slice none 0 0
/-- how the law's pager begins -/
theorem MJ.of {W w : World} {X : PG} {M : DM} {ok : Nat → Prop} (hS : Sys w X M ok) (hok : ∀ k, ok k → W.heap.size ≤ k) (hb : Below W.heap.size W w) : MJ W X M [] nilV w := by
  refine ⟨⟨fun k => ok k ∧ k < w.heap.size, hS.tight, fun k hk => ⟨hok k hk.1, hk.2, fun e => by simp [Value.ownBlock] at e⟩⟩, Kd.R_nil _ _ _ _ _, hb⟩
theorem mk0_start (p d l : Nat) (m s : Int) (C : Bytes) (hC : C = []) : Mk0 (((newPG p d l m 0).begC s C).put 0 (pg12 1)) := by
  subst hC
  exact ⟨rfl, rfl, rfl, rfl, rfl, rfl, rfl, fun y hy => by have h : y ≠ 0 := by omega
                                                           simp [PG.put, PG.begC, h], (TI.begC rfl rfl (by simp) (by simp)).put 0 _ (by omega), rfl⟩
theorem MJ.cellI {W w : World} {X : PG} {M : DM} {n t n6 c6 : Nat} {ad : Addr} (h : MJ W X M (idsL n) (.slice (some ad) n6 c6) w) (ht : t + 1 < n) : w.cell? (ad.add ((t : Int) + 1).toNat) = some (.int .i64 ((t : Int) + 1 + 1)) := by
  obtain ⟨hCi, hci, hni⟩ := C_of_rowk h.row
  rw [idsL_length] at hni
  obtain ⟨ad', ea', hc'⟩ := Kd.at_int hCi ((t : Int) + 1) (by omega) (by omega)
  injection ea' with ea'
  subst ea'
  have := idsL_rd (i := t + 1) (n := n) ht
  rw [show ((t + 1 : Nat) : Int) = (t : Int) + 1 by omega] at this
  rw [this] at hc'
  exact hc'
theorem MJ.cellJ {W w : World} {X : PG} {M : DM} {n t n6 c6 : Nat} {ad : Addr} (h : MJ W X M (idsL n) (.slice (some ad) n6 c6) w) (ht : t + 1 < n) : w.cell? (ad.add (t + 1)) = some (.int .i64 ((t : Int) + 1 + 1)) := by
  have := MJ.cellI h ht
  rwa [show ((t : Int) + 1).toNat = t + 1 by omega] at this
theorem MJ.cellK {W w : World} {X : PG} {M : DM} {n t n6 c6 : Nat} {ad : Addr} (h : MJ W X M (idsL n) (.slice (some ad) n6 c6) w) (ht : t + 1 < n) : w.cell? ⟨ad.block, ad.off + (t + 1), none⟩ = some (.int .i64 ((t : Int) + 1 + 1)) := by
  have h1 := MJ.cellJ h ht
  obtain ⟨g, cap, e, _⟩ := Kd.R_form (d := I64) h.row (by rw [idsL_length]; omega)
  have e1 : ad = ⟨g, 0, none⟩ := by
    injection e with e1 _ _
    exact Option.some.inj e1
  rw [e1] at h1 ⊢
  simpa [Addr.add] using h1
set_option maxHeartbeats 8000000 in
set_option maxRecDepth 100000 in
theorem marks_any (md : Int) (A A1 A2 : Option Addr) (len cap n1 k1 n2 k2 : Nat) (w : World) :
    Calls Tryz.prog 5 #[.agg #[.int .i64 md, .slice A len cap, .slice A1 n1 k1, .slice A2 n2 k2]] w fun e w' => e = .returned (.bool true) ∧ Below w.heap.size w w' := by
  obtain ⟨bx, hbx⟩ : ∃ bx, bx = w.heap.size := ⟨_, rfl⟩
  obtain ⟨W, hW⟩ : ∃ W, W = w.alloc (.cells #[.int .i64 md, .slice A len cap, .slice A1 n1 k1, .slice A2 n2 k2] 62) := ⟨_, rfl⟩
  have HD := Aside0.mk (dnew_nil W)
  have hmo := (mode12_or md).2
  obtain ⟨mo, hmo'⟩ : ∃ mo, mo = mode12 md := ⟨_, rfl⟩
  rw [← hmo'] at hmo
  have HMm := Aside0.mk (And.intro hmo hmo')
  have HW := Aside0.mk (And.intro hbx hW)
  clear hbx hmo hmo'
  go_enter Tryz.func5, Tryz.ntmps5
  go_wp2_with fail
  rw [← hW]
  refine (HD.out).mono ?_
  rintro e w1 ⟨rfl, hD, hb⟩
  have hbW : W.heap[bx]? = some (.cells #[.int .i64 md, .slice A len cap, .slice A1 n1 k1, .slice A2 n2 k2] 62 (0, 0)) := by rw [HW.out.1, HW.out.2]; exact heap_alloc_new w _
  have hbx1 := (hb.block bx (heap_lt hbW)).trans hbW
  have e0 : w1.cell? ⟨bx, 0, none⟩ = some (.int .i64 md) := cell_of_row w1 bx 0 _ _ (0, 0) hbx1
  have H1 := Aside0.mk (And.intro hD.tight' (And.intro hb hbW))
  have HMo := Aside0.mk (mode12_any md w1)
  rw [← HMm.out.2] at HMo
  clear hD hb hW hbW hbx1
  obtain ⟨d, hd⟩ : ∃ d, d = W.heap.size + 2 := ⟨_, rfl⟩
  rw [← hd, ← HW.out.1]
  have Hd := Aside0.mk hd
  clear hd
  go_wp2_with (first
    | (go_at_call 15; refine (num12_any _ _).mono ?_; rintro e w' ⟨rfl, rfl⟩)
    | (go_at_call 17; refine HMo.out.mono ?_; rintro e w' ⟨rfl, m0, rfl⟩)
    | (go_at_call 30; refine (lopen_any (w := w1.drewN m0) ((Hd.out ▸ H1.out.1 : DiskAt w1 d M0 _).drewN m0) JQ.zero (fun k hk => hk.2) mo HMm.out.1).mono ?_; rintro e w3 ⟨rfl, hS3, hb3⟩
       obtain ⟨X, hX⟩ : ∃ X, X = newPG ((w1.drewN m0).heap.size + 1) d (w1.drewN m0).heap.size mo 0 := ⟨_, rfl⟩
       have hXp : (w1.drewN m0).heap.size + 1 = X.p := by rw [hX]; rfl
       rw [← hX] at hS3
       rw [show dp ((w1.drewN m0).heap.size + 1) = dp X.p from by rw [hXp]]
       have hs1 : W.heap.size ≤ w1.heap.size := H1.out.2.1.size
       have hM3 : MJ W X M0 [] nilV w3 := MJ.of hS3 (fun k hk => hk.elim (fun h => h.1) (fun h => Nat.le_trans hs1 h)) (H1.out.2.1.trans ((below_undrawn hb3).mono hs1))
       have HBg := Aside0.mk (m_beg hM3 quiet0 (by omega) DL.zero (by rw [hX]; exact HMm.out.1.elim (fun h => .inr ⟨h, rfl⟩) .inl) (by rw [hX]; rfl) (by rw [hX]; rfl) (by rw [hX]; rfl))
       have HX := Aside0.mk hX
       clear hS3 hb3 hX hXp hs1 hM3)
    | (go_at_call 19; refine (HBg.out).mono ?_; rintro e w4 ⟨rfl, M', s, hM4, hL4, hq4⟩
       have H4 := Aside0.mk (And.intro hM4 (And.intro hL4 hq4))
       clear hM4 hL4 hq4)
    | (go_at_call 21; refine (page12_any 1 _).mono ?_; rintro e w5 ⟨v5, rfl, hv5, hb5⟩
       obtain ⟨b5, c5, rfl, _⟩ := Kd.R_form hv5 (by rw [pg12_length]; omega)
       rw [pg12_length] at hv5 ⊢
       have hWr := m_write (cb := c5) H4.out.1 hb5 0 (by rw [HX.out]; rfl) rfl (by omega) (by omega) (C_of_row hv5).1 (fun ad e => by cases e; exact ⟨row_base hv5, row_lt hv5⟩)
       rw [show (X.begC s (comB [] [] 0)).p = X.p from rfl] at hWr
       have HWr := Aside0.mk hWr
       clear hv5 hb5 hWr)
    | (go_at_call 20; refine (HWr.out).mono ?_; rintro e w6 ⟨rfl, hM6⟩
       have hbx6 := (hM6.below.block bx (heap_lt H1.out.2.2)).trans H1.out.2.2
       have e1 : w6.cell? ⟨bx, 1, none⟩ = some (.slice A len cap) := cell_of_row w6 bx 1 _ _ (0, 0) hbx6
       have H6 := Aside0.mk hM6
       clear hM6 hbx6)
    | (go_at_call 18; refine (within_any (len : Int) 6 (by omega) (by omega) _).mono ?_; rintro e w' ⟨r, rfl, hr6, hrr, m1, rfl⟩; clear hrr))
  obtain ⟨X0, hX0⟩ : ∃ X0, X0 = (X.begC s (comB [] [] 0)).put 0 (pg12 1) := ⟨_, rfl⟩
  have HK : Aside0 (Mk0 X0 ∧ X0.p = X.p ∧ X0.mode = mo ∧ MJ W X0 M' [] nilV w6) := ⟨⟨by rw [hX0, HX.out]; exact mk0_start _ _ _ _ _ _ DL.zero.com_nil, by rw [hX0]; rfl, by rw [hX0, HX.out]; rfl, by rw [hX0]; exact H6.out⟩⟩
  obtain ⟨p, hp⟩ : ∃ p, p = X.p := ⟨_, rfl⟩
  rw [← hp] at HK ⊢
  clear hX0 hp
  have HR6 := Aside0.mk hr6
  have hr100 : r ≤ 50 := by omega
  go_loopw [6, 8] (fun v6 v8 wr => ∃ (i : Nat) (A6 : Option Addr) (n6 c6 : Nat), v6 = .slice A6 n6 c6 ∧ v8 = .int .i64 i ∧ i ≤ 1 + r ∧ Aside0 (MJ W (mkX X0 i) M' (idsL i) (.slice A6 n6 c6) wr)) (fun _ v8 _ => 1 + r - (intOf v8).toNat)
  case atStart => exact ⟨0, none, 0, 0, rfl, rfl, by omega, ⟨HK.out.2.2.2.drewN _⟩⟩
  case round =>
    obtain ⟨i, A6, n6, c6, rfl, rfl, hi, HI⟩ := hrel
    have HXI := Aside0.mk (mkX_inv HK.out.1 i (by omega))
    obtain ⟨X1, hX1⟩ : ∃ X1, X1 = mkX X0 i := ⟨_, rfl⟩
    rw [← hX1] at HI HXI
    have hp1 : X1.p = p := HXI.out.same.1.trans HK.out.2.1
    by_cases h5 : (i : Int) < 1 + (r : Int)
    · have hMk := m_mark HI.out HXI.out.dead HXI.out.inn (by rw [HXI.out.next]; omega) (by rw [HXI.out.next]; omega) (by rw [HXI.out.len]; omega)
      rw [hp1, HXI.out.next] at hMk
      have HMk := Aside0.mk hMk
      have HX1 := Aside0.mk (And.intro hX1 hp1)
      clear hMk hX1 hp1
      go_wp2_with (first
        | (go_at_call 15; refine (num12_any _ _).mono ?_; rintro e w' ⟨rfl, rfl⟩)
        | (go_at_call 32; refine HMk.out.mono ?_; rintro e w7 ⟨rfl, hM7⟩; have H7 := Aside0.mk hM7; clear hM7)
        | (go_at_call 21
           have h9 := H9.out
           refine (page12_any ((i : Int) + 50) _).mono ?_; rintro e w10 ⟨v10, rfl, hv10, hb10⟩
           obtain ⟨b10, c10, rfl, _⟩ := Kd.R_form hv10 (by rw [pg12_length]; omega)
           rw [pg12_length] at hv10 ⊢
           have hWr := m_write (cb := c10) h9 hb10 0 HXI.out.dead HXI.out.inn (by omega) (by omega) (C_of_row hv10).1 (fun ad e => by cases e; exact ⟨row_base hv10, row_lt hv10⟩)
           rw [show (X1.mkd.put ((i : Int) + 1) (pg12 ((i : Int) + 2))).p = p from HX1.out.2] at hWr
           have HWr2 := Aside0.mk hWr
           clear h9 hv10 hb10 hWr)
        | (go_at_call 21
           refine (page12_any ((i : Int) + 2) _).mono ?_; rintro e w8 ⟨v8, rfl, hv8, hb8⟩
           obtain ⟨b8, c8, rfl, _⟩ := Kd.R_form hv8 (by rw [pg12_length]; omega)
           rw [pg12_length] at hv8 ⊢
           have hWr := m_write (cb := c8) H7.out hb8 ((i : Int) + 1) HXI.out.dead HXI.out.inn (by omega) (by omega) (C_of_row hv8).1 (fun ad e => by cases e; exact ⟨row_base hv8, row_lt hv8⟩)
           rw [show X1.mkd.p = p from HX1.out.2] at hWr
           have HWr1 := Aside0.mk hWr
           clear hv8 hb8 hWr)
        | (go_at_call 20; refine HWr2.out.mono ?_; rintro e w11 ⟨rfl, hM11⟩
           have hM12 : MJ W (mkX X0 (i + 1)) M' (idsL i) (.slice A6 n6 c6) w11 := by
             show MJ W (mkStep (mkX X0 i) i) M' _ _ _
             rw [← HX1.out.1]
             exact hM11
           obtain ⟨A12, n12, c12, w12, hrun, hM13⟩ := hM12.app ((i : Int) + 1) (by rw [idsL_length]; omega)
           rw [← idsL_succ] at hM13
           have H12 := Aside0.mk hM13
           clear hM11 hM12 hM13)
        | (go_at_call 20; refine HWr1.out.mono ?_; rintro e w9 ⟨rfl, hM9⟩; have H9 := Aside0.mk hM9; clear hM9)
        | (at_builtin; refine appendL_ rfl (.tmp 82) (.tmp 84) 60 60 rfl rfl rfl hrun ?_))
      go_roundw
      case rel => exact ⟨i + 1, A12, n12, c12, rfl, by go_num, by omega, ⟨H12.out⟩⟩
      case measure => simp [intOf]; omega
    · obtain rfl : i = 1 + r := by omega
      have p1 : decide (1 + (r : Int) < 1 + (r : Int)) = false := decide_eq_false (by omega)
      rw [show ((1 + r : Nat) : Int) = 1 + (r : Int) by omega]
      have hB0 := BkI.start HK.out.1 (n := r) (by omega)
      rw [Nat.add_comm r 1, ← hX1] at hB0
      have hrow := HI.out.row
      obtain ⟨hCi, hci, hni⟩ := C_of_rowk hrow
      rw [idsL_length] at hni
      have HB0 := Aside0.mk hB0
      have HIR := Aside0.mk hni
      clear hX1 hp1 hB0 hrow hCi hci hni HXI hi h5
      go_wp2
      go_loopw [11] (fun v11 wr => ∃ j : Nat, v11 = .int .i64 ((j : Int) - 1) ∧ j ≤ 1 + r ∧ Aside0 (∃ X, MJ W X M' (idsL (1 + r)) (.slice A6 n6 c6) wr ∧ BkI X0 (1 + r) (j - 1) X ∧ (j = 0 → X.count = 1 ∧ X.own 0 = some (pg12 1) ∧ ∀ y, 0 < y → X.own y = none))) (fun v11 _ => (intOf v11 + 1).toNat)
      case atStart => exact ⟨1 + r, by go_num, by omega, ⟨X1, HI.out, by rw [Nat.add_sub_cancel_left]; exact HB0.out, fun h => by omega⟩⟩
      case round =>
        clear HI HB0
        obtain ⟨j, rfl, hj, HI⟩ := hrel
        by_cases hj0 : j = 0
        · subst hj0
          obtain ⟨X, hMJ, hBk, hz⟩ := HI.out
          obtain ⟨hz1, hz2, hz3⟩ := hz rfl
          have hmX : X.mode = 2 ∨ X.mode = 1 ∧ ([] : List BK) = [] := by rw [hBk.same.2, HK.out.2.2.1]; exact HMm.out.1.elim (fun h => .inr ⟨h, rfl⟩) .inl
          have hCm := m_com hMJ H4.out.2.2 (by omega) H4.out.2.1 hmX hBk.dead hBk.inn hBk.ti (by rw [hBk.was]; exact DL.zero.com_nil.symm) (by simp [logB])
          have hpX : X.p = p := hBk.same.1.trans HK.out.2.1
          rw [hpX] at hCm
          have HCm := Aside0.mk hCm
          obtain ⟨r1, r2⟩ := res_spec hBk.ti (hMJ.own_len hBk.inn)
          rw [hz1] at r1
          have hv0 : PP.pageAt (resB X) 0 = pg12 1 := by
            have := r2 0
            rw [this]
            unfold PG.view
            rw [show ((0 : Nat) : Int) = 0 from rfl, hz2]
            rfl
          have HY := Aside0.mk (And.intro r1 (And.intro hv0 (And.intro hpX (And.intro hBk.dead (And.intro hBk.inn hmX)))))
          clear hMJ hBk hz hz1 hz2 hz3 hmX hCm hpX r1 r2 hv0 HI
          go_wp2_with (first
            | (go_at_call 15; refine (num12_any _ _).mono ?_; rintro e w' ⟨rfl, rfl⟩)
            | (go_at_call 26; refine HCm.out.mono ?_; rintro e w20 ⟨rfl, M2, s2, c2', bs2, k2', hM20, hL20, hq20, hm20, hcom, _⟩
               have H20 := Aside0.mk (And.intro hM20 (And.intro hL20 (And.intro hq20 (And.intro hm20 hcom))))
               clear hM20 hL20 hq20 hm20 hcom)
            | (go_at_call 21; refine (page12_any 1 _).mono ?_; rintro e w21 ⟨v21, rfl, hv21, hb21⟩
               have h20 := H20.out
               obtain ⟨A21, c21, rfl⟩ := Kd.R_slice hv21
               rw [pg12_length] at hv21 ⊢
               have H21 := Aside0.mk (And.intro hv21 hb21)
               clear hv21 hb21 h20)
            | (go_at_call 28
               obtain ⟨hv21, hb21⟩ := H21.out
               have hbW : Below w20.heap.size w20 (w21.alloc (.cells #[.slice A21 512 c21] 48)) := hb21.alloc hb21.size _
               obtain ⟨ok, hS, hok⟩ := H20.out.1.ex
               have hBeg := s_beg (hS.below hbW) H20.out.2.2.1 (by omega) H20.out.2.1 H20.out.2.2.2.1 HY.out.2.2.2.1 rfl rfl
               rw [H20.out.2.2.2.2, show (X.sured s2).ended.p = p from HY.out.2.2.1] at hBeg
               have hwant : WantAt (w21.alloc (.cells #[.slice A21 512 c21] 48)) (fun k => ¬ ok k) (some ⟨w21.heap.size, 0, none⟩) 1 1 [pg12 1] := by
                 refine ⟨rfl, Nat.le_refl _, fun i bs hi => ?_⟩
                 have h0 : i = 0 := by
                   have := (List.getElem?_eq_some_iff.1 hi).1
                   simpa using this
                 subst h0
                 obtain rfl : pg12 1 = bs := by simpa using hi
                 have s21 := hb21.size
                 exact ⟨w21.heap.size, 0, _, rfl, cell_of_row _ _ 0 _ _ (0, 0) (heap_alloc_new w21 _), fun h => by have := (hok _ h).2.1; omega, pg12_length 1, Kd.R_mono (Kd.R_lower (Kd.R_alloc hv21 _) (Nat.zero_le _)) (fun k hk h => by have := (hok _ h).2.1; omega)⟩
               have hSm := same_ex (R := fun Xb _ => ∃ s3, Xb = (X.sured s2).ended.begC s3 (resB X)) (n := 1) (c := 1) (L := [pg12 1]) (hBeg.mono (by
                 rintro e w' ⟨rfl, M3, s3, hS3, _, _⟩
                 exact ⟨rfl, _, _, ⟨s3, rfl⟩, hS3⟩)) (by
                 rintro Xb Mb ⟨s3, rfl⟩
                 refine ⟨HY.out.2.2.1, HY.out.2.2.2.1, rfl, ?_, ?_, fun i bs hi => ?_⟩
                 · show (resB X).length ≤ _
                   rw [HY.out.1]; decide
                 · show (((resB X).length / 512 : Nat) : Int) = _
                   rw [HY.out.1]; rfl
                 · have h0 : i = 0 := by
                     have := (List.getElem?_eq_some_iff.1 hi).1
                     simpa using this
                   subst h0
                   obtain rfl : pg12 1 = bs := by simpa using hi
                   exact (page_nat ((X.sured s2).ended.begC s3 (resB X)) 0).trans HY.out.2.1) hwant (by omega)
               refine hSm.mono ?_; rintro e w22 ⟨rfl, Xb, Mb, _, hS22⟩
               have H22 := Aside0.mk (((H20.out.1.below.trans (hbW.mono H20.out.1.below.size))).trans (hS22.2.below (fun k hk => (hok k hk).1) (Nat.le_trans H20.out.1.below.size hbW.size)))
               clear hv21 hb21 hbW hS hok hBeg hwant hSm hS22)
            | (go_at_call 29; refine (wakes12_any _).mono ?_; rintro e w23 ⟨rfl, hb23⟩; have H23 := Aside0.mk hb23; clear hb23))
          go_ret
          have hbW : Below w.heap.size w W := by rw [HW.out.2]; exact (Below.refl _ _).alloc (Nat.le_refl _) _
          have h22 := H22.out
          exact ⟨rfl, hbW.trans ((h22.trans (H23.out.mono h22.size)).mono hbW.size)⟩
        · obtain ⟨t, rfl⟩ : ∃ t, j = t + 1 := ⟨j - 1, by omega⟩
          obtain ⟨X, hMJ, hBk, _⟩ := HI.out
          rw [show ((t + 1 : Nat) : Int) - 1 = (t : Int) by omega]
          rw [Nat.add_sub_cancel] at hBk
          have htr : t < 1 + r := by omega
          have hkt := hBk.marks t (Nat.le_refl _)
          obtain ⟨k, hk⟩ : ∃ k, k = (⟨(t : Int) + 1, (mkX X0 t).own, (mkX X0 t).count⟩ : Mk) := ⟨_, rfl⟩
          rw [← hk] at hkt
          have hkn : k.n = (t : Int) + 1 := by rw [hk]
          have hpX : X.p = p := hBk.same.1.trans HK.out.2.1
          have hB := m_back hMJ hBk.dead hBk.inn (by have := hBk.len; omega) hkt hkn (fun j' hj' x hx => by
            rw [hBk.marks j' (by omega)] at hx
            obtain rfl := Option.some.inj hx
            show ((j' : Int) + 1) ≠ _
            omega)
          rw [hpX] at hB
          obtain ⟨s1, s2, s3, s4, s5⟩ := hBk.step HK.out.1 (by omega) hkt
          obtain ⟨Y, hY⟩ : ∃ Y, Y = X.bkd k t := ⟨_, rfl⟩
          rw [← hY] at hB s1 s2 s3 s4 s5
          have HBk := Aside0.mk hB
          have HBK : Aside0 (BkI X0 (1 + r) t Y ∧ Y.count = (t : Int) + 1 ∧ Y.own 0 = some (wantB t) ∧ (∀ y, (t : Int) < y → Y.own y = none) ∧ Y.marks.length = t + 1) := ⟨⟨s1, s2, s3, s4, s5⟩⟩
          have HV1 : Aside0 (Y.view ((t : Int) + 1) = zeros) := ⟨by
            show Y.view ((t : Int) + 1) = List.replicate 512 0
            unfold PG.view
            rw [s4 _ (by omega), Option.getD_none]
            unfold PG.page
            rw [if_neg (by rw [s1.was]; simp; omega)]⟩
          have HNo : Aside0 (∀ k ∈ Y.marks, k.n ≠ (t : Int) + 1 + 1) := ⟨fun x hx => by
            obtain ⟨j', hj'⟩ := List.getElem?_of_mem hx
            have hl := (List.getElem?_eq_some_iff.1 hj').1
            rw [s1.marks j' (by omega)] at hj'
            obtain rfl := Option.some.inj hj'
            show ((j' : Int) + 1) ≠ _
            omega⟩
          have hview0 : Y.view 0 = wantB t := by unfold PG.view; rw [s3]; rfl
          obtain ⟨hCi, hci, _⟩ := C_of_rowk hMJ.row
          obtain ⟨ad, ea, hcell⟩ := Kd.at_int hCi (t : Int) (by omega) (by have := HIR.out; omega)
          rw [idsL_rd htr, Int.toNat_natCast] at hcell
          subst ea
          have hlt1 : (t : Int) < (n6 : Int) := by have := HIR.out; omega
          have ht50 : t ≤ 60 := by omega
          have htr2 : (t : Int) ≤ 1 + (r : Int) := by omega
          clear hMJ hBk hkt hk hkn hpX hB s1 s2 s3 s4 s5 hY hCi hci hj hj0 HI htr
          have HBD : Aside0 (BkI X0 (1 + r) (t - 1) Y) := ⟨by
            cases t with
            | zero => exact HBK.out.1
            | succ t => exact HBK.out.1.down⟩
          by_cases ht0 : t = 0
          · have HV0 : Aside0 (Y.view 0 = pg12 1) := ⟨by rw [hview0]; unfold wantB; rw [if_pos ht0]⟩
            have ht0' : (t : Int) ≤ 0 := by omega
            have q0 : decide ((0 : Int) < (t : Int)) = false := decide_eq_false (by omega)
            clear hview0 ht0
            by_cases h9 : t + 1 < 1 + r
            · have q9 : decide ((t : Int) + 1 < 1 + (r : Int)) = true := decide_eq_true (by omega)
              have hlt2 : (t : Int) + 1 < (n6 : Int) := by have := HIR.out; omega
              have HT9 := Aside0.mk h9
              have h9' : (t : Int) + 1 < 1 + (r : Int) := by omega
              clear h9
              go_wp2_with (go_at_call 15; refine (num12_any _ _).mono ?_; rintro e w' ⟨rfl, rfl⟩)
              refine HBk.out.mono ?_
              rintro e w7 ⟨rfl, hM7⟩
              have hCt := m_count hM7
              rw [HBK.out.2.1, HBK.out.1.same.1.trans HK.out.2.1] at hCt
              have HCt := Aside0.mk hCt
              have H7 := Aside0.mk hM7
              clear hM7 hCt hcell
              go_wp2_with (go_at_call 15; refine (num12_any _ _).mono ?_; rintro e w' ⟨rfl, rfl⟩)
              refine HCt.out.mono ?_
              rintro e w' ⟨rfl, rfl⟩
              clear HCt HBk
              go_wp2_with (go_at_call 15; refine (num12_any _ _).mono ?_; rintro e w' ⟨rfl, rfl⟩)
              refine (page12_any (1) _).mono ?_
              rintro e w9 ⟨v9, rfl, hv9, hb9⟩
              obtain ⟨A9, c9, rfl⟩ := Kd.R_slice hv9
              rw [pg12_length] at hv9 ⊢
              have HWn := Aside0.mk (And.intro (H7.out.step hb9) hv9)
              clear hv9 hb9
              go_wp2_with (go_at_call 15; refine (num12_any _ _).mono ?_; rintro e w' ⟨rfl, rfl⟩)
              have hRd := m_read HWn.out.1 0 HBK.out.1.dead HBK.out.1.inn (by omega) (by omega) (by rw [HBK.out.1.was]; simp)
              rw [HV0.out, HBK.out.1.same.1.trans HK.out.2.1] at hRd
              refine hRd.mono ?_
              rintro e w10 ⟨v10, rfl, hv10, hb10⟩
              obtain ⟨A10, c10, rfl⟩ := Kd.R_slice hv10
              rw [pg12_length] at hv10 ⊢
              have H10 := Aside0.mk (And.intro (HWn.out.1.step hb10) (And.intro (Kd.R_below HWn.out.2 hb10) hv10))
              clear hRd hv10 hb10
              go_wp2_with (go_at_call 15; refine (num12_any _ _).mono ?_; rintro e w' ⟨rfl, rfl⟩)
              have h10 := H10.out
              have hRd := m_read h10.1 ((t : Int) + 1) HBK.out.1.dead HBK.out.1.inn (by omega) (by omega) (by rw [HBK.out.1.was]; simp)
              rw [HV1.out, HBK.out.1.same.1.trans HK.out.2.1] at hRd
              refine hRd.mono ?_
              rintro e w11 ⟨v11, rfl, hv11, hb11⟩
              obtain ⟨A11, c11, rfl⟩ := Kd.R_slice hv11
              rw [show zeros.length = 512 from List.length_replicate] at hv11 ⊢
              have hv10 := Kd.R_below h10.2.2 hb11
              have hvw := Kd.R_below h10.2.1 hb11
              obtain ⟨hC10, hc10, _⟩ := C_of_row hv10
              obtain ⟨hCw, hcw, _⟩ := C_of_row hvw
              have hE := eqbytes_any hC10 hc10 hCw hcw (by omega)
              rw [decide_eq_true rfl] at hE
              have HE1 := Aside0.mk hE
              have H11 := Aside0.mk (And.intro (h10.1.step hb11) hv11)
              clear h10 hRd hv11 hb11 hv10 hvw hC10 hc10 hCw hcw hE
              go_wp2_with (go_at_call 15; refine (num12_any _ _).mono ?_; rintro e w' ⟨rfl, rfl⟩)
              refine HE1.out.mono ?_
              rintro e w' ⟨rfl, mq1, rfl⟩
              clear HE1
              have hmk := make512
              go_wp2_with fail
              clear hmk
              have hC12 := made512 (w11.drewN mq1)
              have hb12 : Below (w11.drewN mq1).heap.size (w11.drewN mq1) ((w11.drewN mq1).alloc (.cells (madeCells #[.int .u8 0] 512) 5)) := (Below.refl _ _).alloc (Nat.le_refl _) _
              have hM12 := (H11.out.1.drewN mq1).step hb12
              have hv11 := Kd.R_below (Kd.R_drewN H11.out.2 mq1) hb12
              obtain ⟨hC11, hc11, _⟩ := C_of_row hv11
              have hE := eqbytes_any hC11 hc11 hC12 (Nat.le_refl 512) (by omega)
              rw [decide_eq_true rfl] at hE
              refine hE.mono ?_
              rintro e wz ⟨rfl, hmq⟩
              have HZ : Aside0 (MJ W Y M' (idsL (1 + r)) (.slice (some ad) n6 c6) wz) := ⟨by
                obtain ⟨mq2, rfl⟩ := hmq
                exact hM12.drewN mq2⟩
              clear hmq hM12 hv11 hC11 hc11 hC12 hE hb12
              have e2 := MJ.cellI HZ.out HT9.out
              have e3 := MJ.cellK HZ.out HT9.out
              go_wp2_with fail
              have hBn := m_back_no HZ.out HBK.out.1.dead HBK.out.1.inn ((t : Int) + 1 + 1) (by rw [HBK.out.2.2.2.2]; omega) HNo.out
              rw [HBK.out.1.same.1.trans HK.out.2.1] at hBn
              refine hBn.mono ?_
              rintro e w13 ⟨rfl, hM13⟩
              have H13 := Aside0.mk hM13
              clear hBn hM13 e2 e3
              go_wp2_with (go_at_call 15; refine (num12_any _ _).mono ?_; rintro e w' ⟨rfl, rfl⟩)
              go_roundw
              case rel => exact ⟨t, by go_num, by omega, ⟨Y, H13.out, HBD.out, fun h0 => by subst h0; exact ⟨by rw [HBK.out.2.1]; rfl, by rw [HBK.out.2.2.1]; rfl, fun y hy => HBK.out.2.2.2.1 y (by simpa using hy)⟩⟩⟩
              case measure => first | (simp [intOf]; done) | (simp [intOf]; omega)
            · have q9 : decide ((t : Int) + 1 < 1 + (r : Int)) = false := decide_eq_false (by omega)
              have h9' : 1 + (r : Int) ≤ (t : Int) + 1 := by omega
              clear h9
              go_wp2_with (go_at_call 15; refine (num12_any _ _).mono ?_; rintro e w' ⟨rfl, rfl⟩)
              refine HBk.out.mono ?_
              rintro e w7 ⟨rfl, hM7⟩
              have hCt := m_count hM7
              rw [HBK.out.2.1, HBK.out.1.same.1.trans HK.out.2.1] at hCt
              have HCt := Aside0.mk hCt
              have H7 := Aside0.mk hM7
              clear hM7 hCt hcell
              go_wp2_with (go_at_call 15; refine (num12_any _ _).mono ?_; rintro e w' ⟨rfl, rfl⟩)
              refine HCt.out.mono ?_
              rintro e w' ⟨rfl, rfl⟩
              clear HCt HBk
              go_wp2_with (go_at_call 15; refine (num12_any _ _).mono ?_; rintro e w' ⟨rfl, rfl⟩)
              refine (page12_any (1) _).mono ?_
              rintro e w9 ⟨v9, rfl, hv9, hb9⟩
              obtain ⟨A9, c9, rfl⟩ := Kd.R_slice hv9
              rw [pg12_length] at hv9 ⊢
              have HWn := Aside0.mk (And.intro (H7.out.step hb9) hv9)
              clear hv9 hb9
              go_wp2_with (go_at_call 15; refine (num12_any _ _).mono ?_; rintro e w' ⟨rfl, rfl⟩)
              have hRd := m_read HWn.out.1 0 HBK.out.1.dead HBK.out.1.inn (by omega) (by omega) (by rw [HBK.out.1.was]; simp)
              rw [HV0.out, HBK.out.1.same.1.trans HK.out.2.1] at hRd
              refine hRd.mono ?_
              rintro e w10 ⟨v10, rfl, hv10, hb10⟩
              obtain ⟨A10, c10, rfl⟩ := Kd.R_slice hv10
              rw [pg12_length] at hv10 ⊢
              have H10 := Aside0.mk (And.intro (HWn.out.1.step hb10) (And.intro (Kd.R_below HWn.out.2 hb10) hv10))
              clear hRd hv10 hb10
              go_wp2_with (go_at_call 15; refine (num12_any _ _).mono ?_; rintro e w' ⟨rfl, rfl⟩)
              have h10 := H10.out
              have hRd := m_read h10.1 ((t : Int) + 1) HBK.out.1.dead HBK.out.1.inn (by omega) (by omega) (by rw [HBK.out.1.was]; simp)
              rw [HV1.out, HBK.out.1.same.1.trans HK.out.2.1] at hRd
              refine hRd.mono ?_
              rintro e w11 ⟨v11, rfl, hv11, hb11⟩
              obtain ⟨A11, c11, rfl⟩ := Kd.R_slice hv11
              rw [show zeros.length = 512 from List.length_replicate] at hv11 ⊢
              have hv10 := Kd.R_below h10.2.2 hb11
              have hvw := Kd.R_below h10.2.1 hb11
              obtain ⟨hC10, hc10, _⟩ := C_of_row hv10
              obtain ⟨hCw, hcw, _⟩ := C_of_row hvw
              have hE := eqbytes_any hC10 hc10 hCw hcw (by omega)
              rw [decide_eq_true rfl] at hE
              have HE1 := Aside0.mk hE
              have H11 := Aside0.mk (And.intro (h10.1.step hb11) hv11)
              clear h10 hRd hv11 hb11 hv10 hvw hC10 hc10 hCw hcw hE
              go_wp2_with (go_at_call 15; refine (num12_any _ _).mono ?_; rintro e w' ⟨rfl, rfl⟩)
              refine HE1.out.mono ?_
              rintro e w' ⟨rfl, mq1, rfl⟩
              clear HE1
              have hmk := make512
              go_wp2_with fail
              clear hmk
              have hC12 := made512 (w11.drewN mq1)
              have hb12 : Below (w11.drewN mq1).heap.size (w11.drewN mq1) ((w11.drewN mq1).alloc (.cells (madeCells #[.int .u8 0] 512) 5)) := (Below.refl _ _).alloc (Nat.le_refl _) _
              have hM12 := (H11.out.1.drewN mq1).step hb12
              have hv11 := Kd.R_below (Kd.R_drewN H11.out.2 mq1) hb12
              obtain ⟨hC11, hc11, _⟩ := C_of_row hv11
              have hE := eqbytes_any hC11 hc11 hC12 (Nat.le_refl 512) (by omega)
              rw [decide_eq_true rfl] at hE
              refine hE.mono ?_
              rintro e wz ⟨rfl, hmq⟩
              have HZ : Aside0 (MJ W Y M' (idsL (1 + r)) (.slice (some ad) n6 c6) wz) := ⟨by
                obtain ⟨mq2, rfl⟩ := hmq
                exact hM12.drewN mq2⟩
              clear hmq hM12 hv11 hC11 hc11 hC12 hE hb12
              have H13 := HZ
              go_wp2
              go_roundw
              case rel => exact ⟨t, by go_num, by omega, ⟨Y, H13.out, HBD.out, fun h0 => by subst h0; exact ⟨by rw [HBK.out.2.1]; rfl, by rw [HBK.out.2.2.1]; rfl, fun y hy => HBK.out.2.2.2.1 y (by simpa using hy)⟩⟩⟩
              case measure => first | (simp [intOf]; done) | (simp [intOf]; omega)
          · have HV0 : Aside0 (Y.view 0 = pg12 ((t : Int) + 49)) := ⟨by rw [hview0]; unfold wantB; rw [if_neg ht0]⟩
            have ht0' : 0 < (t : Int) := by omega
            have q0 : decide ((0 : Int) < (t : Int)) = true := decide_eq_true (by omega)
            clear hview0 ht0
            by_cases h9 : t + 1 < 1 + r
            · have q9 : decide ((t : Int) + 1 < 1 + (r : Int)) = true := decide_eq_true (by omega)
              have hlt2 : (t : Int) + 1 < (n6 : Int) := by have := HIR.out; omega
              have HT9 := Aside0.mk h9
              have h9' : (t : Int) + 1 < 1 + (r : Int) := by omega
              clear h9
              go_wp2_with (go_at_call 15; refine (num12_any _ _).mono ?_; rintro e w' ⟨rfl, rfl⟩)
              refine HBk.out.mono ?_
              rintro e w7 ⟨rfl, hM7⟩
              have hCt := m_count hM7
              rw [HBK.out.2.1, HBK.out.1.same.1.trans HK.out.2.1] at hCt
              have HCt := Aside0.mk hCt
              have H7 := Aside0.mk hM7
              clear hM7 hCt hcell
              go_wp2_with (go_at_call 15; refine (num12_any _ _).mono ?_; rintro e w' ⟨rfl, rfl⟩)
              refine HCt.out.mono ?_
              rintro e w' ⟨rfl, rfl⟩
              clear HCt HBk
              go_wp2_with (go_at_call 15; refine (num12_any _ _).mono ?_; rintro e w' ⟨rfl, rfl⟩)
              refine (page12_any (1) _).mono ?_
              rintro e w8 ⟨v8, rfl, hv8, hb8⟩
              obtain ⟨A8, c8, rfl⟩ := Kd.R_slice hv8
              rw [pg12_length] at hv8 ⊢
              have H8 := Aside0.mk (And.intro (H7.out.step hb8) hv8)
              clear hv8 hb8
              go_wp2_with (go_at_call 15; refine (num12_any _ _).mono ?_; rintro e w' ⟨rfl, rfl⟩)
              refine (page12_any ((t : Int) + 49) _).mono ?_
              rintro e w9 ⟨v9, rfl, hv9, hb9⟩
              obtain ⟨A9, c9, rfl⟩ := Kd.R_slice hv9
              rw [pg12_length] at hv9 ⊢
              have HWn := Aside0.mk (And.intro (H8.out.1.step hb9) hv9)
              clear hv9 hb9
              go_wp2_with (go_at_call 15; refine (num12_any _ _).mono ?_; rintro e w' ⟨rfl, rfl⟩)
              have hRd := m_read HWn.out.1 0 HBK.out.1.dead HBK.out.1.inn (by omega) (by omega) (by rw [HBK.out.1.was]; simp)
              rw [HV0.out, HBK.out.1.same.1.trans HK.out.2.1] at hRd
              refine hRd.mono ?_
              rintro e w10 ⟨v10, rfl, hv10, hb10⟩
              obtain ⟨A10, c10, rfl⟩ := Kd.R_slice hv10
              rw [pg12_length] at hv10 ⊢
              have H10 := Aside0.mk (And.intro (HWn.out.1.step hb10) (And.intro (Kd.R_below HWn.out.2 hb10) hv10))
              clear hRd hv10 hb10
              go_wp2_with (go_at_call 15; refine (num12_any _ _).mono ?_; rintro e w' ⟨rfl, rfl⟩)
              have h10 := H10.out
              have hRd := m_read h10.1 ((t : Int) + 1) HBK.out.1.dead HBK.out.1.inn (by omega) (by omega) (by rw [HBK.out.1.was]; simp)
              rw [HV1.out, HBK.out.1.same.1.trans HK.out.2.1] at hRd
              refine hRd.mono ?_
              rintro e w11 ⟨v11, rfl, hv11, hb11⟩
              obtain ⟨A11, c11, rfl⟩ := Kd.R_slice hv11
              rw [show zeros.length = 512 from List.length_replicate] at hv11 ⊢
              have hv10 := Kd.R_below h10.2.2 hb11
              have hvw := Kd.R_below h10.2.1 hb11
              obtain ⟨hC10, hc10, _⟩ := C_of_row hv10
              obtain ⟨hCw, hcw, _⟩ := C_of_row hvw
              have hE := eqbytes_any hC10 hc10 hCw hcw (by omega)
              rw [decide_eq_true rfl] at hE
              have HE1 := Aside0.mk hE
              have H11 := Aside0.mk (And.intro (h10.1.step hb11) hv11)
              clear h10 hRd hv11 hb11 hv10 hvw hC10 hc10 hCw hcw hE
              go_wp2_with (go_at_call 15; refine (num12_any _ _).mono ?_; rintro e w' ⟨rfl, rfl⟩)
              refine HE1.out.mono ?_
              rintro e w' ⟨rfl, mq1, rfl⟩
              clear HE1
              have hmk := make512
              go_wp2_with fail
              clear hmk
              have hC12 := made512 (w11.drewN mq1)
              have hb12 : Below (w11.drewN mq1).heap.size (w11.drewN mq1) ((w11.drewN mq1).alloc (.cells (madeCells #[.int .u8 0] 512) 5)) := (Below.refl _ _).alloc (Nat.le_refl _) _
              have hM12 := (H11.out.1.drewN mq1).step hb12
              have hv11 := Kd.R_below (Kd.R_drewN H11.out.2 mq1) hb12
              obtain ⟨hC11, hc11, _⟩ := C_of_row hv11
              have hE := eqbytes_any hC11 hc11 hC12 (Nat.le_refl 512) (by omega)
              rw [decide_eq_true rfl] at hE
              refine hE.mono ?_
              rintro e wz ⟨rfl, hmq⟩
              have HZ : Aside0 (MJ W Y M' (idsL (1 + r)) (.slice (some ad) n6 c6) wz) := ⟨by
                obtain ⟨mq2, rfl⟩ := hmq
                exact hM12.drewN mq2⟩
              clear hmq hM12 hv11 hC11 hc11 hC12 hE hb12
              have e2 := MJ.cellI HZ.out HT9.out
              have e3 := MJ.cellK HZ.out HT9.out
              go_wp2_with fail
              have hBn := m_back_no HZ.out HBK.out.1.dead HBK.out.1.inn ((t : Int) + 1 + 1) (by rw [HBK.out.2.2.2.2]; omega) HNo.out
              rw [HBK.out.1.same.1.trans HK.out.2.1] at hBn
              refine hBn.mono ?_
              rintro e w13 ⟨rfl, hM13⟩
              have H13 := Aside0.mk hM13
              clear hBn hM13 e2 e3
              go_wp2_with (go_at_call 15; refine (num12_any _ _).mono ?_; rintro e w' ⟨rfl, rfl⟩)
              go_roundw
              case rel => exact ⟨t, by go_num, by omega, ⟨Y, H13.out, HBD.out, fun h0 => by subst h0; exact ⟨by rw [HBK.out.2.1]; rfl, by rw [HBK.out.2.2.1]; rfl, fun y hy => HBK.out.2.2.2.1 y (by simpa using hy)⟩⟩⟩
              case measure => first | (simp [intOf]; done) | (simp [intOf]; omega)
            · have q9 : decide ((t : Int) + 1 < 1 + (r : Int)) = false := decide_eq_false (by omega)
              have h9' : 1 + (r : Int) ≤ (t : Int) + 1 := by omega
              clear h9
              go_wp2_with (go_at_call 15; refine (num12_any _ _).mono ?_; rintro e w' ⟨rfl, rfl⟩)
              refine HBk.out.mono ?_
              rintro e w7 ⟨rfl, hM7⟩
              have hCt := m_count hM7
              rw [HBK.out.2.1, HBK.out.1.same.1.trans HK.out.2.1] at hCt
              have HCt := Aside0.mk hCt
              have H7 := Aside0.mk hM7
              clear hM7 hCt hcell
              go_wp2_with (go_at_call 15; refine (num12_any _ _).mono ?_; rintro e w' ⟨rfl, rfl⟩)
              refine HCt.out.mono ?_
              rintro e w' ⟨rfl, rfl⟩
              clear HCt HBk
              go_wp2_with (go_at_call 15; refine (num12_any _ _).mono ?_; rintro e w' ⟨rfl, rfl⟩)
              refine (page12_any (1) _).mono ?_
              rintro e w8 ⟨v8, rfl, hv8, hb8⟩
              obtain ⟨A8, c8, rfl⟩ := Kd.R_slice hv8
              rw [pg12_length] at hv8 ⊢
              have H8 := Aside0.mk (And.intro (H7.out.step hb8) hv8)
              clear hv8 hb8
              go_wp2_with (go_at_call 15; refine (num12_any _ _).mono ?_; rintro e w' ⟨rfl, rfl⟩)
              refine (page12_any ((t : Int) + 49) _).mono ?_
              rintro e w9 ⟨v9, rfl, hv9, hb9⟩
              obtain ⟨A9, c9, rfl⟩ := Kd.R_slice hv9
              rw [pg12_length] at hv9 ⊢
              have HWn := Aside0.mk (And.intro (H8.out.1.step hb9) hv9)
              clear hv9 hb9
              go_wp2_with (go_at_call 15; refine (num12_any _ _).mono ?_; rintro e w' ⟨rfl, rfl⟩)
              have hRd := m_read HWn.out.1 0 HBK.out.1.dead HBK.out.1.inn (by omega) (by omega) (by rw [HBK.out.1.was]; simp)
              rw [HV0.out, HBK.out.1.same.1.trans HK.out.2.1] at hRd
              refine hRd.mono ?_
              rintro e w10 ⟨v10, rfl, hv10, hb10⟩
              obtain ⟨A10, c10, rfl⟩ := Kd.R_slice hv10
              rw [pg12_length] at hv10 ⊢
              have H10 := Aside0.mk (And.intro (HWn.out.1.step hb10) (And.intro (Kd.R_below HWn.out.2 hb10) hv10))
              clear hRd hv10 hb10
              go_wp2_with (go_at_call 15; refine (num12_any _ _).mono ?_; rintro e w' ⟨rfl, rfl⟩)
              have h10 := H10.out
              have hRd := m_read h10.1 ((t : Int) + 1) HBK.out.1.dead HBK.out.1.inn (by omega) (by omega) (by rw [HBK.out.1.was]; simp)
              rw [HV1.out, HBK.out.1.same.1.trans HK.out.2.1] at hRd
              refine hRd.mono ?_
              rintro e w11 ⟨v11, rfl, hv11, hb11⟩
              obtain ⟨A11, c11, rfl⟩ := Kd.R_slice hv11
              rw [show zeros.length = 512 from List.length_replicate] at hv11 ⊢
              have hv10 := Kd.R_below h10.2.2 hb11
              have hvw := Kd.R_below h10.2.1 hb11
              obtain ⟨hC10, hc10, _⟩ := C_of_row hv10
              obtain ⟨hCw, hcw, _⟩ := C_of_row hvw
              have hE := eqbytes_any hC10 hc10 hCw hcw (by omega)
              rw [decide_eq_true rfl] at hE
              have HE1 := Aside0.mk hE
              have H11 := Aside0.mk (And.intro (h10.1.step hb11) hv11)
              clear h10 hRd hv11 hb11 hv10 hvw hC10 hc10 hCw hcw hE
              go_wp2_with (go_at_call 15; refine (num12_any _ _).mono ?_; rintro e w' ⟨rfl, rfl⟩)
              refine HE1.out.mono ?_
              rintro e w' ⟨rfl, mq1, rfl⟩
              clear HE1
              have hmk := make512
              go_wp2_with fail
              clear hmk
              have hC12 := made512 (w11.drewN mq1)
              have hb12 : Below (w11.drewN mq1).heap.size (w11.drewN mq1) ((w11.drewN mq1).alloc (.cells (madeCells #[.int .u8 0] 512) 5)) := (Below.refl _ _).alloc (Nat.le_refl _) _
              have hM12 := (H11.out.1.drewN mq1).step hb12
              have hv11 := Kd.R_below (Kd.R_drewN H11.out.2 mq1) hb12
              obtain ⟨hC11, hc11, _⟩ := C_of_row hv11
              have hE := eqbytes_any hC11 hc11 hC12 (Nat.le_refl 512) (by omega)
              rw [decide_eq_true rfl] at hE
              refine hE.mono ?_
              rintro e wz ⟨rfl, hmq⟩
              have HZ : Aside0 (MJ W Y M' (idsL (1 + r)) (.slice (some ad) n6 c6) wz) := ⟨by
                obtain ⟨mq2, rfl⟩ := hmq
                exact hM12.drewN mq2⟩
              clear hmq hM12 hv11 hC11 hc11 hC12 hE hb12
              have H13 := HZ
              go_wp2
              go_roundw
              case rel => exact ⟨t, by go_num, by omega, ⟨Y, H13.out, HBD.out, fun h0 => by subst h0; exact ⟨by rw [HBK.out.2.1]; rfl, by rw [HBK.out.2.2.1]; rfl, fun y hy => HBK.out.2.2.2.1 y (by simpa using hy)⟩⟩⟩
              case measure => first | (simp [intOf]; done) | (simp [intOf]; omega)
end Go.Proofs.YtmdpgjdepflbmaaGreat

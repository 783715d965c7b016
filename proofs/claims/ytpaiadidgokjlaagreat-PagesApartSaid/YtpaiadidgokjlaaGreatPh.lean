/-
  held, Read, Write, Free, Held, Root, SetRoot of a file of pages.
-/
import Derived.Test.YtpaiadidgokjlaaGreatPg
namespace Go.Proofs.YtpaiadidgokjlaaGreat
open Go.RowKit Go.Maps Go.Proofs.YtpaiadidgokjlaaGreatW.PrintWords Go.Proofs.YtpaiadidgokjlaaGreatW.PrintLast Go.Proofs.YtpaiadidgokjlaaGreatW.PrintMore
open Go.Proofs.YtpaiadidgokjlaaGreat.PPagesModel
set_option linter.unusedVariables false
set_option linter.unusedSimpArgs false

/-- a page is held -/
def HeldP (Z : Bytes) (n : Int) : Prop := 1 ≤ n ∧ n ≤ wordZ Z 16 ∧ heldZ Z n.toNat = true

set_option maxRecDepth 100000 in
theorem gheld_yes {w : World} {g : Nat} {B : PG} {M : DM} {V : Int → Bytes} {cnt : Int} {ok : Nat → Prop} (h : FAt w g B M V cnt ok) (hZ : GoodZ (V 0)) (n : Int) (hn : HeldP (V 0) n) :
    Calls Tryz.prog 76 #[dp g, .int .i64 n] w fun e w' => ∃ v, e = .returned (.tuple #[v, .int .i64 0]) ∧ U8.R 5 w' w.heap.size (fun k => w.heap.size ≤ k) v (V 0) ∧ Below w.heap.size w w' := by
  have HO := Aside0.mk (gown_any h)
  obtain ⟨n1, n2, n3⟩ := hn
  have htop := hZ.top
  obtain ⟨m, rfl⟩ : ∃ m : Nat, n = m := ⟨n.toNat, by omega⟩
  rw [Int.toNat_natCast] at n3
  have HX := Aside0.mk (And.intro hZ n3)
  obtain ⟨Z, hZe⟩ : ∃ Z, Z = V 0 := ⟨_, rfl⟩
  rw [← hZe] at HO HX n2 htop ⊢
  clear hZe h hZ n3
  have m1 : 1 ≤ m := by omega
  have m2 : m ≤ 3936 := by omega
  have q0 : decide ((m : Int) < 1) = false := by simp; omega
  have q2 : decide ((4096 : Int) ≤ m) = false := by simp; omega
  have q3 : decide ((m : Int) ≤ 3936) = true := by simp; omega
  obtain ⟨t, ht⟩ : ∃ t, t = wordZ Z 16 := ⟨_, rfl⟩
  rw [← ht] at n2 htop
  have q1 : decide (t < (m : Int)) = false := by simp; omega
  have HT := Aside0.mk ht
  clear ht htop n1
  go_enter Tryz.func76, Tryz.ntmps76
  go_wp2_with fail
  refine (HO.out).mono ?_
  rintro e w1 ⟨v, rfl, hv, hb⟩
  obtain ⟨gz, c3, rfl, _, _, _⟩ := Kd.R_form hv (by rw [HX.out.1.pg.len]; omega)
  rw [HX.out.1.pg.len] at hv ⊢
  obtain ⟨hC, hc, hl⟩ := C_of_row hv
  have HW := wordc HX.out.1.pg hc hC 16 16 rfl (by omega)
  rw [← HT.out] at HW
  replace HW := Aside0.mk HW
  have HV := Aside0.mk (And.intro hv hb)
  clear hv hb hC hc hl
  go_wp2_with fail
  refine (HW.out).mono ?_
  rintro e w' ⟨rfl, a1, rfl⟩
  have HBit := Aside0.mk (bitc (w1.drewN a1) m m1 (by omega))
  go_wp2_with fail
  refine (HBit.out).mono ?_
  rintro e w' ⟨rfl, a2, rfl⟩
  have hbl := bitAt_lt m1 m2
  obtain ⟨hx, hf, hput⟩ := row_cell (Kd.R_drewN HV.out.1 (a1 + a2)) (bitAt m) hbl.2
  have hne : (Go.bits .and .u8 (Z.getD (bitAt m) 0) (mask m) == 0) = false := by
    rw [beq_eq_false_iff_ne]
    intro e
    have := (held_and HX.out.1.pg m).1 e
    rw [HX.out.2] at this
    cases this
  generalize bitAt m = j at *
  generalize mask m = mk at *
  generalize Z.getD j 0 = z at *
  have hj : j < 512 := hbl.2
  have hj' : (j : Int) < 512 := by omega
  have hj'' : (0 : Int) ≤ j := by omega
  clear hput hbl
  go_wp2
  go_ret2
  exact ⟨_, rfl, by rw [show (512 : Nat) = Z.length from HX.out.1.pg.len.symm] at HV ⊢; exact Kd.R_drewN HV.out.1 _, pw_below_drewN HV.out.2 _⟩

set_option maxRecDepth 100000 in
theorem gheld_no {w : World} {g : Nat} {B : PG} {M : DM} {V : Int → Bytes} {cnt : Int} {ok : Nat → Prop} (h : FAt w g B M V cnt ok) (hZ : GoodZ (V 0)) (n : Int) (hn : ¬ HeldP (V 0) n) :
    Calls Tryz.prog 76 #[dp g, .int .i64 n] w fun e w' => e = .returned (.tuple #[.slice none 0 0, .int .i64 1]) ∧ Below w.heap.size w w' := by
  have HO := Aside0.mk (gown_any h)
  have htop := hZ.top
  have HX := Aside0.mk hZ
  obtain ⟨Z, hZe⟩ : ∃ Z, Z = V 0 := ⟨_, rfl⟩
  rw [← hZe] at HO HX hn htop
  obtain ⟨t, ht⟩ : ∃ t, t = wordZ Z 16 := ⟨_, rfl⟩
  rw [← ht] at htop
  have HT := Aside0.mk (And.intro ht hn)
  clear hZe h hZ hn ht
  by_cases c1 : n < 1
  · have q0 : decide (n < 1) = true := by simp; omega
    clear c1
    go_enter Tryz.func76, Tryz.ntmps76
    go_wp2_with fail
    refine (HO.out).mono ?_
    rintro e w1 ⟨v, rfl, hv, hb⟩
    obtain ⟨A3, c3, rfl⟩ := Kd.R_slice hv
    have HV := Aside0.mk hb
    clear hv hb
    go_wp2
    go_ret2
    exact ⟨rfl, HV.out⟩
  · have q0 : decide (n < 1) = false := by simp; omega
    by_cases c2 : t < n
    · have q1 : decide (t < n) = true := by simp; omega
      clear c1 c2
      go_enter Tryz.func76, Tryz.ntmps76
      go_wp2_with fail
      refine (HO.out).mono ?_
      rintro e w1 ⟨v, rfl, hv, hb⟩
      obtain ⟨gz, c3, rfl, _, _, _⟩ := Kd.R_form hv (by rw [HX.out.pg.len]; omega)
      rw [HX.out.pg.len] at hv ⊢
      obtain ⟨hC, hc, hl⟩ := C_of_row hv
      have HW := wordc HX.out.pg hc hC 16 16 rfl (by omega)
      rw [← HT.out.1] at HW
      replace HW := Aside0.mk HW
      have HV := Aside0.mk hb
      clear hv hb hC hc hl
      go_wp2_with fail
      refine (HW.out).mono ?_
      rintro e w' ⟨rfl, a1, rfl⟩
      go_wp2
      go_ret2
      exact ⟨rfl, pw_below_drewN HV.out _⟩
    · have q1 : decide (t < n) = false := by simp; omega
      obtain ⟨m, rfl⟩ : ∃ m : Nat, n = m := ⟨n.toNat, by omega⟩
      have m1 : 1 ≤ m := by omega
      have m2 : m ≤ 3936 := by omega
      have q2 : decide ((4096 : Int) ≤ m) = false := by simp; omega
      have q3 : decide ((m : Int) ≤ 3936) = true := by simp; omega
      have HN : Aside0 (heldZ Z m = false) := ⟨by
        have := HT.out.2
        unfold HeldP at this
        rw [Int.toNat_natCast, ← HT.out.1] at this
        cases hh : heldZ Z m with
        | false => rfl
        | true => exact absurd ⟨by omega, by omega, hh⟩ this⟩
      clear c1 c2
      go_enter Tryz.func76, Tryz.ntmps76
      go_wp2_with fail
      refine (HO.out).mono ?_
      rintro e w1 ⟨v, rfl, hv, hb⟩
      obtain ⟨gz, c3, rfl, _, _, _⟩ := Kd.R_form hv (by rw [HX.out.pg.len]; omega)
      rw [HX.out.pg.len] at hv ⊢
      obtain ⟨hC, hc, hl⟩ := C_of_row hv
      have HW := wordc HX.out.pg hc hC 16 16 rfl (by omega)
      rw [← HT.out.1] at HW
      replace HW := Aside0.mk HW
      have HV := Aside0.mk (And.intro hv hb)
      clear hv hb hC hc hl
      go_wp2_with fail
      refine (HW.out).mono ?_
      rintro e w' ⟨rfl, a1, rfl⟩
      have HBit := Aside0.mk (bitc (w1.drewN a1) m m1 (by omega))
      go_wp2_with fail
      refine (HBit.out).mono ?_
      rintro e w' ⟨rfl, a2, rfl⟩
      have hbl := bitAt_lt m1 m2
      obtain ⟨hx, hf, hput⟩ := row_cell (Kd.R_drewN HV.out.1 (a1 + a2)) (bitAt m) hbl.2
      have hne : (Go.bits .and .u8 (Z.getD (bitAt m) 0) (mask m) == 0) = true := beq_iff_eq.2 ((held_and HX.out.pg m).2 HN.out)
      generalize bitAt m = j at *
      generalize mask m = mk at *
      generalize Z.getD j 0 = z at *
      have hj : j < 512 := hbl.2
      have hj' : (j : Int) < 512 := by omega
      have hj'' : (0 : Int) ≤ j := by omega
      clear hput hbl
      go_wp2
      go_ret2
      exact ⟨rfl, pw_below_drewN HV.out.2 _⟩

/-- Read -/
theorem gread_yes {w : World} {g : Nat} {B : PG} {M : DM} {V : Int → Bytes} {cnt : Int} {ok : Nat → Prop} (h : FAt w g B M V cnt ok) (hZ : GoodZ (V 0)) (n : Int) (hn : HeldP (V 0) n) :
    Calls Tryz.prog 21 #[dp g, .int .i64 n] w fun e w' => ∃ v, e = .returned (.tuple #[v, .int .i64 0]) ∧ U8.R 5 w' w.heap.size (fun k => w.heap.size ≤ k) v (V n) ∧ Below w.heap.size w w' := by
  have HH := Aside0.mk (gheld_yes h hZ n hn)
  have hg := h.cell
  have hlt := h.lt
  have n0 : 0 ≤ n := by have := hn.1; omega
  have n1 : n < 4096 := by have := hn.2.1; have := hZ.top; omega
  have HX := Aside0.mk h
  clear h hZ hn
  go_enter Tryz.func21, Tryz.ntmps21
  go_wp2_with fail
  refine (HH.out).mono ?_
  rintro e w1 ⟨v, rfl, hv, hb⟩
  obtain ⟨A3, c3, rfl⟩ := Kd.R_slice hv
  have hg1 := (hb.cell (p := ⟨g, 0, none⟩) hlt).trans hg
  have HR := Aside0.mk (f_read (HX.out.below hb) n n0 n1)
  have HB := Aside0.mk hb
  clear hv hb
  go_wp2_with fail
  refine (HR.out).mono ?_
  rintro e w2 ⟨v2, rfl, hv2, hb2⟩
  obtain ⟨A4, c4, rfl⟩ := Kd.R_slice hv2
  have HV := Aside0.mk (And.intro hv2 hb2)
  clear hv2 hb2
  go_wp2
  go_ret2
  exact ⟨_, rfl, Kd.R_lower (Kd.R_mono HV.out.1 (fun k hk => Nat.le_trans HB.out.size hk)) HB.out.size, HB.out.trans (HV.out.2.mono HB.out.size)⟩
theorem gread_no {w : World} {g : Nat} {B : PG} {M : DM} {V : Int → Bytes} {cnt : Int} {ok : Nat → Prop} (h : FAt w g B M V cnt ok) (hZ : GoodZ (V 0)) (n : Int) (hn : ¬ HeldP (V 0) n) :
    Calls Tryz.prog 21 #[dp g, .int .i64 n] w fun e w' => e = .returned (.tuple #[.slice none 0 0, .int .i64 1]) ∧ Below w.heap.size w w' := by
  have HH := Aside0.mk (gheld_no h hZ n hn)
  clear h hZ hn
  go_enter Tryz.func21, Tryz.ntmps21
  go_wp2_with fail
  refine (HH.out).mono ?_
  rintro e w1 ⟨rfl, hb⟩
  have HB := Aside0.mk hb
  clear hb
  go_wp2
  go_ret2
  exact ⟨rfl, HB.out⟩

/-- Write -/
theorem gwr_yes {w : World} {g : Nat} {B : PG} {M : DM} {V : Int → Bytes} {cnt : Int} {ok : Nat → Prop} (h : FAt w g B M V cnt ok) (hZ : GoodZ (V 0)) (n : Int) (hn : HeldP (V 0) n)
    {A : Option Addr} {cb : Nat} {bs : Bytes} (hC : U8.C w A 512 bs) (hA : ∀ ad, A = some ad → ¬ ok ad.block ∧ ad.block < w.heap.size) :
    Calls Tryz.prog 19 #[dp g, .int .i64 n, .slice A 512 cb] w fun e w' => e = .returned (.int .i64 0) ∧ FLeft w g B M (fun y => if y = n then bs else V y) (max cnt (n + 1)) ok w' := by
  have HH := Aside0.mk (gheld_yes h hZ n hn)
  have hg := h.cell
  have hlt := h.lt
  have n0 : 0 ≤ n := by have := hn.1; omega
  have n1 : n < 4096 := by have := hn.2.1; have := hZ.top; omega
  have HX := Aside0.mk (And.intro h.tight (And.intro hC hA))
  clear h hZ hn hC hA
  go_enter Tryz.func19, Tryz.ntmps19
  go_wp2_with fail
  refine (HH.out).mono ?_
  rintro e w1 ⟨v, rfl, hv, hb⟩
  obtain ⟨A3, c3, rfl⟩ := Kd.R_slice hv
  have hg1 := (hb.cell (p := ⟨g, 0, none⟩) hlt).trans hg
  have HR := Aside0.mk (f_write (cb := cb) (HX.out.1.move hb.size (fun k hk hl => hb.block k hl)) n n0 n1 (Kd.C_below HX.out.2.1 hb) (fun ad e => ⟨fun hk => (HX.out.2.2 ad e).1 hk.1, Nat.lt_of_lt_of_le (HX.out.2.2 ad e).2 hb.size⟩))
  have HB := Aside0.mk hb
  clear hv hb
  go_wp2_with fail
  refine (HR.out).mono ?_
  rintro e w2 ⟨rfl, hL⟩
  have HL := Aside0.mk hL
  clear hL
  go_wp2
  go_ret
  exact ⟨rfl, HL.out.lift HB.out⟩
theorem gwr_no {w : World} {g : Nat} {B : PG} {M : DM} {V : Int → Bytes} {cnt : Int} {ok : Nat → Prop} (h : FAt w g B M V cnt ok) (hZ : GoodZ (V 0)) (n : Int) (hn : ¬ HeldP (V 0) n) (A : Option Addr) (nb cb : Nat) :
    Calls Tryz.prog 19 #[dp g, .int .i64 n, .slice A nb cb] w fun e w' => e = .returned (.int .i64 1) ∧ Below w.heap.size w w' := by
  have HH := Aside0.mk (gheld_no h hZ n hn)
  clear h hZ hn
  go_enter Tryz.func19, Tryz.ntmps19
  go_wp2_with fail
  refine (HH.out).mono ?_
  rintro e w1 ⟨rfl, hb⟩
  have HB := Aside0.mk hb
  clear hb
  go_wp2
  go_ret
  exact ⟨rfl, HB.out⟩
theorem gfree_no {w : World} {g : Nat} {B : PG} {M : DM} {V : Int → Bytes} {cnt : Int} {ok : Nat → Prop} (h : FAt w g B M V cnt ok) (hZ : GoodZ (V 0)) (n : Int) (hn : ¬ HeldP (V 0) n) :
    Calls Tryz.prog 23 #[dp g, .int .i64 n] w fun e w' => e = .returned (.int .i64 1) ∧ Below w.heap.size w w' := by
  have HH := Aside0.mk (gheld_no h hZ n hn)
  clear h hZ hn
  go_enter Tryz.func23, Tryz.ntmps23
  go_wp2_with fail
  refine (HH.out).mono ?_
  rintro e w1 ⟨rfl, hb⟩
  have HB := Aside0.mk hb
  clear hb
  go_wp2
  go_ret
  exact ⟨rfl, HB.out⟩
end Go.Proofs.YtpaiadidgokjlaaGreat

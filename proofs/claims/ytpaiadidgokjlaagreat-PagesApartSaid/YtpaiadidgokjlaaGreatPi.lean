/-
  Held, Free, Root, SetRoot of a file of pages.
-/
import Derived.Test.YtpaiadidgokjlaaGreatPh
namespace Go.Proofs.YtpaiadidgokjlaaGreat
open Go.RowKit Go.Maps Go.Proofs.YtpaiadidgokjlaaGreatW.PrintWords Go.Proofs.YtpaiadidgokjlaaGreatW.PrintLast Go.Proofs.YtpaiadidgokjlaaGreatW.PrintMore
open Go.Proofs.YtpaiadidgokjlaaGreat.PPagesModel
set_option linter.unusedVariables false
set_option linter.unusedSimpArgs false

/-- the held pages up to one -/
def heldTo (Z : Bytes) : Nat → List Int
  | 0 => []
  | m + 1 => heldTo Z m ++ (if heldZ Z (m + 1) = true then [((m + 1 : Nat) : Int)] else [])
def heldL (Z : Bytes) : List Int := heldTo Z (wordZ Z 16).toNat
theorem heldTo_length (Z : Bytes) : ∀ m, (heldTo Z m).length ≤ m
  | 0 => by simp [heldTo]
  | m + 1 => by
    have := heldTo_length Z m
    unfold heldTo
    rw [List.length_append]
    split <;> simp <;> omega
abbrev I64 := Kd.int .i64
structure HJ (w1 : World) (Z : Bytes) (t i : Nat) (v7 : Value) (W : World) : Prop where
  row : I64.R 3 W w1.heap.size (fun k => w1.heap.size ≤ k) v7 (heldTo Z i)
  below : Below w1.heap.size w1 W

set_option maxHeartbeats 1000000 in
set_option maxRecDepth 100000 in
theorem gheldl_any {w : World} {g : Nat} {B : PG} {M : DM} {V : Int → Bytes} {cnt : Int} {ok : Nat → Prop} (h : FAt w g B M V cnt ok) (hZ : GoodZ (V 0)) :
    Calls Tryz.prog 24 #[dp g] w fun e w' => ∃ v, e = .returned (.tuple #[v, .int .i64 0]) ∧ I64.R 3 w' w.heap.size (fun k => w.heap.size ≤ k) v (heldL (V 0)) ∧ Below w.heap.size w w' := by
  have HO := Aside0.mk (gown_any h)
  have HX := Aside0.mk hZ
  have htop := hZ.top
  have htn := (wordZ_nn hZ.pg 16).1
  obtain ⟨Z, hZe⟩ : ∃ Z, Z = V 0 := ⟨_, rfl⟩
  rw [← hZe] at HO HX htop htn ⊢
  obtain ⟨t, ht⟩ : ∃ t : Nat, wordZ Z 16 = t := ⟨(wordZ Z 16).toNat, by omega⟩
  have ht2 : t ≤ 3936 := by omega
  have HT := Aside0.mk (And.intro ht htop)
  clear hZe h hZ ht htop htn
  go_enter Tryz.func24, Tryz.ntmps24
  go_wp2_with fail
  refine (HO.out).mono ?_
  rintro e w1 ⟨v, rfl, hv, hb⟩
  obtain ⟨gz, c3, rfl, _, _, _⟩ := Kd.R_form hv (by rw [HX.out.pg.len]; omega)
  rw [HX.out.pg.len] at hv ⊢
  obtain ⟨hC, hc, hl⟩ := C_of_row hv
  have HH := Aside0.mk (high_none g HX.out.pg hc hC HX.out.first (by have := HX.out.top; omega))
  have HV := Aside0.mk (And.intro hv (And.intro hb (And.intro hC hc)))
  have hgl := row_lt hv
  clear hv hb hC hc hl
  go_wp2_with fail
  refine (HH.out).mono ?_
  rintro e w' ⟨rfl, a0, rfl⟩
  go_wp2
  go_loopg [7, 8] t (fun kq v7 v8 w' => ∃ x : Int, v8 = .int .i64 x ∧ Aside0 (∃ i : Nat, x = (i : Int) + 1 ∧ i + kq = t ∧ HJ w1 Z t i v7 w'))
  case atStart => exact ⟨1, rfl, ⟨0, rfl, by omega, Kd.R_nil _ _ _ _ _, pw_below_drewN (Below.refl _ _) _⟩⟩
  case round =>
    obtain ⟨x, rfl, HI⟩ := hrel
    have HW : Aside0 (Calls Tryz.prog 71 #[.slice (some ⟨gz, 0, none⟩) 512 c3, .int .i64 16] wr fun e w' => e = .returned (.int .i64 t) ∧ ∃ m, w' = wr.drewN m) := ⟨by
      obtain ⟨i, _, _, hj⟩ := HI.out
      have := wordc HX.out.pg HV.out.2.2.2 (Kd.C_below HV.out.2.2.1 hj.below) 16 16 rfl (by omega)
      rw [HT.out.1] at this
      exact this⟩
    cases gk with
    | zero =>
      have q0 : decide (x ≤ (t : Int)) = false := by obtain ⟨i, h1, h2, _⟩ := HI.out; simp; omega
      go_wp2_with (go_at_call 71; refine (HW.out).mono ?_; rintro e w' ⟨rfl, m, rfl⟩)
      go_ret2
      obtain ⟨i, h1, h2, hj⟩ := HI.out
      have e1 : heldL Z = heldTo Z i := by unfold heldL; rw [HT.out.1]; congr 1; omega
      rw [e1]
      exact ⟨_, rfl, Kd.R_drewN (Kd.R_lower (Kd.R_mono hj.row (fun k hk => Nat.le_trans HV.out.2.1.size hk)) HV.out.2.1.size) _, pw_below_drewN (HV.out.2.1.trans (hj.below.mono HV.out.2.1.size)) _⟩
    | succ k1 =>
      have q0 : decide (x ≤ (t : Int)) = true := by obtain ⟨i, h1, h2, _⟩ := HI.out; simp; omega
      obtain ⟨i, hxi, hik, hj⟩ := HI.out
      have x1 : 1 ≤ x := by omega
      have x2 : x ≤ 3936 := by omega
      have q1 : decide (x ≤ (3936 : Int)) = true := by simp; omega
      have HBit := Aside0.mk (fun a => bitc' (wr.drewN a) x (i + 1) (by omega) (by omega) (by omega))
      have HJ' := Aside0.mk (And.intro hxi (And.intro hik hj))
      have hbl := bitAt_lt (n := i + 1) (by omega) (by omega)
      obtain ⟨hx, hf, hput⟩ := row_cell (Kd.R_below HV.out.1 hj.below) (bitAt (i + 1)) hbl.2
      clear hf hput hxi hik hj
      by_cases hh : heldZ Z (i + 1) = true
      · have hne : (Go.bits .and .u8 (Z.getD (bitAt (i + 1)) 0) (mask (i + 1)) == 0) = false := by
          rw [beq_eq_false_iff_ne]
          intro e
          have := (held_and HX.out.pg (i + 1)).1 e
          rw [hh] at this
          cases this
        have HHh := Aside0.mk hh
        clear hh
        generalize bitAt (i + 1) = j at *
        generalize mask (i + 1) = mk at *
        generalize Z.getD j 0 = z at *
        have hj : j < 512 := hbl.2
        have hj' : (j : Int) < 512 := by omega
        have hj'' : (0 : Int) ≤ j := by omega
        clear hbl
        go_wp2_with (first
          | (go_at_call 71; refine (HW.out).mono ?_; rintro e w' ⟨rfl, a1, rfl⟩)
          | (go_at_call 74; refine (HBit.out _).mono ?_; rintro e w' ⟨rfl, a2, rfl⟩)
          | ((with_reducible refine gate_builtin (b := .append) (xs := #[.tmp 51, .tmp 53]) rfl ?_); at_builtin; refine Kd.R_append I64 (w0 := w1) w1.heap.size rfl (.tmp 51) (.tmp 53) 28 3 (.int .i64 0) 8 rfl Tryz.underlying28 info3 rfl (by decide) (by omega) u7 (heldTo Z i) x [.int .i64 x] (fun k => w1.heap.size ≤ k) (fun _ => False) rfl rfl ?aP (fun _ hk => hk.elim) ?aF ?aO ?aB ?aS ?aL ?_; (case aP => exact rfl); (case aF => exact (fun k hk => Nat.le_trans HJ'.out.2.2.below.size hk)); (case aO => exact Kd.R_drewN HJ'.out.2.2.row _); (case aB => exact pw_below_drewN HJ'.out.2.2.below _); (case aS => exact HJ'.out.2.2.below.size); (case aL => have := heldTo_length Z i; have := HJ'.out.2.1; omega); intro v1 w7 ho hb hg hat; have HA := Aside0.mk (And.intro ho hb); clear ho hb hg hat))
        go_roundg k1
        case measure => obtain ⟨_, h, _⟩ := HJ'.out; omega
        case rel =>
          obtain ⟨h1, h2, hj⟩ := HJ'.out
          refine ⟨x + 1, rfl, ⟨i + 1, by omega, by omega, ?_, HA.out.2⟩⟩
          have e1 : heldTo Z (i + 1) = heldTo Z i ++ [x] := by
            show heldTo Z i ++ (if heldZ Z (i + 1) = true then _ else []) = _
            rw [if_pos HHh.out, h1]; rfl
          rw [e1]
          exact HA.out.1
      · have hne : (Go.bits .and .u8 (Z.getD (bitAt (i + 1)) 0) (mask (i + 1)) == 0) = true := beq_iff_eq.2 ((held_and HX.out.pg (i + 1)).2 (by simpa using hh))
        have HHh := Aside0.mk hh
        clear hh
        generalize bitAt (i + 1) = j at *
        generalize mask (i + 1) = mk at *
        generalize Z.getD j 0 = z at *
        have hj : j < 512 := hbl.2
        have hj' : (j : Int) < 512 := by omega
        have hj'' : (0 : Int) ≤ j := by omega
        clear hbl
        go_wp2_with (first
          | (go_at_call 71; refine (HW.out).mono ?_; rintro e w' ⟨rfl, a1, rfl⟩)
          | (go_at_call 74; refine (HBit.out _).mono ?_; rintro e w' ⟨rfl, a2, rfl⟩))
        go_roundg k1
        case measure => obtain ⟨_, h, _⟩ := HJ'.out; omega
        case rel =>
          obtain ⟨h1, h2, hj⟩ := HJ'.out
          refine ⟨x + 1, rfl, ⟨i + 1, by omega, by omega, ?_, pw_below_drewN hj.below _⟩⟩
          have e1 : heldTo Z (i + 1) = heldTo Z i := by
            show heldTo Z i ++ (if heldZ Z (i + 1) = true then _ else []) = _
            rw [if_neg HHh.out, List.append_nil]
          rw [e1]
          exact Kd.R_drewN hj.row _

set_option maxHeartbeats 1000000 in
set_option maxRecDepth 100000 in
theorem gfree_yes {w : World} {g : Nat} {B : PG} {M : DM} {V : Int → Bytes} {cnt : Int} {ok : Nat → Prop} (h : FAt w g B M V cnt ok) (hZ : GoodZ (V 0)) (n : Nat) (hn : HeldP (V 0) n) :
    Calls Tryz.prog 23 #[dp g, .int .i64 n] w fun e w' => e = .returned (.int .i64 0) ∧ FLeft w g B M (updV V n (clrZ (V 0) n) zeros) (max (max cnt 1) (n + 1)) ok w' := by
  have HH := Aside0.mk (gheld_yes h hZ n hn)
  have n1 : 1 ≤ n := by have := hn.1; omega
  have n2 : n ≤ 3936 := by have := hn.2.1; have := hZ.top; omega
  have HX := Aside0.mk (And.intro h.tight hZ)
  obtain ⟨Z, hZe⟩ : ∃ Z, Z = V 0 := ⟨_, rfl⟩
  rw [← hZe] at HH HX ⊢
  clear h hZ hn hZe
  have q1 : decide ((n : Int) ≤ (3936 : Int)) = true := by simp; omega
  go_enter Tryz.func23, Tryz.ntmps23
  go_wp2_with fail
  refine (HH.out).mono ?_
  rintro e w1 ⟨v, rfl, hv, hb⟩
  obtain ⟨gz, c3, rfl, _, _, _⟩ := Kd.R_form hv (by rw [HX.out.2.pg.len]; omega)
  rw [HX.out.2.pg.len] at hv ⊢
  have HV := Aside0.mk (And.intro hv hb)
  have HBit := Aside0.mk (fun W => bitc W n n1 (by omega))
  clear hv hb
  go_wp2_with (first
    | ((with_reducible refine gate_dst (N := 19) rfl ?_); refine Kd.R_make U8 _ 5 rfl (N := 19) rfl 35 _ _ rfl 512 rfl rfl Tryz.underlying35 (.int .u8 0) 1 info5 rfl (by decide) (by omega) 0 (ok := fun k => w1.heap.size ≤ k) (okp := fun _ => False) rfl (fun _ hk => hk.elim) (Nat.le_refl _) (by omega) (by omega) (Below.refl _ _) (Nat.le_refl _) ?_; intro v5 w5 hR5 hb5 _ _; have H5 := Aside0.mk (And.intro hR5 hb5); clear hR5 hb5)
    | (go_at_call 74; refine (HBit.out _).mono ?_; rintro e w' ⟨rfl, a2, rfl⟩
       have hbl := bitAt_lt n1 n2
       obtain ⟨hx, hf, hput⟩ := row_cell (Kd.R_drewN (Kd.R_below HV.out.1 H5.out.2) a2) (bitAt n) hbl.2
       have HPut := Aside0.mk (hput (Go.bits .andNot .u8 (Z.getD (bitAt n) 0) (mask n)))
       have HOr := Aside0.mk (show Z.set (bitAt n) (Go.bits .andNot .u8 (Z.getD (bitAt n) 0) (mask n)) = clrZ Z n from rfl)
       generalize bitAt n = j at *
       generalize mask n = mk at *
       generalize Z.getD j 0 = z at *
       have hj : j < 512 := hbl.2
       have hj' : (j : Int) < 512 := by omega
       have hj'' : (0 : Int) ≤ j := by omega
       clear hput hbl))
  obtain ⟨A5, c5, rfl⟩ := Kd.R_slice H5.out.1
  rw [List.length_replicate] at H5 ⊢
  have hgz : w.heap.size ≤ gz := row_base HV.out.1
  have hgl : gz < w1.heap.size := row_lt HV.out.1
  have hb5 : Below w.heap.size w w5 := HV.out.2.trans (H5.out.2.mono HV.out.2.size)
  have hb6 : Below w.heap.size w ((w5.drewN a2).setCell ⟨gz, j, none⟩ (.int .u8 (bits .andNot .u8 z mk))) := below_set (pw_below_drewN hb5 _) hgz
  have hs6 : ((w5.drewN a2).setCell ⟨gz, j, none⟩ (.int .u8 (bits .andNot .u8 z mk))).heap.size = w5.heap.size := by simp [World.setCell]
  have hC6 := C_of_row HPut.out
  have hA5 : ∀ ad, A5 = some ad → w1.heap.size ≤ ad.block ∧ ad.block < w5.heap.size := fun ad e => by
    subst e
    exact ⟨H5.out.1.1 ad.block (by simp [Value.ownBlock]), own_lt (Kd.own_of_R H5.out.1) ad.block (by simp [Value.ownBlock])⟩
  have hR6 : U8.R 5 ((w5.drewN a2).setCell ⟨gz, j, none⟩ (.int .u8 (bits .andNot .u8 z mk))) w1.heap.size (fun k => w1.heap.size ≤ k) (.slice A5 512 c5) (List.replicate (Int.toNat 512) 0) := by
    refine Kd.R_step (Kd.R_drewN H5.out.1 a2) (fun k hk hl => ?_)
    exact Below.heap_setCell _ _ _ _ (by have : w1.heap.size ≤ k := hk; show k ≠ gz; omega)
  have hCn := C_of_row hR6
  have hsw := HV.out.2.size
  have hs5 : w1.heap.size ≤ w5.heap.size := H5.out.2.size
  have HG := Aside0.mk (gwrite_any (cz := c3) (cb := c5) (HX.out.1.move hb6.size (fun k hk hlt => hb6.block k hlt)) hC6.1 (fun ad e => by cases e; exact ⟨fun hk => by have := hk.2; show False; exact absurd this (Nat.not_lt.2 hgz), by rw [hs6]; exact Nat.lt_of_lt_of_le hgl hs5⟩) (n : Int) (by omega) (by omega) hCn.1 (fun ad e => ⟨fun hk => by have := hk.2; have := (hA5 ad e).1; omega, by rw [hs6]; exact (hA5 ad e).2⟩))
  have HB6 := Aside0.mk hb6
  clear hb5 hb6 hC6 hCn hA5 hs6 hs5 hsw hgz hgl hR6
  refine (HG.out).mono ?_
  rintro e w6 ⟨rfl, hL⟩
  have HL := Aside0.mk hL
  clear hL
  go_wp2
  go_ret
  rw [← HOr.out]
  exact ⟨rfl, HL.out.lift HB6.out⟩

theorem isroot_any (i : Int) (w : World) : Calls Tryz.prog 80 #[.int .i64 i] w fun e w' => e = .returned (.bool (decide (0 ≤ i ∧ i < 8))) ∧ w = w' := by
  by_cases h0 : 0 ≤ i <;> by_cases h1 : i < 8
  all_goals
    go_enter Tryz.func80, Tryz.ntmps80
    go_wp2
    go_ret
    exact ⟨by simp [h0, h1], rfl⟩
set_option maxRecDepth 100000 in
theorem groot_yes {w : World} {g : Nat} {B : PG} {M : DM} {V : Int → Bytes} {cnt : Int} {ok : Nat → Prop} (h : FAt w g B M V cnt ok) (hZ : GoodZ (V 0)) (i : Int) (h0 : 0 ≤ i) (h1 : i < 8) :
    Calls Tryz.prog 27 #[dp g, .int .i64 i] w fun e w' => e = .returned (.tuple #[.int .i64 (wordZ (V 0) (2 * i.toNat)), .int .i64 0]) ∧ Below w.heap.size w w' := by
  have HI := isroot_any i
  rw [decide_eq_true ⟨h0, h1⟩] at HI
  replace HI := Aside0.mk HI
  have HO := Aside0.mk (gown_any h)
  have HX := Aside0.mk hZ
  obtain ⟨Z, hZe⟩ : ∃ Z, Z = V 0 := ⟨_, rfl⟩
  rw [← hZe] at HO HX ⊢
  clear h hZ hZe
  go_enter Tryz.func27, Tryz.ntmps27
  go_wp2_with (first
    | (go_at_call 80; refine (HI.out _).mono ?_; rintro e w' ⟨rfl, rfl⟩)
    | (go_at_call 69; refine (HO.out).mono ?_; rintro e w1 ⟨v, rfl, hv, hb⟩
       obtain ⟨gz, c3, rfl, _, _, _⟩ := Kd.R_form hv (by rw [HX.out.pg.len]; omega)
       rw [HX.out.pg.len] at hv ⊢
       obtain ⟨hC, hc, hl⟩ := C_of_row hv
       have HW := Aside0.mk (wordc HX.out.pg hc hC (2 * i) (2 * i.toNat) (by omega) (by omega))
       have HV := Aside0.mk hb
       clear hv hb hC hc hl)
    | (go_at_call 71; refine (HW.out).mono ?_; rintro e w' ⟨rfl, m, rfl⟩))
  go_ret2
  exact ⟨rfl, pw_below_drewN HV.out _⟩
theorem groot_no {w : World} (g : Nat) (i : Int) (h : ¬ (0 ≤ i ∧ i < 8)) :
    Calls Tryz.prog 27 #[dp g, .int .i64 i] w fun e w' => e = .returned (.tuple #[.int .i64 0, .int .i64 1]) ∧ w = w' := by
  have HI := isroot_any i
  rw [decide_eq_false h] at HI
  replace HI := Aside0.mk HI
  clear h
  go_enter Tryz.func27, Tryz.ntmps27
  go_wp2_with (go_at_call 80; refine (HI.out _).mono ?_; rintro e w' ⟨rfl, rfl⟩)
  go_ret2
  exact ⟨rfl, rfl⟩
theorem gsetroot_no {w : World} (g : Nat) (i n : Int) (h : ¬ (0 ≤ i ∧ i < 8 ∧ 0 ≤ n ∧ n < 4096)) :
    Calls Tryz.prog 28 #[dp g, .int .i64 i, .int .i64 n] w fun e w' => e = .returned (.int .i64 1) ∧ w = w' := by
  by_cases hi : 0 ≤ i ∧ i < 8
  · have HI := isroot_any i
    rw [decide_eq_true hi] at HI
    replace HI := Aside0.mk HI
    by_cases c1 : n < 0
    · have q0 : decide (n < 0) = true := by simp; omega
      clear h hi c1
      go_enter Tryz.func28, Tryz.ntmps28
      go_wp2_with (go_at_call 80; refine (HI.out _).mono ?_; rintro e w' ⟨rfl, rfl⟩)
      go_ret
      exact ⟨rfl, rfl⟩
    · have q0 : decide (n < 0) = false := by simp; omega
      have q1 : decide ((4096 : Int) ≤ n) = true := by simp; omega
      clear h hi c1
      go_enter Tryz.func28, Tryz.ntmps28
      go_wp2_with (go_at_call 80; refine (HI.out _).mono ?_; rintro e w' ⟨rfl, rfl⟩)
      go_ret
      exact ⟨rfl, rfl⟩
  · have HI := isroot_any i
    rw [decide_eq_false hi] at HI
    replace HI := Aside0.mk HI
    clear h hi
    go_enter Tryz.func28, Tryz.ntmps28
    go_wp2_with (go_at_call 80; refine (HI.out _).mono ?_; rintro e w' ⟨rfl, rfl⟩)
    go_ret
    exact ⟨rfl, rfl⟩
set_option maxRecDepth 100000 in
theorem gsetroot_yes {w : World} {g : Nat} {B : PG} {M : DM} {V : Int → Bytes} {cnt : Int} {ok : Nat → Prop} (h : FAt w g B M V cnt ok) (hZ : GoodZ (V 0)) (i n : Int) (h0 : 0 ≤ i) (h1 : i < 8) (n0 : 0 ≤ n) (n1 : n < 4096) :
    Calls Tryz.prog 28 #[dp g, .int .i64 i, .int .i64 n] w fun e w' => e = .returned (.int .i64 0) ∧ FLeft w g B M (fun y => if y = 0 then setZ (V 0) (2 * i.toNat) n else V y) (max cnt 1) ok w' := by
  have HI := isroot_any i
  rw [decide_eq_true ⟨h0, h1⟩] at HI
  replace HI := Aside0.mk HI
  have HO := Aside0.mk (gown_any h)
  have hg := h.cell
  have hlt := h.lt
  have HX := Aside0.mk (And.intro h.tight hZ)
  obtain ⟨Z, hZe⟩ : ∃ Z, Z = V 0 := ⟨_, rfl⟩
  rw [← hZe] at HO HX ⊢
  have q0 : decide (n < 0) = false := by simp; omega
  have q1 : decide ((4096 : Int) ≤ n) = false := by simp; omega
  clear h hZ hZe
  go_enter Tryz.func28, Tryz.ntmps28
  go_wp2_with (first
    | (go_at_call 80; refine (HI.out _).mono ?_; rintro e w' ⟨rfl, rfl⟩)
    | (go_at_call 69; refine (HO.out).mono ?_; rintro e w1 ⟨v, rfl, hv, hb⟩
       obtain ⟨gz, c3, rfl, _, _, _⟩ := Kd.R_form hv (by rw [HX.out.2.pg.len]; omega)
       rw [HX.out.2.pg.len] at hv ⊢
       have HS := Aside0.mk (setc hb hv HX.out.2.pg (2 * i) (2 * i.toNat) (by omega) (by omega) n)
       have HB1 := Aside0.mk (And.intro hv hb)
       clear hv hb)
    | (go_at_call 73; refine (HS.out).mono ?_; rintro e w2 ⟨rfl, hv2, hb2⟩
       have hg2 := (hb2.cell (p := ⟨g, 0, none⟩) hlt).trans hg
       have hC2 := C_of_row hv2
       have HW := Aside0.mk (f_write (cb := c3) (HX.out.1.move hb2.size (fun k hk hl => hb2.block k hl)) 0 (by omega) (by omega) hC2.1 (fun ad e => by cases e; exact ⟨fun hk => absurd hk.2 (Nat.not_lt.2 (row_base hv2)), row_lt hv2⟩))
       have HB2 := Aside0.mk hb2
       clear hv2 hb2 hC2)
    | (go_at_call 77; refine (HW.out).mono ?_; rintro e w3 ⟨rfl, hL⟩; have HL := Aside0.mk hL; clear hL))
  go_ret
  exact ⟨rfl, HL.out.lift HB2.out⟩
end Go.Proofs.YtpaiadidgokjlaaGreat

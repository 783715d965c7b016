/-
  wakes; without a file of pages; PagesNone.
-/
import Derived.Test.YtpaiadidgokjlaaGreatZq
namespace Go.Proofs.YtpaiadidgokjlaaGreat
open Go.RowKit Go.Maps Go.Proofs.YtpaiadidgokjlaaGreatW.PrintWords Go.Proofs.YtpaiadidgokjlaaGreatW.PrintLast Go.Proofs.YtpaiadidgokjlaaGreatW.PrintMore
open Go.Proofs.YtpaiadidgokjlaaGreat.PPagesModel
set_option linter.unusedVariables false
set_option linter.unusedSimpArgs false

theorem V0_zero : V0 0 = zeros := V0_at (by omega)
theorem updV_zero (V : Int → Bytes) {n : Int} (hn : n ≠ 0) (Z bs : Bytes) : updV V n Z bs 0 = Z := by
  unfold updV; rw [if_neg (fun e => hn e.symm), if_pos rfl]
theorem R_row {w : World} {base : Nat} {ok : Nat → Prop} {v : Value} {l : List Int} (h : I64.R 3 w base ok v l) : ∃ A c, v = .slice A l.length c ∧ I64.C w A l.length l ∧ l.length ≤ c := by
  obtain ⟨A, c, h1, h2, h3⟩ := Kd.R_reads h
  exact ⟨A, c, h1, h3, h2⟩
theorem one_C (w : World) (x : Int) : I64.C (w.alloc (.cells #[.int .i64 x] 3)) (some ⟨w.heap.size, 0, none⟩) 1 [x] := by
  have h : I64.R 3 (w.alloc (.cells #[.int .i64 x] 3)) 0 (fun _ => True) (.slice (some ⟨w.heap.size, 0, none⟩) 1 1) [x] :=
    ⟨fun _ _ => trivial, [.int .i64 x], ⟨rfl, .inr ⟨w.heap.size, 1, #[.int .i64 x], rfl, Nat.zero_le _, heap_alloc_new w _, Nat.le_refl _, by decide, rfl, rfl⟩⟩, Reps.one rfl (Reps.none _ _)⟩
  obtain ⟨A, c, e, h1, h2⟩ := R_row h
  injection e with e1 e2 e3
  subst e1
  exact h1

set_option maxRecDepth 100000 in
theorem wakes_any (w : World) : Calls Tryz.prog 26 #[] w fun e w' => e = .returned (.bool true) ∧ Below w.heap.size w w' := by
  have HS := Aside0.mk (start_any w)
  go_enter Tryz.func26, Tryz.ntmps26
  go_wp2_with fail
  refine (HS.out).mono ?_
  rintro e w1 ⟨g, p, d, l, rfl, hF, hb⟩
  have hz : GoodZ (V0 0) := by rw [V0_zero]; exact GoodZ.zero
  have htop : wordZ (V0 0) 16 = 0 := by rw [V0_zero]; exact zero_top
  have HA := Aside0.mk (alloc_any hF hz (by rw [htop]; omega))
  have HB := Aside0.mk (And.intro hb (And.intro hz htop))
  clear hF hb hz htop
  go_wp2_with fail
  refine (HA.out).mono ?_
  rintro e w2 ⟨s, hs, rfl, hL⟩
  obtain ⟨hg, ht, _, _⟩ := take_good HB.out.2.1 hs (by rw [HB.out.2.2]; omega)
  have hr := take_range HB.out.2.1 hs (by rw [HB.out.2.2]; omega)
  have hh := take_held HB.out.2.1 hs (by rw [HB.out.2.2]; omega)
  obtain ⟨n, hn⟩ : ∃ n, n = takeN (V0 0) s := ⟨_, rfl⟩
  rw [← hn] at hL hr hh ⊢
  have n1 : 1 ≤ n := hr.1
  have hV : updV V0 n (takeZ (V0 0) s) zeros 0 = takeZ (V0 0) s := updV_zero _ (by omega) _ _
  have HH := Aside0.mk (gheldl_any hL.1 (by rw [hV]; exact hg))
  rw [hV, heldL_eq hg.pg (L := [n]) (by simp) (fun x => by
    rw [hh x]
    constructor
    · intro h; exact .inl (by simpa using h)
    · rintro (h | h)
      · simp [h]
      · rw [V0_zero] at h; exact absurd h (zero_none x))] at HH
  have HL := Aside0.mk hL
  clear hL hg ht hr hh hV hs hn
  go_wp2_with fail
  refine (HH.out).mono ?_
  rintro e w3 ⟨v, rfl, hv, hb3⟩
  obtain ⟨A, c, rfl, hC, hc⟩ := R_row hv
  have HQ := Aside0.mk (eqnumbers_any (Kd.C_alloc hC (.cells #[.int .i64 n] 3)) hc (one_C w3 n) (Nat.le_refl 1) (by simp))
  have HV := Aside0.mk hb3
  clear hv hb3 hC
  have q1 : decide (1 ≤ n) = true := by simp; exact n1
  go_wp2_with (first
    | (go_at_call 17; refine (num13_any _ _).mono ?_; rintro e w' ⟨rfl, rfl⟩)
    | (go_at_call 25; refine (HQ.out).mono ?_; rintro e w' ⟨rfl, m, rfl⟩))
  go_ret
  refine ⟨by simp, ?_⟩
  have hb1 := HB.out.1
  have h2 := HL.out.2
  have h12 : Below w.heap.size w w2 := hb1.trans (h2.below (fun k hk => hk.1) hb1.size)
  exact pw_below_drewN ((h12.trans (HV.out.mono h12.size)).alloc (by have := h12.size; have := HV.out.size; omega) _) _

/-! ### no file of pages -/
theorem gown_nil (w : World) : Calls Tryz.prog 69 #[.pointer none] w fun e w' => e = .returned (.tuple #[.slice none 0 0, .int .i64 1]) ∧ w = w' := by
  go_enter Tryz.func69, Tryz.ntmps69
  go_wp2
  go_ret2
  exact ⟨rfl, rfl⟩
theorem alloc_nil (w : World) : Calls Tryz.prog 16 #[.pointer none] w fun e w' => e = .returned (.tuple #[.int .i64 0, .int .i64 1]) ∧ w = w' := by
  go_enter Tryz.func16, Tryz.ntmps16
  go_wp2_with (go_at_call 69; refine (gown_nil _).mono ?_; rintro e w' ⟨rfl, rfl⟩)
  go_ret2
  exact ⟨rfl, rfl⟩
theorem gheld_nil (n : Int) (w : World) : Calls Tryz.prog 76 #[.pointer none, .int .i64 n] w fun e w' => e = .returned (.tuple #[.slice none 0 0, .int .i64 1]) ∧ w = w' := by
  go_enter Tryz.func76, Tryz.ntmps76
  go_wp2_with (go_at_call 69; refine (gown_nil _).mono ?_; rintro e w' ⟨rfl, rfl⟩)
  go_ret2
  exact ⟨rfl, rfl⟩
theorem gheldl_nil (w : World) : Calls Tryz.prog 24 #[.pointer none] w fun e w' => e = .returned (.tuple #[.slice none 0 0, .int .i64 1]) ∧ w = w' := by
  go_enter Tryz.func24, Tryz.ntmps24
  go_wp2_with (go_at_call 69; refine (gown_nil _).mono ?_; rintro e w' ⟨rfl, rfl⟩)
  go_ret2
  exact ⟨rfl, rfl⟩
theorem gfree_nil (n : Int) (w : World) : Calls Tryz.prog 23 #[.pointer none, .int .i64 n] w fun e w' => e = .returned (.int .i64 1) ∧ w = w' := by
  go_enter Tryz.func23, Tryz.ntmps23
  go_wp2_with (go_at_call 76; refine (gheld_nil _ _).mono ?_; rintro e w' ⟨rfl, rfl⟩)
  go_ret
  exact ⟨rfl, rfl⟩
theorem groot_nil (n : Int) (w : World) : Calls Tryz.prog 27 #[.pointer none, .int .i64 n] w fun e w' => e = .returned (.tuple #[.int .i64 0, .int .i64 1]) ∧ w = w' := by
  go_enter Tryz.func27, Tryz.ntmps27
  go_wp2
  go_ret2
  exact ⟨rfl, rfl⟩
theorem gsetroot_nil (i n : Int) (w : World) : Calls Tryz.prog 28 #[.pointer none, .int .i64 i, .int .i64 n] w fun e w' => e = .returned (.int .i64 1) ∧ w = w' := by
  go_enter Tryz.func28, Tryz.ntmps28
  go_wp2
  go_ret
  exact ⟨rfl, rfl⟩
theorem gread_nil (n : Int) (w : World) : Calls Tryz.prog 21 #[.pointer none, .int .i64 n] w fun e w' => e = .returned (.tuple #[.slice none 0 0, .int .i64 1]) ∧ w = w' := by
  go_enter Tryz.func21, Tryz.ntmps21
  go_wp2_with (go_at_call 76; refine (gheld_nil _ _).mono ?_; rintro e w' ⟨rfl, rfl⟩)
  go_ret2
  exact ⟨rfl, rfl⟩
theorem gwr_nil (n : Int) (v : Value) (w : World) : Calls Tryz.prog 19 #[.pointer none, .int .i64 n, v] w fun e w' => e = .returned (.int .i64 1) ∧ w = w' := by
  go_enter Tryz.func19, Tryz.ntmps19
  go_wp2_with (go_at_call 76; refine (gheld_nil _ _).mono ?_; rintro e w' ⟨rfl, rfl⟩)
  go_ret
  exact ⟨rfl, rfl⟩

/-- the acts that came in -/
def Acts (w : World) (A : Option Addr) (len : Nat) (D C L : Nat → Int) : Prop :=
  0 < len → ∃ b off, A = some ⟨b, off, none⟩ ∧ b < w.heap.size ∧ ∀ i, i < len → w.cell? ⟨b, off + i * 3, none⟩ = some (.int .i64 (D i)) ∧ w.cell? ⟨b, off + i * 3 + 1, none⟩ = some (.int .i64 (C i)) ∧ w.cell? ⟨b, off + i * 3 + 2, none⟩ = some (.int .i64 (L i))

set_option maxHeartbeats 2000000 in
set_option maxRecDepth 100000 in
theorem none_any (A : Option Addr) (len cap : Nat) (D C L : Nat → Int) (w : World) (hl0 : len ≤ 9223372036854775807) (hA : Acts w A len D C L) :
    Calls Tryz.prog 4 #[.slice A len cap] w fun e w' => e = .returned (.bool true) ∧ Below w.heap.size w w' := by
  have HA := Aside0.mk hA
  clear hA
  go_enter Tryz.func4, Tryz.ntmps4
  go_wp2_with (first
    | (go_at_call 16; refine (alloc_nil _).mono ?_; rintro e w' ⟨rfl, rfl⟩)
    | (go_at_call 24; refine (gheldl_nil _).mono ?_; rintro e w' ⟨rfl, rfl⟩)
    | (go_at_call 27; refine (groot_nil _ _).mono ?_; rintro e w' ⟨rfl, rfl⟩)
    | (go_at_call 23; refine (gfree_nil _ _).mono ?_; rintro e w' ⟨rfl, rfl⟩)
    | (go_at_call 28; refine (gsetroot_nil _ _ _).mono ?_; rintro e w' ⟨rfl, rfl⟩)
    | (go_at_call 17; refine (num13_any _ _).mono ?_; rintro e w' ⟨rfl, rfl⟩)
    | (go_at_call 20; refine (lpage_any _ _).mono ?_; rintro e w1 ⟨v, rfl, hv, hb⟩; have HB1 := Aside0.mk hb; clear hv hb)
    | (go_at_call 19; refine (gwr_nil _ _ _).mono ?_; rintro e w' ⟨rfl, rfl⟩)
    | (go_at_call 14; refine (start_any _).mono ?_; rintro e w2 ⟨g, p, d, l, rfl, hF, hb⟩
       have H2 := Aside0.mk (And.intro hF (HB1.out.trans (hb.mono HB1.out.size)))
       have HFr := Aside0.mk hb
       clear hF hb))
  go_loopw [12] (fun v wr => ∃ k : Nat, v = .int .i64 k ∧ k ≤ len ∧ k ≤ 60 ∧ Aside0 (FAt wr g (B0 p d l) M0 V0 0 (fun k => w1.heap.size ≤ k ∧ k < w2.heap.size) ∧ Below w.heap.size w wr)) (fun v _ => len - (intOf v).toNat)
  case atStart => exact ⟨0, rfl, by omega, by omega, H2⟩
  case round =>
    clear H2 HFr
    obtain ⟨k, rfl, hk, hk60, HI⟩ := hrel
    have hz : GoodZ (V0 0) := by rw [V0_zero]; exact GoodZ.zero
    by_cases h1 : k < len
    · by_cases h2 : k < 60
      · obtain ⟨b, off, rfl, hbw, hcells⟩ := HA.out (by omega)
        obtain ⟨_, hc, _⟩ := hcells k h1
        have hc' : wr.cell? ⟨b, off + k * 3 + 1, none⟩ = some (.int .i64 (C k)) := (HI.out.2.cell (p := ⟨b, off + k * 3 + 1, none⟩) hbw).trans hc
        have hn : ¬ HeldP (V0 0) (C k) := by rw [V0_zero]; exact zero_none _
        have HR := Aside0.mk (gread_no HI.out.1 hz (C k) hn)
        have HFree := Aside0.mk (fun W (hW : Below wr.heap.size wr W) => gfree_no (HI.out.1.below hW) hz (C k) hn)
        have HCe := Aside0.mk (And.intro hbw hc')
        clear hcells hc hn hz
        generalize C k = ck at *
        go_wp2_with (first
          | (go_at_call 21; refine (HR.out).mono ?_; rintro e w3 ⟨rfl, hb3⟩
             have hc3 : w3.cell? ⟨b, off + k * 3 + 1, none⟩ = some (.int .i64 ck) := (hb3.cell (p := ⟨b, off + k * 3 + 1, none⟩) (Nat.lt_of_lt_of_le HCe.out.1 HI.out.2.size)).trans HCe.out.2
             have HB3 := Aside0.mk hb3
             clear hb3)
          | (go_at_call 23; refine (HFree.out _ HB3.out).mono ?_; rintro e w4 ⟨rfl, hb4⟩; have HB4 := Aside0.mk hb4; clear hb4)
          | (go_at_call 17; refine (num13_any _ _).mono ?_; rintro e w' ⟨rfl, rfl⟩))
        go_roundw
        case rel =>
          have hb34 : Below wr.heap.size wr w4 := HB3.out.trans (HB4.out.mono HB3.out.size)
          exact ⟨k + 1, by go_num, by omega, by omega, HI.out.1.below hb34, HI.out.2.trans (hb34.mono HI.out.2.size)⟩
        case measure => simp [intOf]; omega
      · go_wp2_with (go_at_call 26; refine (wakes_any _).mono ?_; rintro e w5 ⟨rfl, hb5⟩; have HB5 := Aside0.mk hb5; clear hb5)
        go_ret
        exact ⟨rfl, HI.out.2.trans (HB5.out.mono HI.out.2.size)⟩
    · go_wp2_with (go_at_call 26; refine (wakes_any _).mono ?_; rintro e w5 ⟨rfl, hb5⟩; have HB5 := Aside0.mk hb5; clear hb5)
      go_ret
      exact ⟨rfl, HI.out.2.trans (HB5.out.mono HI.out.2.size)⟩
end Go.Proofs.YtpaiadidgokjlaaGreat

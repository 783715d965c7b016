/-
  A file of pages as a law holds it: what each call answers and leaves, in the words of held pages, their bytes, roots.
-/
import Derived.Test.YtpaiadidgokjlaaGreatNone
namespace Go.Proofs.YtpaiadidgokjlaaGreat
open Go.RowKit Go.Maps Go.Proofs.YtpaiadidgokjlaaGreatW.PrintWords Go.Proofs.YtpaiadidgokjlaaGreatW.PrintLast Go.Proofs.YtpaiadidgokjlaaGreatW.PrintMore
open Go.Proofs.YtpaiadidgokjlaaGreat.PPagesModel
set_option linter.unusedVariables false
set_option linter.unusedSimpArgs false

/-- a file of pages within a law that began at w -/
structure FS (w wr : World) (g : Nat) (B : PG) (M : DM) (V : Int → Bytes) (cnt : Int) (ok : Nat → Prop) : Prop where
  fat : FAt wr g B M V cnt ok
  fresh : ∀ k, ok k → w.heap.size ≤ k
  good : GoodZ (V 0)
  below : Below w.heap.size w wr
  lt : ∀ k, ok k → k < wr.heap.size
/-- another state of it -/
structure FS' (w wr w' : World) (g : Nat) (B : PG) (M : DM) (V : Int → Bytes) (cnt : Int) (ok : Nat → Prop) : Prop where
  st : FS w w' g B M V cnt (Grow wr ok w')
  fr : Fr ok wr w'

section
variable {w wr w' : World} {g : Nat} {B : PG} {M : DM} {V V' : Int → Bytes} {cnt cnt' : Int} {ok : Nat → Prop}
theorem FS.of_left (h : FS w wr g B M V cnt ok) (hL : FLeft wr g B M V' cnt' ok w') (hg : GoodZ (V' 0)) : FS' w wr w' g B M V' cnt' ok := by
  have hb := h.below.size
  refine ⟨⟨hL.1, fun k hk => hk.elim (h.fresh k) (fun h => by omega), hg, h.below.trans (hL.2.below h.fresh hb), fun k hk => hk.elim (fun h' => Nat.lt_of_lt_of_le (h.lt k h') hL.2.size) (fun h => h.2)⟩, hL.2⟩
theorem FS.step (h : FS w wr g B M V cnt ok) (hb : Below wr.heap.size wr w') : FS w w' g B M V cnt ok := ⟨h.fat.below hb, h.fresh, h.good, h.below.trans (hb.mono h.below.size), fun k hk => Nat.lt_of_lt_of_le (h.lt k hk) hb.size⟩
theorem FS.drewN (h : FS w wr g B M V cnt ok) (n : Nat) : FS w (wr.drewN n) g B M V cnt ok := ⟨h.fat.drewN n, h.fresh, h.good, pw_below_drewN h.below n, h.lt⟩
theorem FS.top0 (h : FS w wr g B M V cnt ok) : 0 ≤ wordZ (V 0) 16 := (wordZ_nn h.good.pg 16).1
theorem FS.grown (h : FS w wr g B M V cnt ok) {row : Option Nat} (hg : wr.grownBy w' row) (hr : ∀ k, row = some k → ¬ ok k ∧ w.heap.size ≤ k) : FS w w' g B M V cnt ok :=
  ⟨h.fat.move hg.size (fun k hk hl => hg.block k hl (fun e => (hr k e.symm).1 hk)), h.fresh, h.good, h.below.grown hg h.below.size (fun k hk => (hr k hk).2), fun k hk => Nat.lt_of_lt_of_le (h.lt k hk) hg.size⟩
/-- a row that is none of the file's stands behind its calls -/
theorem row_fr {α : Type} {d : Kd α} {e : Nat} {v : Value} {l : List α} (hR : d.R e wr w.heap.size (fun k => w.heap.size ≤ k ∧ ¬ ok k) v l) (hF : Fr ok wr w') : d.R e w' w.heap.size (fun k => w.heap.size ≤ k ∧ ¬ Grow wr ok w' k) v l := by
  have h1 := Kd.R_bound hR
  have h2 := Kd.R_step h1 (w1 := w') (fun k hk hlt => hF.block k hlt hk.1.2)
  exact Kd.R_mono h2 (fun k hk => ⟨hk.1.1, fun h => h.elim hk.1.2 (fun h => by have := hk.2.2.1; omega)⟩)
/-- a new row is none of the file's -/
theorem row_new {α : Type} {d : Kd α} {e : Nat} {v : Value} {l : List α} (h : FS w wr g B M V cnt ok) (hR : d.R e w' wr.heap.size (fun k => wr.heap.size ≤ k) v l) : d.R e w' w.heap.size (fun k => w.heap.size ≤ k ∧ ¬ ok k) v l := by
  have hb := h.below.size
  exact Kd.R_lower (Kd.R_mono hR (fun k hk => ⟨Nat.le_trans hb hk, fun h' => by have := h.lt k h'; omega⟩)) hb

theorem fs_alloc (h : FS w wr g B M V cnt ok) (hroom : wordZ (V 0) 16 < 3936) :
    Calls Tryz.prog 16 #[dp g] wr fun e w' => ∃ (n : Int) (V' : Int → Bytes) (cnt' : Int), e = .returned (.tuple #[.int .i64 n, .int .i64 0]) ∧ FS' w wr w' g B M V' cnt' ok ∧ 1 ≤ n ∧ n ≤ 3936 ∧ ¬ HeldP (V 0) n ∧ (∀ m, HeldP (V' 0) m ↔ m = n ∨ HeldP (V 0) m) ∧ (∀ y, y ≠ 0 → V' y = if y = n then zeros else V y) ∧
      (wordZ (V' 0) 16 = wordZ (V 0) 16 ∨ (wordZ (V' 0) 16 = wordZ (V 0) 16 + 1 ∧ ∀ m, 1 ≤ m → m ≤ wordZ (V 0) 16 → HeldP (V 0) m)) ∧ (∀ a, a + 1 < 16 → wordZ (V' 0) a = wordZ (V 0) a) ∧ cnt' = max (max cnt 1) (n + 1) ∧ n ≤ wordZ (V' 0) 16 := by
  refine (alloc_any h.fat h.good hroom).mono ?_
  rintro e w' ⟨s, hs, rfl, hL⟩
  obtain ⟨hg, ht, hr, hh⟩ := take_good h.good hs hroom
  have hn := take_range h.good hs hroom
  have hV : updV V (takeN (V 0) s) (takeZ (V 0) s) zeros 0 = takeZ (V 0) s := updV_zero _ (by omega) _ _
  refine ⟨_, _, _, rfl, h.of_left hL (by rw [hV]; exact hg), hn.1, hn.2.1, take_fresh h.good hs hroom, fun m => ?_, fun y hy => ?_, ?_, fun a ha => by rw [hV]; exact hr a ha, rfl, ?_⟩
  · rw [hV]; exact take_held h.good hs hroom m
  · unfold updV; rw [if_neg hy]
  · rw [hV, ht]
    by_cases e : s = 0
    · rw [if_pos e]; exact .inr ⟨rfl, fun m h1 h2 => take_new h.good hs e m h1 h2⟩
    · rw [if_neg e]; exact .inl rfl
  · rw [hV, ht]
    unfold takeN
    split
    · omega
    · rename_i e; exact (hs.pos e).1
theorem HeldP.range {Z : Bytes} (hZ : GoodZ Z) {n : Int} (h : HeldP Z n) : 1 ≤ n ∧ n ≤ 3936 := ⟨h.1, by have := h.2.1; have := hZ.top; omega⟩
theorem fs_free (h : FS w wr g B M V cnt ok) (n : Int) (hn : HeldP (V 0) n) :
    Calls Tryz.prog 23 #[dp g, .int .i64 n] wr fun e w' => ∃ (V' : Int → Bytes) (cnt' : Int), e = .returned (.int .i64 0) ∧ FS' w wr w' g B M V' cnt' ok ∧ (∀ m, HeldP (V' 0) m ↔ m ≠ n ∧ HeldP (V 0) m) ∧ (∀ y, y ≠ 0 → V' y = if y = n then zeros else V y) ∧ wordZ (V' 0) 16 = wordZ (V 0) 16 ∧ (∀ a, a + 1 < 16 → wordZ (V' 0) a = wordZ (V 0) a) ∧ cnt' = max (max cnt 1) (n + 1) := by
  have hr := hn.range h.good
  obtain ⟨m, rfl⟩ : ∃ m : Nat, n = m := ⟨n.toNat, by omega⟩
  refine (gfree_yes h.fat h.good m hn).mono ?_
  rintro e w' ⟨rfl, hL⟩
  obtain ⟨hg, ht, hw, hh⟩ := clr_good h.good (n := m) (by omega) (by omega)
  have hV : updV V m (clrZ (V 0) m) zeros 0 = clrZ (V 0) m := updV_zero _ (by omega) _ _
  refine ⟨_, _, rfl, h.of_left hL (by rw [hV]; exact hg), fun x => by rw [hV]; exact hh x, fun y hy => by unfold updV; rw [if_neg hy], by rw [hV, ht], fun a ha => by rw [hV]; exact hw a ha, rfl⟩
theorem fs_free_no (h : FS w wr g B M V cnt ok) (n : Int) (hn : ¬ HeldP (V 0) n) :
    Calls Tryz.prog 23 #[dp g, .int .i64 n] wr fun e w' => e = .returned (.int .i64 1) ∧ Below wr.heap.size wr w' := gfree_no h.fat h.good n hn
theorem fs_write (h : FS w wr g B M V cnt ok) (n : Int) (hn : HeldP (V 0) n) {v : Value} {bs : Bytes} (hv : U8.R 5 wr w.heap.size (fun k => w.heap.size ≤ k ∧ ¬ ok k) v bs) (hl : bs.length = 512) :
    Calls Tryz.prog 19 #[dp g, .int .i64 n, v] wr fun e w' => e = .returned (.int .i64 0) ∧ FS' w wr w' g B M (fun y => if y = n then bs else V y) (max cnt (n + 1)) ok := by
  have hr := hn.range h.good
  obtain ⟨gz, c3, rfl, _, _, _⟩ := Kd.R_form hv (by omega)
  rw [hl] at hv ⊢
  obtain ⟨hC, hc, _⟩ := C_of_row hv
  refine (gwr_yes h.fat h.good n hn hC (fun ad e => by cases e; exact ⟨(row_base hv).2, row_lt hv⟩)).mono ?_
  rintro e w' ⟨rfl, hL⟩
  exact ⟨rfl, h.of_left hL (by rw [if_neg (by omega)]; exact h.good)⟩
theorem fs_write_no (h : FS w wr g B M V cnt ok) (n : Int) (hn : ¬ HeldP (V 0) n) {v : Value} {bs : Bytes} {base : Nat} {okv : Nat → Prop} (hv : U8.R 5 wr base okv v bs) :
    Calls Tryz.prog 19 #[dp g, .int .i64 n, v] wr fun e w' => e = .returned (.int .i64 1) ∧ Below wr.heap.size wr w' := by
  obtain ⟨A, c, rfl⟩ := Kd.R_slice hv
  exact gwr_no h.fat h.good n hn A _ c
theorem fs_read (h : FS w wr g B M V cnt ok) (n : Int) (hn : HeldP (V 0) n) :
    Calls Tryz.prog 21 #[dp g, .int .i64 n] wr fun e w' => ∃ v, e = .returned (.tuple #[v, .int .i64 0]) ∧ U8.R 5 w' wr.heap.size (fun k => wr.heap.size ≤ k) v (V n) ∧ Below wr.heap.size wr w' := gread_yes h.fat h.good n hn
theorem fs_held (h : FS w wr g B M V cnt ok) {L : List Int} (hs : L.Pairwise (· < ·)) (hm : ∀ x, x ∈ L ↔ HeldP (V 0) x) :
    Calls Tryz.prog 24 #[dp g] wr fun e w' => ∃ v, e = .returned (.tuple #[v, .int .i64 0]) ∧ I64.R 3 w' wr.heap.size (fun k => wr.heap.size ≤ k) v L ∧ Below wr.heap.size wr w' := by
  rw [← heldL_eq h.good.pg hs hm]
  exact gheldl_any h.fat h.good
end
/-- Start, as a law holds it -/
theorem fs_start (w : World) : Calls Tryz.prog 14 #[] w fun e w' => ∃ g p d l ok, e = .returned (.tuple #[dp p, dp g]) ∧ FS w w' g (B0 p d l) M0 V0 0 ok := by
  refine (start_any w).mono ?_
  rintro e w' ⟨g, p, d, l, rfl, hF, hb⟩
  exact ⟨g, p, d, l, _, rfl, hF, fun k hk => hk.1, by rw [V0_zero]; exact GoodZ.zero, hb, fun k hk => hk.2⟩

/-- In -/
theorem in_any (A : Option Addr) (n c : Nat) (l : List Int) (x : Int) (w : World) (hC : I64.C w A n l) (hn : n < 4611686018427387904) :
    Calls Tryz.prog 18 #[.slice A n c, .int .i64 x] w fun e w' => e = .returned (.bool (decide (x ∈ l))) ∧ w = w' := by
  have hl : l.length = n := hC.1
  have HC := Aside0.mk hC
  have HL := Aside0.mk hl
  clear hC hl
  go_enter Tryz.func18, Tryz.ntmps18
  go_wp2
  go_loop [5] (fun i => ∃ k : Nat, i = .int .i64 k ∧ k ≤ n ∧ Aside0 (x ∉ l.take k)) (fun i => n - (intOf i).toNat)
  case atStart => exact ⟨0, rfl, by omega, ⟨by simp⟩⟩
  case round =>
    obtain ⟨k, rfl, hk, HI⟩ := hrel
    by_cases h1 : k < n
    · obtain ⟨ad, rfl, hc⟩ := Kd.at_int HC.out (k : Int) (by omega) (by omega)
      rw [Int.toNat_natCast] at hc
      have hkl : k < l.length := by rw [HL.out]; exact h1
      have hrd : rd l (k : Int) = l[k]'hkl := by simp [rd, List.getD_eq_getElem?_getD, hkl]
      have hts : l.take (k + 1) = l.take k ++ [rd l (k : Int)] := by rw [hrd]; exact List.take_succ_eq_append_getElem hkl
      have hmem : rd l (k : Int) ∈ l := by rw [hrd]; exact List.getElem_mem _
      have HT := Aside0.mk (And.intro hts hmem)
      clear hrd hts hmem hkl
      generalize rd l (k : Int) = y at *
      by_cases h2 : y = x
      · have q : (y == x) = true := beq_iff_eq.2 h2
        have HM : Aside0 (x ∈ l) := ⟨h2 ▸ HT.out.2⟩
        clear h2
        go_wp2
        go_ret
        exact ⟨by rw [decide_eq_true HM.out]; rfl, rfl⟩
      · have q : (y == x) = false := beq_eq_false_iff_ne.2 h2
        have HM : Aside0 (x ∉ l.take (k + 1)) := ⟨by
          rw [HT.out.1, List.mem_append]
          rintro (h | h)
          · exact HI.out h
          · exact h2 (List.mem_singleton.1 h).symm⟩
        clear h2
        go_wp2
        go_round
        case rel => exact ⟨k + 1, by go_num, by omega, HM⟩
        case measure => simp [intOf]; omega
    · go_wp2
      go_ret
      refine ⟨?_, rfl⟩
      have := HI.out
      rw [List.take_of_length_le (by rw [HL.out]; omega)] at this
      rw [decide_eq_false this]
      rfl
end Go.Proofs.YtpaiadidgokjlaaGreat

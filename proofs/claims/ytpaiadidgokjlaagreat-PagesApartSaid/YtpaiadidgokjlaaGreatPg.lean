/-
  The calls of a file of pages within a transaction: page 0, Alloc, Held, Free, Root, SetRoot, Read, Write.
-/
import Derived.Test.YtpaiadidgokjlaaGreatFa
import Derived.Test.YtpaiadidgokjlaaGreatZ
namespace Go.Proofs.YtpaiadidgokjlaaGreat
open Go.RowKit Go.Maps Go.Proofs.YtpaiadidgokjlaaGreatW.PrintWords Go.Proofs.YtpaiadidgokjlaaGreatW.PrintLast Go.Proofs.YtpaiadidgokjlaaGreatW.PrintMore
open Go.Proofs.YtpaiadidgokjlaaGreat.PPagesModel
set_option linter.unusedVariables false
set_option linter.unusedSimpArgs false

section
variable {w w1 w2 : World} {g : Nat} {B : PG} {M : DM} {V : Int → Bytes} {cnt : Int} {ok : Nat → Prop}
theorem FAt.tight (h : FAt w g B M V cnt ok) : FAt w g B M V cnt (fun k => ok k ∧ k < w.heap.size) := by
  obtain ⟨X, ok1, h1, h2, h3, h4, h5, h6, h7, h8, h9, h10⟩ := h
  exact ⟨X, _, h1, h2, h3, h4, h5, h6, h7.tight, h8, fun k hk => ⟨⟨(h9 k hk.1).1, hk.2⟩, (h9 k hk.1).2⟩, ⟨h10, heap_lt h8⟩⟩
theorem FLeft.lift (hb : Below w.heap.size w w1) (h : FLeft w1 g B M V cnt (fun k => ok k ∧ k < w.heap.size) w2) : FLeft w g B M V cnt ok w2 := by
  have h1 := hb.size
  have h2 := h.2.size
  refine ⟨h.1.mono (fun k hk => ?_), (Fr.of_below (ok := ok) hb).trans h.2 (fun k hk => .inl hk.1)⟩
  rcases hk with hk | hk
  · exact .inl hk.1
  · exact .inr ⟨by omega, hk.2⟩
end

theorem wordc {w : World} {Z : Bytes} (h : PgB Z) {A : Option Addr} {c : Nat} (hc : 512 ≤ c) (hC : U8.C w A 512 Z) (a : Int) (n : Nat) (ha : a = n) (hn : n + 1 < 512) :
    Calls Tryz.prog 71 #[.slice A 512 c, .int .i64 a] w fun e w' => e = .returned (.int .i64 (wordZ Z n)) ∧ ∃ m, w' = w.drewN m := by
  subst ha
  have hl := h.len
  rw [← hl] at hC hc ⊢
  refine (pages_word.calls A c Z n (wordZ Z n) w hC hc (word_f h n hn)).mono ?_
  rintro e w' ⟨rfl, ⟨m, rfl⟩⟩
  exact ⟨rfl, m, rfl⟩
theorem setc {w w1 : World} {v : Value} {Z : Bytes} (hB : Below w.heap.size w w1) (hR : U8.R 5 w1 w.heap.size (fun k => w.heap.size ≤ k) v Z) (h : PgB Z) (a : Int) (n : Nat) (ha : a = n) (hn : n + 1 < 512) (x : Int) :
    Calls Tryz.prog 73 #[v, .int .i64 a, .int .i64 x] w1 fun e w2 => e = .returned (.tuple #[]) ∧ U8.R 5 w2 w.heap.size (fun k => w.heap.size ≤ k) v (setZ Z n x) ∧ Below w.heap.size w w2 := by
  subst ha
  refine (pages_set.calls _ v Z n x (setZ Z n x) w w1 hB hR (set_f h n hn x)).mono ?_
  rintro e w2 ⟨rfl, h1, h2, _⟩
  have := hB.size
  exact ⟨rfl, Kd.R_mono h1 (fun k hk => hk.elim id (fun h => by omega)), h2⟩
theorem bitc (w : World) (n : Nat) (h1 : 1 ≤ n) (h2 : n ≤ 4096) :
    Calls Tryz.prog 74 #[.int .i64 n] w fun e w' => e = .returned (.tuple #[.int .i64 (bitAt n), .int .u8 (mask n)]) ∧ ∃ m, w' = w.drewN m := by
  refine (pages_bit.calls n _ _ w (bit_f n h1 h2)).mono ?_
  rintro e w' ⟨rfl, ⟨m, rfl⟩⟩
  exact ⟨rfl, m, rfl⟩

theorem bitc' (w : World) (x : Int) (n : Nat) (hx : x = n) (h1 : 1 ≤ n) (h2 : n ≤ 4096) :
    Calls Tryz.prog 74 #[.int .i64 x] w fun e w' => e = .returned (.tuple #[.int .i64 (bitAt n), .int .u8 (mask n)]) ∧ ∃ m, w' = w.drewN m := by
  subst hx
  exact bitc w n h1 h2
/-- the cell of a row of bytes, and the row when it is turned -/
theorem row_cell {w : World} {base : Nat} {ok : Nat → Prop} {gz cap : Nat} {l : Bytes} (h : U8.R 5 w base ok (.slice (some ⟨gz, 0, none⟩) 512 cap) l) (j : Nat) (hj : j < 512) :
    w.cell? ⟨gz, j, none⟩ = some (.int .u8 (l.getD j 0)) ∧ w.frozen? ⟨gz, j, none⟩ = false ∧ ∀ x, U8.R 5 (w.setCell ⟨gz, j, none⟩ (.int .u8 x)) base ok (.slice (some ⟨gz, 0, none⟩) 512 cap) (l.set j x) := by
  obtain ⟨h1, h2⟩ := Kd.R_celln 0 h (j : Int) (by omega) (by omega)
  rw [Int.toNat_natCast] at h1 h2
  refine ⟨?_, h2, fun x => ?_⟩
  · rw [h1]; simp [rdOf]
  · have := Kd.R_putn h (j : Int) x
    rwa [Int.toNat_natCast] at this
theorem row_base {w : World} {base : Nat} {ok : Nat → Prop} {gz n cap : Nat} {l : Bytes} (h : U8.R 5 w base ok (.slice (some ⟨gz, 0, none⟩) n cap) l) : ok gz := h.1 gz (by simp [Value.ownBlock])
theorem row_lt {w : World} {base : Nat} {ok : Nat → Prop} {gz n cap : Nat} {l : Bytes} (h : U8.R 5 w base ok (.slice (some ⟨gz, 0, none⟩) n cap) l) : gz < w.heap.size := own_lt (Kd.own_of_R h) gz (by simp [Value.ownBlock])

/-- what spare tells -/
structure Spare (Z : Bytes) (s : Nat) : Prop where
  zero : s = 0 → ∀ n : Nat, 1 ≤ n → (n : Int) ≤ wordZ Z 16 → n ≤ 3936 → heldZ Z n = true
  pos : s ≠ 0 → (s : Int) ≤ wordZ Z 16 ∧ s ≤ 3936 ∧ heldZ Z s = false
  low : s ≠ 0 → ∀ n : Nat, 1 ≤ n → n < s → heldZ Z n = true
theorem spare_l {Z : Bytes} (h : PgB Z) : ∀ (k x : Nat), 1 ≤ x → x ≤ 3937 → 3937 - x < k → (∀ n : Nat, 1 ≤ n → n < x → heldZ Z n = true) → ∃ s : Nat, pages_spare.l0 k Z x = some (s : Int) ∧ Spare Z s
  | 0, x, h1, h2, h3, h4 => by omega
  | k + 1, x, h1, h2, h3, h4 => by
    have hl := h.len
    unfold pages_spare.l0
    rw [show (16 : Int) = ((16 : Nat) : Int) from rfl, word_f h 16 (by omega), Option.bind_some]
    by_cases hc : (x : Int) ≤ mn (wordZ Z 16) 3936
    · rw [if_pos hc, bit_f x h1 (by omega), Option.bind_some]
      have hx : x ≤ 3936 := by unfold mn at hc; split at hc <;> omega
      have hb := bitAt_lt h1 hx
      rw [if_pos (by omega), if_pos (by omega), rd_getD]
      by_cases hh : heldZ Z x = true
      · rw [if_neg (fun e => by rw [(held_and h x).1 e] at hh; cases hh), wrap64_small (by omega) (by omega)]
        exact spare_l h k (x + 1) (by omega) (by omega) (by omega) (fun n hn1 hn2 => by
          by_cases e : n = x
          · subst e; exact hh
          · exact h4 n hn1 (by omega))
      · rw [if_pos ((held_and h x).2 (by simpa using hh))]
        exact ⟨x, rfl, fun e => by omega, fun _ => ⟨by unfold mn at hc; split at hc <;> omega, hx, by simpa using hh⟩, fun _ => h4⟩
    · rw [if_neg hc]
      exact ⟨0, rfl, fun _ n hn1 hn2 hn3 => h4 n hn1 (by unfold mn at hc; split at hc <;> omega), fun e => absurd rfl e, fun e => absurd rfl e⟩
theorem spare_any {w : World} {Z : Bytes} (h : PgB Z) {A : Option Addr} {c : Nat} (hc : 512 ≤ c) (hC : U8.C w A 512 Z) :
    ∃ s : Nat, Spare Z s ∧ Calls Tryz.prog 70 #[.slice A 512 c] w fun e w' => e = .returned (.int .i64 (s : Int)) ∧ Below w.heap.size w w' := by
  have hl := h.len
  obtain ⟨s, hs, hS⟩ := spare_l h 3937 1 (by omega) (by omega) (by omega) (fun n h1 h2 => by omega)
  rw [← hl] at hC hc ⊢
  exact ⟨s, hS, pages_spare.calls 3937 A c Z s w hC hc hs⟩

/-- page 0 -/
theorem gown_any {w : World} {g : Nat} {B : PG} {M : DM} {V : Int → Bytes} {cnt : Int} {ok : Nat → Prop} (h : FAt w g B M V cnt ok) :
    Calls Tryz.prog 69 #[dp g] w fun e w' => ∃ v, e = .returned (.tuple #[v, .int .i64 0]) ∧ U8.R 5 w' w.heap.size (fun k => w.heap.size ≤ k) v (V 0) ∧ Below w.heap.size w w' := by
  have hg := h.cell
  have HR := Aside0.mk (f_read h 0 (by omega) (by omega))
  clear h
  go_enter Tryz.func69, Tryz.ntmps69
  go_wp2_with (go_at_call 72; refine (HR.out).mono ?_; rintro e w' ⟨v, rfl, hv, hb⟩; obtain ⟨A3, c3, rfl⟩ := Kd.R_slice hv; have HV := Aside0.mk (And.intro hv hb); clear hv hb)
  go_ret2
  exact ⟨_, rfl, HV.out.1, HV.out.2⟩

set_option maxRecDepth 100000 in
/-- no free page above the bits -/
theorem high_none {w : World} (g : Nat) {Z : Bytes} (h : PgB Z) {A : Option Addr} {c : Nat} (hc : 512 ≤ c) (hC : U8.C w A 512 Z) (h18 : wordZ Z 18 = 0) (h16 : wordZ Z 16 < 4096) :
    Calls Tryz.prog 78 #[dp g, .slice A 512 c] w fun e w' => e = .returned (.tuple #[.slice none 0 0, .int .i64 0]) ∧ ∃ m, w' = w.drewN m := by
  have HW1 := wordc h hc hC 18 18 rfl (by omega)
  rw [h18] at HW1
  replace HW1 := Aside0.mk HW1
  have HW2 := Aside0.mk (fun m => wordc (w := w.drewN m) h hc (C_drewN hC m) 16 16 rfl (by omega))
  obtain ⟨t, ht⟩ : ∃ t, t = wordZ Z 16 := ⟨_, rfl⟩
  rw [← ht] at HW2 h16
  clear h hc hC h18 ht
  go_enter Tryz.func78, Tryz.ntmps78
  go_wp2
  go_step3
  go_wp2_with fail
  refine (HW1.out).mono ?_
  rintro e w' ⟨rfl, m1, rfl⟩
  go_wp2_with fail
  refine (HW2.out _).mono ?_
  rintro e w' ⟨rfl, m2, rfl⟩
  go_wp2
  go_step3
  go_wp2
  rw [Exit.noGoto_ret]
  go_ret2
  exact ⟨rfl, _, rfl⟩

theorem C_of_row {w : World} {base : Nat} {ok : Nat → Prop} {A : Option Addr} {n c : Nat} {l : Bytes} (h : U8.R 5 w base ok (.slice A n c) l) : U8.C w A n l ∧ n ≤ c ∧ l.length = n := by
  obtain ⟨A', c', e, hl, hC⟩ := Kd.R_reads h
  injection e with e1 e2 e3
  subst e1; subst e2; subst e3
  exact ⟨hC, hl, rfl⟩

set_option maxRecDepth 100000 in
/-- page 0 and another one are written -/
theorem gwrite_any {w : World} {g : Nat} {B : PG} {M : DM} {V : Int → Bytes} {cnt : Int} {ok : Nat → Prop} (h : FAt w g B M V cnt ok) {Az : Option Addr} {cz : Nat} {Z : Bytes} (hZ : U8.C w Az 512 Z) (hAz : ∀ ad, Az = some ad → ¬ ok ad.block ∧ ad.block < w.heap.size)
    (n : Int) (h0 : 0 ≤ n) (h1 : n < 4096) {A : Option Addr} {cb : Nat} {bs : Bytes} (hC : U8.C w A 512 bs) (hA : ∀ ad, A = some ad → ¬ ok ad.block ∧ ad.block < w.heap.size) :
    Calls Tryz.prog 75 #[dp g, .slice Az 512 cz, .int .i64 n, .slice A 512 cb] w fun e w' => e = .returned (.int .i64 0) ∧ FLeft w g B M (fun y => if y = n then bs else if y = 0 then Z else V y) (max (max cnt 1) (n + 1)) ok w' := by
  have hg := h.cell
  have HW1 := Aside0.mk (f_write (cb := cz) h 0 (by omega) (by omega) hZ hAz)
  have HX := Aside0.mk (And.intro h (And.intro hC hA))
  clear h hZ hAz hC hA
  go_enter Tryz.func75, Tryz.ntmps75
  go_wp2_with fail
  refine (HW1.out).mono ?_
  rintro e w1 ⟨rfl, hL⟩
  have hg1 := hL.1.cell
  have HW2 := Aside0.mk (f_write (cb := cb) hL.1 n h0 h1 (C_fr HX.out.2.1 (fun ad e => (HX.out.2.2 ad e).1) hL.2) (fun ad e => ⟨fun hk => hk.elim (HX.out.2.2 ad e).1 (fun hk => by have := (HX.out.2.2 ad e).2; omega), Nat.lt_of_lt_of_le (HX.out.2.2 ad e).2 hL.2.size⟩))
  have HL := Aside0.mk hL
  clear hL
  go_wp2_with fail
  refine (HW2.out).mono ?_
  rintro e w2 ⟨rfl, hL2⟩
  have HL2 := Aside0.mk hL2
  clear hL2
  go_wp2
  go_ret
  exact ⟨rfl, HL.out.trans HL2.out⟩

/-- a page that Alloc tells -/
def topZ (Z : Bytes) : Int := wordZ Z 16
/-- page 0 of a file of pages that has no free page above the bits -/
structure GoodZ (Z : Bytes) : Prop where
  pg : PgB Z
  first : wordZ Z 18 = 0
  top : wordZ Z 16 ≤ 3936
/-- page 0 behind a page was taken; from: the spare one, or 0 -/
def takeZ (Z : Bytes) (s : Nat) : Bytes := if s = 0 then orZ (setZ Z 16 (wordZ Z 16 + 1)) (wordZ Z 16 + 1).toNat else orZ Z s
def takeN (Z : Bytes) (s : Nat) : Int := if s = 0 then wordZ Z 16 + 1 else s
def zeros : Bytes := List.replicate 512 0
def updV (V : Int → Bytes) (n : Int) (Z bs : Bytes) : Int → Bytes := fun y => if y = n then bs else if y = 0 then Z else V y


set_option maxHeartbeats 2000000 in
set_option maxRecDepth 100000 in
theorem alloc_any {w : World} {g : Nat} {B : PG} {M : DM} {V : Int → Bytes} {cnt : Int} {ok : Nat → Prop} (h : FAt w g B M V cnt ok) (hZ : GoodZ (V 0)) (hroom : wordZ (V 0) 16 < 3936) :
    Calls Tryz.prog 16 #[dp g] w fun e w' => ∃ s : Nat, Spare (V 0) s ∧ e = .returned (.tuple #[.int .i64 (takeN (V 0) s), .int .i64 0]) ∧ FLeft w g B M (updV V (takeN (V 0) s) (takeZ (V 0) s) zeros) (max (max cnt 1) (takeN (V 0) s + 1)) ok w' := by
  have HO := Aside0.mk (gown_any h)
  have HX := Aside0.mk (And.intro h.tight (And.intro hZ hroom))
  obtain ⟨Z, hZe⟩ : ∃ Z, Z = V 0 := ⟨_, rfl⟩
  rw [← hZe] at HO HX ⊢
  have HZe := Aside0.mk hZe
  clear hZe h hZ hroom
  go_enter Tryz.func16, Tryz.ntmps16
  go_wp2_with fail
  refine (HO.out).mono ?_
  rintro e w1 ⟨v, rfl, hv, hb⟩
  obtain ⟨gz, c3, rfl, _, _, _⟩ := Kd.R_form hv (by rw [HX.out.2.1.pg.len]; omega)
  rw [HX.out.2.1.pg.len] at hv ⊢
  obtain ⟨hC, hc, hl⟩ := C_of_row hv
  obtain ⟨s, hs, hsp⟩ := spare_any HX.out.2.1.pg hc hC
  have HSP := Aside0.mk hsp
  have HS := Aside0.mk hs
  have HV := Aside0.mk (And.intro hv (And.intro hb (And.intro hC hc)))
  clear hv hb hC hc hl hsp hs
  go_wp2_with fail
  refine (HSP.out).mono ?_
  rintro e w2 ⟨rfl, hb2⟩
  have HV2 := Aside0.mk (And.intro (Kd.R_below HV.out.1 hb2) (And.intro (HV.out.2.1.trans (hb2.mono HV.out.2.1.size)) (Kd.C_below HV.out.2.2.1 hb2)))
  have HW1 := wordc HX.out.2.1.pg HV.out.2.2.2 HV2.out.2.2 18 18 rfl (by omega)
  rw [HX.out.2.1.first] at HW1
  replace HW1 := Aside0.mk HW1
  clear hb2 HSP
  go_wp2_with fail
  refine (HW1.out).mono ?_
  rintro e w' ⟨rfl, m1, rfl⟩
  have HT := wordZ_nn HX.out.2.1.pg 16
  have HR := HX.out.2.2
  obtain ⟨t, ht⟩ : ∃ t, t = wordZ Z 16 := ⟨_, rfl⟩
  rw [← ht] at HT HR
  by_cases hs0 : s = 0
  · have q0 : ((s : Int) == 0) = true := by simp [hs0]
    have HW2 := wordc (w := w2.drewN m1) HX.out.2.1.pg HV.out.2.2.2 (C_drewN HV2.out.2.2 m1) 16 16 rfl (by omega)
    rw [← ht] at HW2
    replace HW2 := Aside0.mk HW2
    have q1 : decide ((4096 : Int) ≤ t + 1) = false := by simp; omega
    have q2 : decide (t + 1 ≤ (3936 : Int)) = true := by simp; omega
    have t0 : 0 ≤ t := HT.1
    have t1 : t < 3936 := HR
    obtain ⟨n, hn⟩ : ∃ n : Nat, t + 1 = n := ⟨(t + 1).toNat, by omega⟩
    have n1 : 1 ≤ n := by omega
    have n2 : n ≤ 3936 := by omega
    have HQ := Aside0.mk (And.intro ht (And.intro hs0 hn))
    clear ht hs0 HT HR hn
    go_wp2_with fail
    refine (HW2.out).mono ?_
    rintro e w' ⟨rfl, m2, rfl⟩
    have HSet := Aside0.mk (setc (w := w) (w1 := w2.drewN (m1 + m2)) (pw_below_drewN HV2.out.2.1 _) (Kd.R_drewN HV2.out.1 _) HX.out.2.1.pg 16 16 rfl (by omega) (t + 1))
    go_wp2_with fail
    refine (HSet.out).mono ?_
    rintro e w3 ⟨rfl, hv3, hb3⟩
    have HZ1 := Aside0.mk (HX.out.2.1.pg.setZ 16 (by omega) (t + 1))
    have HV3 := Aside0.mk (And.intro hv3 hb3)
    obtain ⟨Z1, hZ1⟩ : ∃ Z1, Z1 = setZ Z 16 (t + 1) := ⟨_, rfl⟩
    rw [← hZ1] at HV3 HZ1
    have HZ1e := Aside0.mk hZ1
    clear hv3 hb3 hZ1 HSet
    have HBit := Aside0.mk (bitc' w3 (t + 1) n HQ.out.2.2 n1 (by omega))
    go_wp2_with fail
    refine (HBit.out).mono ?_
    rintro e w' ⟨rfl, m3, rfl⟩
    have hbl := bitAt_lt n1 n2
    obtain ⟨hx, hf, hput⟩ := row_cell (Kd.R_drewN HV3.out.1 m3) (bitAt n) hbl.2
    have HPut := Aside0.mk (hput (Go.bits .or .u8 (Z1.getD (bitAt n) 0) (mask n)))
    have HOr := Aside0.mk (show Z1.set (bitAt n) (Go.bits .or .u8 (Z1.getD (bitAt n) 0) (mask n)) = orZ Z1 n from rfl)
    generalize bitAt n = j at *
    generalize mask n = mk at *
    generalize Z1.getD j 0 = z at *
    have hj : j < 512 := hbl.2
    have hj' : (j : Int) < 512 := by omega
    have hj'' : (0 : Int) ≤ j := by omega
    clear hput hbl
    go_wp2_with ((with_reducible refine gate_dst (N := 75) rfl ?_); refine Kd.R_make U8 _ 5 rfl (N := 75) rfl 35 _ _ rfl 512 rfl rfl Tryz.underlying35 (.int .u8 0) 1 info5 rfl (by decide) (by omega) 0 (ok := fun k => w3.heap.size ≤ k) (okp := fun _ => False) rfl (fun _ hk => hk.elim) (by simp [World.setCell]) (by omega) (by omega) (Below.refl _ _) (Nat.le_refl _) ?_; intro v5 w5 hR5 hb5 _ _; have H5 := Aside0.mk (And.intro hR5 hb5); clear hR5 hb5)
    obtain ⟨A5, c5, rfl⟩ := Kd.R_slice H5.out.1
    rw [List.length_replicate] at H5 ⊢
    have hgz : w.heap.size ≤ gz := row_base HV3.out.1
    have hgl : gz < w3.heap.size := row_lt HV3.out.1
    have hb4 : Below w.heap.size w ((w3.drewN m3).setCell ⟨gz, j, none⟩ (.int .u8 (bits .or .u8 z mk))) := below_set (pw_below_drewN HV3.out.2 _) hgz
    have hs4 : ((w3.drewN m3).setCell ⟨gz, j, none⟩ (.int .u8 (bits .or .u8 z mk))).heap.size = w3.heap.size := by simp [World.setCell]
    have hb5 : Below w.heap.size w w5 := hb4.trans (H5.out.2.mono (by rw [hs4]; exact HV3.out.2.size))
    have hC5 := C_of_row (Kd.R_below HPut.out H5.out.2)
    have hCn := C_of_row H5.out.1
    have hA5 : ∀ ad, A5 = some ad → w3.heap.size ≤ ad.block ∧ ad.block < w5.heap.size := fun ad e => by
      subst e
      exact ⟨H5.out.1.1 ad.block (by simp [Value.ownBlock]), own_lt (Kd.own_of_R H5.out.1) ad.block (by simp [Value.ownBlock])⟩
    have hsw := HV3.out.2.size
    have hs5 : w3.heap.size ≤ w5.heap.size := by rw [← hs4]; exact H5.out.2.size
    have HG := Aside0.mk (gwrite_any (cz := c3) (cb := c5) (HX.out.1.move hb5.size (fun k hk hlt => hb5.block k hlt)) hC5.1 (fun ad e => by cases e; exact ⟨fun hk => by have := hk.2; show False; exact absurd this (Nat.not_lt.2 hgz), Nat.lt_of_lt_of_le hgl hs5⟩) (t + 1) (by omega) (by omega) hCn.1 (fun ad e => ⟨fun hk => by have := hk.2; have := (hA5 ad e).1; omega, (hA5 ad e).2⟩))
    have HB5 := Aside0.mk hb5
    clear hb4 hb5 hC5 hCn hA5 hs4 hs5 hsw hgz hgl
    go_wp2_with fail
    refine (HG.out).mono ?_
    rintro e w6 ⟨rfl, hL⟩
    have HL := Aside0.mk hL
    clear hL
    go_wp2
    go_ret2
    refine ⟨s, HS.out, ?_, ?_⟩
    · unfold takeN
      rw [if_pos HQ.out.2.1, ← HQ.out.1]
      rfl
    · have e1 : takeN Z s = t + 1 := by unfold takeN; rw [if_pos HQ.out.2.1, ← HQ.out.1]
      have e2 : takeZ Z s = Z1.set j (bits .or .u8 z mk) := by
        unfold takeZ
        rw [if_pos HQ.out.2.1, ← HQ.out.1, HOr.out, HZ1e.out, show (t + 1).toNat = n from by have := HQ.out.2.2; omega]
      rw [e1, e2]
      exact HL.out.lift HB5.out
  · have q0 : ((s : Int) == 0) = false := by simp [hs0]
    have hsm := (HS.out.pos hs0).2.1
    have q2 : decide ((s : Int) ≤ (3936 : Int)) = true := by simp; omega
    obtain ⟨n, hn⟩ : ∃ n : Nat, n = s := ⟨_, rfl⟩
    have n1 : 1 ≤ n := by omega
    have n2 : n ≤ 3936 := by omega
    have HQ := Aside0.mk (And.intro ht (And.intro hs0 hn))
    clear ht HT HR hn hsm hs0
    obtain ⟨w3, hw3⟩ : ∃ w3, w3 = w2.drewN m1 := ⟨_, rfl⟩
    rw [← hw3]
    have HV3 : Aside0 (U8.R 5 w3 w.heap.size (fun k => w.heap.size ≤ k) (.slice (some ⟨gz, 0, none⟩) 512 c3) Z ∧ Below w.heap.size w w3) := ⟨by rw [hw3]; exact ⟨Kd.R_drewN HV2.out.1 _, pw_below_drewN HV2.out.2.1 _⟩⟩
    clear hw3
    have HZ1 : Aside0 (PgB Z) := ⟨HX.out.2.1.pg⟩
    obtain ⟨Z1, hZ1⟩ : ∃ Z1, Z1 = Z := ⟨_, rfl⟩
    rw [← hZ1] at HV3 HZ1
    have HZ1e := Aside0.mk hZ1
    clear hZ1
    have HBit := Aside0.mk (bitc' w3 (s : Int) n (by rw [HQ.out.2.2]) n1 (by omega))
    go_wp2_with fail
    refine (HBit.out).mono ?_
    rintro e w' ⟨rfl, m3, rfl⟩
    have hbl := bitAt_lt n1 n2
    obtain ⟨hx, hf, hput⟩ := row_cell (Kd.R_drewN HV3.out.1 m3) (bitAt n) hbl.2
    have HPut := Aside0.mk (hput (Go.bits .or .u8 (Z1.getD (bitAt n) 0) (mask n)))
    have HOr := Aside0.mk (show Z1.set (bitAt n) (Go.bits .or .u8 (Z1.getD (bitAt n) 0) (mask n)) = orZ Z1 n from rfl)
    generalize bitAt n = j at *
    generalize mask n = mk at *
    generalize Z1.getD j 0 = z at *
    have hj : j < 512 := hbl.2
    have hj' : (j : Int) < 512 := by omega
    have hj'' : (0 : Int) ≤ j := by omega
    clear hput hbl
    go_wp2_with ((with_reducible refine gate_dst (N := 75) rfl ?_); refine Kd.R_make U8 _ 5 rfl (N := 75) rfl 35 _ _ rfl 512 rfl rfl Tryz.underlying35 (.int .u8 0) 1 info5 rfl (by decide) (by omega) 0 (ok := fun k => w3.heap.size ≤ k) (okp := fun _ => False) rfl (fun _ hk => hk.elim) (by simp [World.setCell]) (by omega) (by omega) (Below.refl _ _) (Nat.le_refl _) ?_; intro v5 w5 hR5 hb5 _ _; have H5 := Aside0.mk (And.intro hR5 hb5); clear hR5 hb5)
    obtain ⟨A5, c5, rfl⟩ := Kd.R_slice H5.out.1
    rw [List.length_replicate] at H5 ⊢
    have hgz : w.heap.size ≤ gz := row_base HV3.out.1
    have hgl : gz < w3.heap.size := row_lt HV3.out.1
    have hb4 : Below w.heap.size w ((w3.drewN m3).setCell ⟨gz, j, none⟩ (.int .u8 (bits .or .u8 z mk))) := below_set (pw_below_drewN HV3.out.2 _) hgz
    have hs4 : ((w3.drewN m3).setCell ⟨gz, j, none⟩ (.int .u8 (bits .or .u8 z mk))).heap.size = w3.heap.size := by simp [World.setCell]
    have hb5 : Below w.heap.size w w5 := hb4.trans (H5.out.2.mono (by rw [hs4]; exact HV3.out.2.size))
    have hC5 := C_of_row (Kd.R_below HPut.out H5.out.2)
    have hCn := C_of_row H5.out.1
    have hA5 : ∀ ad, A5 = some ad → w3.heap.size ≤ ad.block ∧ ad.block < w5.heap.size := fun ad e => by
      subst e
      exact ⟨H5.out.1.1 ad.block (by simp [Value.ownBlock]), own_lt (Kd.own_of_R H5.out.1) ad.block (by simp [Value.ownBlock])⟩
    have hsw := HV3.out.2.size
    have hs5 : w3.heap.size ≤ w5.heap.size := by rw [← hs4]; exact H5.out.2.size
    have HG := Aside0.mk (gwrite_any (cz := c3) (cb := c5) (HX.out.1.move hb5.size (fun k hk hlt => hb5.block k hlt)) hC5.1 (fun ad e => by cases e; exact ⟨fun hk => by have := hk.2; show False; exact absurd this (Nat.not_lt.2 hgz), Nat.lt_of_lt_of_le hgl hs5⟩) (s : Int) (by omega) (by have := HQ.out.2.2; omega) hCn.1 (fun ad e => ⟨fun hk => by have := hk.2; have := (hA5 ad e).1; omega, (hA5 ad e).2⟩))
    have HB5 := Aside0.mk hb5
    clear hb4 hb5 hC5 hCn hA5 hs4 hs5 hsw hgz hgl
    go_wp2_with fail
    refine (HG.out).mono ?_
    rintro e w6 ⟨rfl, hL⟩
    have HL := Aside0.mk hL
    clear hL
    go_wp2
    go_ret2
    refine ⟨s, HS.out, ?_, ?_⟩
    · unfold takeN
      rw [if_neg HQ.out.2.1]
      rfl
    · have e1 : takeN Z s = (s : Int) := by unfold takeN; rw [if_neg HQ.out.2.1]
      have e2 : takeZ Z s = Z1.set j (bits .or .u8 z mk) := by
        unfold takeZ
        rw [if_neg HQ.out.2.1, HOr.out, HZ1e.out, HQ.out.2.2]
      rw [e1, e2]
      exact HL.out.lift HB5.out
end Go.Proofs.YtpaiadidgokjlaaGreat

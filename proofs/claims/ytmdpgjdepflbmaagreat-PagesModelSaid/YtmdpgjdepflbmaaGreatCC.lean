/-
  Page 0 as plain bytes: words, bits, the lowest that is spare.
-/
import Derived.Test.YtmdpgjdepflbmaaGreatCPPagesModelx5
import Derived.Test.YtmdpgjdepflbmaaGreatCPPagesModelx6
import Derived.Test.YtmdpgjdepflbmaaGreatCPPagesModelx7
import Derived.Test.YtmdpgjdepflbmaaGreatCPPagesModelx8
import Derived.Test.YtmdpgjdepflbmaaGreatCPPagerFoldsx1
import Derived.Test.YtmdpgjdepflbmaaGreatCPPagerFoldsx4
import Derived.Test.YtmdpgjdepflbmaaGreatCPPagerFoldsx5
import Derived.Test.YtmdpgjdepflbmaaGreatCPPagerFoldsx6
import Derived.Laws.BitsAllLaws
import Derived.Test.YtmdpgjdepflbmaaGreatCB
namespace Go.Proofs.YtmdpgjdepflbmaaGreat
open Go.RowKit Go.Proofs.YtmdpgjdepflbmaaGreatW.PrintWords Go.Proofs.YtmdpgjdepflbmaaGreatW.PrintLast Go.Proofs.YtmdpgjdepflbmaaGreatW.PrintMore
open Go.Proofs.YtmdpgjdepflbmaaGreat.PPagerFolds
set_option linter.unusedVariables false

/-- bytes of a page -/
structure PgB (Z : List Int) : Prop where
  len : Z.length = 512
  byte : ∀ (i : Nat), 0 ≤ Z.getD i 0 ∧ Z.getD i 0 < 256
def wordZ (Z : List Int) (a : Nat) : Int := Z.getD a 0 * 256 + Z.getD (a + 1) 0
def setZ (Z : List Int) (a : Nat) (v : Int) : List Int := (Z.set a ((v / 256) % 256)).set (a + 1) (v % 256)
theorem wordZ_nn {Z : List Int} (h : PgB Z) (a : Nat) : 0 ≤ wordZ Z a ∧ wordZ Z a < 65536 := by
  have h1 := h.byte a
  have h2 := h.byte (a + 1)
  unfold wordZ
  omega

theorem i64_or_small (a b : Nat) (ha : a < 256) (hb : b < 256) : Go.bits .or .i64 ((a : Int) * 256) (b : Int) = (a : Int) * 256 + b := by
  have e1 : (BitVec.ofInt 64 ((a : Int) * 256)).toNat = a * 256 := by
    rw [show (a : Int) * 256 = ((a * 256 : Nat) : Int) from by omega, BitVec.ofInt_natCast, BitVec.toNat_ofNat, Nat.mod_eq_of_lt (by omega)]
  have e2 : (BitVec.ofInt 64 (b : Int)).toNat = b := by
    rw [BitVec.ofInt_natCast, BitVec.toNat_ofNat, Nat.mod_eq_of_lt (by omega)]
  have e3 : a * 256 ||| b = a * 256 + b := by
    have := Nat.shiftLeft_add_eq_or_of_lt (i := 8) hb a
    rw [Nat.shiftLeft_eq] at this
    exact this.symm
  show IntKind.i64.wrap (((BitVec.ofInt 64 ((a : Int) * 256) ||| BitVec.ofInt 64 (b : Int)).toNat : Nat) : Int) = _
  rw [BitVec.toNat_or, e1, e2, e3]
  simp [IntKind.wrap, IntKind.bits, IntKind.signed]
  omega
theorem rd_getD (Z : List Int) (a : Nat) : rd Z (a : Int) = Z.getD a 0 := by simp [rd]
theorem wrap64_small {x : Int} (h0 : -4611686018427387904 ≤ x) (h : x < 4611686018427387904) : wrap64 x = x := by unfold wrap64; omega
theorem word_f {Z : List Int} (h : PgB Z) (a : Nat) (ha : a + 1 < 512) : PPagesModel.pages_word.f Z (a : Int) = some (wordZ Z a) := by
  have hl := h.len
  obtain ⟨x0, x1⟩ := h.byte a
  obtain ⟨y0, y1⟩ := h.byte (a + 1)
  unfold PPagesModel.pages_word.f
  rw [wrap64_small (x := (a : Int) + 1) (by omega) (by omega)]
  rw [if_pos (by omega), if_pos (by omega), if_pos (by omega), if_pos (by omega)]
  rw [show (a : Int) + 1 = ((a + 1 : Nat) : Int) from by omega, rd_getD, rd_getD]
  rw [wrap64_small (x := Z.getD a 0) (by omega) (by omega), wrap64_small (x := Z.getD a 0 * 256) (by omega) (by omega), wrap64_small (x := Z.getD (a + 1) 0) (by omega) (by omega)]
  obtain ⟨x, hx⟩ := Int.eq_ofNat_of_zero_le x0
  obtain ⟨y, hy⟩ := Int.eq_ofNat_of_zero_le y0
  unfold wordZ
  rw [hx, hy, i64_or_small x y (by omega) (by omega)]
theorem set_f {Z : List Int} (h : PgB Z) (a : Nat) (ha : a + 1 < 512) (v : Int) : PPagesModel.pages_set.f Z (a : Int) v = some (setZ Z a v) := by
  have hl := h.len
  unfold PPagesModel.pages_set.f setZ
  rw [wrap64_small (x := (a : Int) + 1) (by omega) (by omega)]
  rw [if_pos (by omega), if_pos (by omega), if_pos (by omega), if_pos (by omega)]
  rw [show ((a : Int)).toNat = a from by omega, show ((a : Int) + 1).toNat = a + 1 from by omega]
theorem getD_set (Z : List Int) (i j : Nat) (v : Int) (hi : i < Z.length) : (Z.set i v).getD j 0 = if j = i then v else Z.getD j 0 := by
  simp only [List.getD_eq_getElem?_getD, List.getElem?_set]
  by_cases e : j = i
  · subst e; simp [hi]
  · rw [if_neg (fun h => e h.symm), if_neg e]
theorem getD_setZ {Z : List Int} (h : PgB Z) (a : Nat) (ha : a + 1 < 512) (v : Int) (j : Nat) : (setZ Z a v).getD j 0 = if j = a then (v / 256) % 256 else if j = a + 1 then v % 256 else Z.getD j 0 := by
  have hl := h.len
  unfold setZ
  rw [getD_set _ _ _ _ (by rw [List.length_set]; omega), getD_set _ _ _ _ (by omega)]
  by_cases e : j = a
  · subst e
    rw [if_neg (by omega), if_pos rfl]
    simp
  · by_cases e2 : j = a + 1
    · rw [if_pos e2, if_neg e, if_pos e2]
    · rw [if_neg e2, if_neg e, if_neg e, if_neg e2]
theorem PgB.setZ {Z : List Int} (h : PgB Z) (a : Nat) (ha : a + 1 < 512) (v : Int) : PgB (setZ Z a v) := by
  refine ⟨by unfold Go.Proofs.YtmdpgjdepflbmaaGreat.setZ; simp [h.len], fun i => ?_⟩
  rw [getD_setZ h a ha]
  have := h.byte i
  split
  · omega
  · split <;> omega
theorem PgB.set {Z : List Int} (h : PgB Z) (a : Nat) (ha : a < 512) {v : Int} (h0 : 0 ≤ v) (h1 : v < 256) : PgB (Z.set a v) := by
  have hl := h.len
  refine ⟨by simp [h.len], fun i => ?_⟩
  rw [getD_set _ _ _ _ (by omega)]
  have := h.byte i
  split <;> omega
theorem word_setZ {Z : List Int} (h : PgB Z) (a : Nat) (ha : a + 1 < 512) {v : Int} (h0 : 0 ≤ v) (h1 : v < 65536) : wordZ (setZ Z a v) a = v := by
  unfold wordZ
  rw [getD_setZ h a ha, getD_setZ h a ha, if_pos rfl, if_neg (by omega), if_pos rfl]
  omega
theorem word_setZ_ne {Z : List Int} (h : PgB Z) (a b : Nat) (ha : a + 1 < 512) (hb : b + 1 < a ∨ a + 1 < b) (v : Int) : wordZ (setZ Z a v) b = wordZ Z b := by
  unfold wordZ
  rw [getD_setZ h a ha, getD_setZ h a ha, if_neg (by omega), if_neg (by omega), if_neg (by omega), if_neg (by omega)]
theorem word_set_ne {Z : List Int} (h : PgB Z) (a b : Nat) (ha : a < 512) (hb : b + 1 < a) (v : Int) : wordZ (Z.set a v) b = wordZ Z b := by
  have hl := h.len
  unfold wordZ
  rw [getD_set _ _ _ _ (by omega), getD_set _ _ _ _ (by omega), if_neg (by omega), if_neg (by omega)]
theorem PgB.zero : PgB (List.replicate 512 0) := ⟨by rw [List.length_replicate], fun i => by
  rw [List.getD_eq_getElem?_getD, List.getElem?_replicate]
  split <;> simp⟩
theorem zero_getD (i : Nat) : (List.replicate 512 (0 : Int)).getD i 0 = 0 := by
  rw [List.getD_eq_getElem?_getD, List.getElem?_replicate]
  split <;> simp
theorem zero_word (a : Nat) : wordZ (List.replicate 512 0) a = 0 := by unfold wordZ; rw [zero_getD, zero_getD]; rfl

/-! ### bits -/
def bitAt (n : Nat) : Nat := 20 + (n - 1) / 8
def mask (n : Nat) : Nat := 2 ^ ((n - 1) % 8)
theorem mask_lt (n : Nat) : mask n < 256 := by
  unfold mask
  have : (n - 1) % 8 < 8 := Nat.mod_lt _ (by decide)
  exact Nat.lt_of_lt_of_le (Nat.pow_lt_pow_right (by decide) this) (by decide)
theorem bit_f (n : Nat) (h1 : 1 ≤ n) (h2 : n ≤ 4096) : PPagesModel.pages_bit.f (n : Int) = some ((bitAt n : Int), (mask n : Int)) := by
  have e1 : wrap64 ((n : Int) - 1) = ((n - 1 : Nat) : Int) := by rw [wrap64_small (by omega) (by omega)]; omega
  have e2 : Int.tmod ((n - 1 : Nat) : Int) 8 = (((n - 1) % 8 : Nat) : Int) := by rw [Int.tmod_eq_emod_of_nonneg (by omega)]; omega
  have e3 : Int.tdiv ((n - 1 : Nat) : Int) 8 = (((n - 1) / 8 : Nat) : Int) := by rw [Int.tdiv_eq_ediv_of_nonneg (by omega)]; omega
  unfold PPagesModel.pages_bit.f
  rw [e1, e2, e3, if_pos (by omega), wrap64_small (x := (((n - 1) / 8 : Nat) : Int)) (by omega) (by omega), wrap64_small (x := 20 + (((n - 1) / 8 : Nat) : Int)) (by omega) (by omega)]
  have h8 : (n - 1) % 8 < 8 := Nat.mod_lt _ (by decide)
  have e4 : shl .u8 1 (((n - 1) % 8 : Nat) : Int) = ((mask n : Nat) : Int) := by
    unfold shl mask
    rw [Int.toNat_natCast, show IntKind.u8.bits = 8 from rfl, Nat.min_eq_left (by omega)]
    generalize (n - 1) % 8 = j at h8
    have : j = 0 ∨ j = 1 ∨ j = 2 ∨ j = 3 ∨ j = 4 ∨ j = 5 ∨ j = 6 ∨ j = 7 := by omega
    rcases this with rfl | rfl | rfl | rfl | rfl | rfl | rfl | rfl <;> decide
  rw [e4]
  congr 1
/-- is a page's bit set? -/
def heldZ (Z : List Int) (n : Nat) : Bool := (Z.getD (bitAt n) 0).toNat.testBit ((n - 1) % 8)
def orZ (Z : List Int) (n : Nat) : List Int := Z.set (bitAt n) (Go.bits .or .u8 (Z.getD (bitAt n) 0) (mask n))
def clrZ (Z : List Int) (n : Nat) : List Int := Z.set (bitAt n) (Go.bits .andNot .u8 (Z.getD (bitAt n) 0) (mask n))
theorem and_mask (a : Nat) (i : Nat) : (a &&& 2 ^ i = 0) ↔ a.testBit i = false := by
  constructor
  · intro h
    have := congrArg (fun x => x.testBit i) h
    simpa [Nat.testBit_and, Nat.testBit_two_pow_self] using this
  · intro h
    apply Nat.eq_of_testBit_eq
    intro j
    rw [Nat.testBit_and, Nat.zero_testBit]
    by_cases e : i = j
    · subst e; simp [h]
    · simp [Nat.testBit_two_pow_of_ne e]
theorem held_and {Z : List Int} (h : PgB Z) (n : Nat) : (Go.bits .and .u8 (Z.getD (bitAt n) 0) (mask n) = 0) ↔ heldZ Z n = false := by
  obtain ⟨h0, h1⟩ := h.byte (bitAt n)
  have hm := mask_lt n
  rw [u8_and _ _ h0 h1 (by omega) (by omega), Int.toNat_natCast]
  unfold heldZ
  rw [← and_mask]
  unfold mask
  omega
theorem or_range {Z : List Int} (h : PgB Z) (n : Nat) : 0 ≤ Go.bits .or .u8 (Z.getD (bitAt n) 0) (mask n) ∧ Go.bits .or .u8 (Z.getD (bitAt n) 0) (mask n) < 256 := by
  obtain ⟨h0, h1⟩ := h.byte (bitAt n)
  have hm := mask_lt n
  rw [u8_or _ _ h0 h1 (by omega) (by omega), Int.toNat_natCast]
  have : (Z.getD (bitAt n) 0).toNat ||| mask n < 2 ^ 8 := Nat.or_lt_two_pow (by omega) hm
  omega
theorem clr_range {Z : List Int} (h : PgB Z) (n : Nat) : 0 ≤ Go.bits .andNot .u8 (Z.getD (bitAt n) 0) (mask n) ∧ Go.bits .andNot .u8 (Z.getD (bitAt n) 0) (mask n) < 256 := by
  obtain ⟨h0, h1⟩ := h.byte (bitAt n)
  have hm := mask_lt n
  rw [u8_andNot _ _ h0 h1 (by omega) (by omega), Int.toNat_natCast]
  have : (Z.getD (bitAt n) 0).toNat &&& (255 - mask n) < 2 ^ 8 := Nat.and_lt_two_pow _ (by omega)
  omega
theorem bitAt_lt {n : Nat} (h1 : 1 ≤ n) (h2 : n ≤ 3936) : 20 ≤ bitAt n ∧ bitAt n < 512 := by unfold bitAt; omega
theorem PgB.orZ {Z : List Int} (h : PgB Z) {n : Nat} (h1 : 1 ≤ n) (h2 : n ≤ 3936) : PgB (orZ Z n) := h.set _ (bitAt_lt h1 h2).2 (or_range h n).1 (or_range h n).2
theorem PgB.clrZ {Z : List Int} (h : PgB Z) {n : Nat} (h1 : 1 ≤ n) (h2 : n ≤ 3936) : PgB (clrZ Z n) := h.set _ (bitAt_lt h1 h2).2 (clr_range h n).1 (clr_range h n).2
theorem same_bit {n m : Nat} (hn : 1 ≤ n) (hm : 1 ≤ m) (h1 : bitAt m = bitAt n) (h2 : (m - 1) % 8 = (n - 1) % 8) : m = n := by
  unfold bitAt at h1
  omega
theorem held_orZ {Z : List Int} (h : PgB Z) {n m : Nat} (h1 : 1 ≤ n) (h2 : n ≤ 3936) (hm : 1 ≤ m) : heldZ (orZ Z n) m = (decide (m = n) || heldZ Z m) := by
  have hl := h.len
  obtain ⟨b0, b1⟩ := h.byte (bitAt n)
  have hmk := mask_lt n
  unfold heldZ orZ
  rw [getD_set _ _ _ _ (by rw [hl]; exact (bitAt_lt h1 h2).2)]
  by_cases e : bitAt m = bitAt n
  · rw [if_pos e, u8_or _ _ b0 b1 (by omega) (by omega), Int.toNat_natCast, Int.toNat_natCast, Nat.testBit_or, e]
    unfold mask
    rw [Nat.testBit_two_pow]
    by_cases e2 : (n - 1) % 8 = (m - 1) % 8
    · have : m = n := same_bit h1 hm e e2.symm
      subst this; simp
    · have : ¬ m = n := fun h => e2 (by rw [h])
      simp [e2, this]
  · rw [if_neg e]
    have : ¬ m = n := fun h => e (by rw [h])
    simp [this]
theorem held_clrZ {Z : List Int} (h : PgB Z) {n m : Nat} (h1 : 1 ≤ n) (h2 : n ≤ 3936) (hm : 1 ≤ m) : heldZ (clrZ Z n) m = (!decide (m = n) && heldZ Z m) := by
  have hl := h.len
  obtain ⟨b0, b1⟩ := h.byte (bitAt n)
  have hmk := mask_lt n
  have h8 : (n - 1) % 8 < 8 := Nat.mod_lt _ (by decide)
  have hm8 : (m - 1) % 8 < 8 := Nat.mod_lt _ (by decide)
  unfold heldZ clrZ
  rw [getD_set _ _ _ _ (by rw [hl]; exact (bitAt_lt h1 h2).2)]
  by_cases e : bitAt m = bitAt n
  · rw [if_pos e, u8_andNot _ _ b0 b1 (by omega) (by omega), Int.toNat_natCast, Int.toNat_natCast, Nat.testBit_and, e]
    have e3 : (255 - mask n).testBit ((m - 1) % 8) = !decide ((n - 1) % 8 = (m - 1) % 8) := by
      have hx := Nat.testBit_two_pow_sub_succ (n := 8) (x := mask n) hmk ((m - 1) % 8)
      rw [show 2 ^ 8 - (mask n + 1) = 255 - mask n from by omega] at hx
      rw [hx]
      unfold mask
      rw [Nat.testBit_two_pow]
      simp [hm8]
    rw [e3]
    by_cases e2 : (n - 1) % 8 = (m - 1) % 8
    · have : m = n := same_bit h1 hm e e2.symm
      subst this; simp
    · have : ¬ m = n := fun h => e2 (by rw [h])
      simp [e2, this]
  · rw [if_neg e]
    have : ¬ m = n := fun h => e (by rw [h])
    simp [this]
theorem held_setZ {Z : List Int} (h : PgB Z) {a : Nat} (ha : a + 1 < 20) (v : Int) (m : Nat) : heldZ (setZ Z a v) m = heldZ Z m := by
  unfold heldZ
  rw [getD_setZ h a (by omega), if_neg (by unfold bitAt; omega), if_neg (by unfold bitAt; omega)]
theorem held_zero (m : Nat) : heldZ (List.replicate 512 0) m = false := by unfold heldZ; rw [zero_getD]; simp
end Go.Proofs.YtmdpgjdepflbmaaGreat
namespace Go.Proofs.YtmdpgjdepflbmaaGreat
open Go.RowKit Go.Maps Go.Proofs.YtmdpgjdepflbmaaGreatW.PrintWords Go.Proofs.YtmdpgjdepflbmaaGreatW.PrintLast Go.Proofs.YtmdpgjdepflbmaaGreatW.PrintMore
open Go.Proofs.YtmdpgjdepflbmaaGreat.PPagerFolds
set_option linter.unusedVariables false
set_option linter.unusedSimpArgs false

section
variable {w w1 w2 : World} {g : Nat} {B : PG} {M : DM} {V : Int → Bytes} {cnt : Int} {ok : Nat → Prop}
theorem FAt.tight (h : FAt w g B M V cnt ok) : FAt w g B M V cnt (fun k => ok k ∧ k < w.heap.size) := by
  obtain ⟨X, ok1, h1, h2, h3, h4, h5, h6, h7, h8, h9, h10⟩ := h
  exact ⟨X, _, h1, h2, h3, h4, h5, h6, h7.tight, h8, fun k hk => ⟨⟨(h9 k hk.1).1, hk.2⟩, (h9 k hk.1).2⟩, ⟨h10, heap_lt h8⟩⟩
theorem FLeft.lift (hb : Below w.heap.size w w1) (h : FLeft w1 g B M V cnt (fun k => ok k ∧ k < w.heap.size) w2) : FLeft w g B M V cnt ok w2 := by
  have h1 := hb.size
  have h2 := h.2.size
  refine ⟨h.1.mono (fun k hk => ?_), (Fr.of_below (ok := ok) hb).trans h.2 (fun k hk => .inl hk.1)⟩
  rcases hk with hk | hk
  · exact .inl hk.1
  · exact .inr ⟨by omega, hk.2⟩
end

theorem wordc {w : World} {Z : Bytes} (h : PgB Z) {A : Option Addr} {c : Nat} (hc : 512 ≤ c) (hC : U8.C w A 512 Z) (a : Int) (n : Nat) (ha : a = n) (hn : n + 1 < 512) :
    Calls Tryz.prog 81 #[.slice A 512 c, .int .i64 a] w fun e w' => e = .returned (.int .i64 (wordZ Z n)) ∧ ∃ m, w' = w.drewN m := by
  subst ha
  have hl := h.len
  rw [← hl] at hC hc ⊢
  refine (PPagesModel.pages_word.calls A c Z n (wordZ Z n) w hC hc (word_f h n hn)).mono ?_
  rintro e w' ⟨rfl, ⟨m, rfl⟩⟩
  exact ⟨rfl, m, rfl⟩
theorem setc {w w1 : World} {v : Value} {Z : Bytes} (hB : Below w.heap.size w w1) (hR : U8.R 5 w1 w.heap.size (fun k => w.heap.size ≤ k) v Z) (h : PgB Z) (a : Int) (n : Nat) (ha : a = n) (hn : n + 1 < 512) (x : Int) :
    Calls Tryz.prog 105 #[v, .int .i64 a, .int .i64 x] w1 fun e w2 => e = .returned (.tuple #[]) ∧ U8.R 5 w2 w.heap.size (fun k => w.heap.size ≤ k) v (setZ Z n x) ∧ Below w.heap.size w w2 := by
  subst ha
  refine (PPagesModel.pages_set.calls _ v Z n x (setZ Z n x) w w1 hB hR (set_f h n hn x)).mono ?_
  rintro e w2 ⟨rfl, h1, h2, _⟩
  have := hB.size
  exact ⟨rfl, Kd.R_mono h1 (fun k hk => hk.elim id (fun h => by omega)), h2⟩
theorem bitc (w : World) (n : Nat) (h1 : 1 ≤ n) (h2 : n ≤ 4096) :
    Calls Tryz.prog 82 #[.int .i64 n] w fun e w' => e = .returned (.tuple #[.int .i64 (bitAt n), .int .u8 (mask n)]) ∧ ∃ m, w' = w.drewN m := by
  refine (PPagesModel.pages_bit.calls n _ _ w (bit_f n h1 h2)).mono ?_
  rintro e w' ⟨rfl, ⟨m, rfl⟩⟩
  exact ⟨rfl, m, rfl⟩

theorem bitc' (w : World) (x : Int) (n : Nat) (hx : x = n) (h1 : 1 ≤ n) (h2 : n ≤ 4096) :
    Calls Tryz.prog 82 #[.int .i64 x] w fun e w' => e = .returned (.tuple #[.int .i64 (bitAt n), .int .u8 (mask n)]) ∧ ∃ m, w' = w.drewN m := by
  subst hx
  exact bitc w n h1 h2
/-- the cell of a row of bytes, and the row when it is turned -/
theorem row_cell {w : World} {base : Nat} {ok : Nat → Prop} {gz cap : Nat} {l : Bytes} (h : U8.R 5 w base ok (.slice (some ⟨gz, 0, none⟩) 512 cap) l) (j : Nat) (hj : j < 512) :
    w.cell? ⟨gz, j, none⟩ = some (.int .u8 (l.getD j 0)) ∧ w.frozen? ⟨gz, j, none⟩ = false ∧ ∀ x, U8.R 5 (w.setCell ⟨gz, j, none⟩ (.int .u8 x)) base ok (.slice (some ⟨gz, 0, none⟩) 512 cap) (l.set j x) := by
  obtain ⟨h1, h2⟩ := Kd.R_celln 0 h (j : Int) (by omega) (by omega)
  rw [Int.toNat_natCast] at h1 h2
  refine ⟨?_, h2, fun x => ?_⟩
  · rw [h1]; simp [rdOf]
  · have := Kd.R_putn h (j : Int) x
    rwa [Int.toNat_natCast] at this
theorem row_base {w : World} {base : Nat} {ok : Nat → Prop} {gz n cap : Nat} {l : Bytes} (h : U8.R 5 w base ok (.slice (some ⟨gz, 0, none⟩) n cap) l) : ok gz := h.1 gz (by simp [Value.ownBlock])
theorem row_lt {w : World} {base : Nat} {ok : Nat → Prop} {gz n cap : Nat} {l : Bytes} (h : U8.R 5 w base ok (.slice (some ⟨gz, 0, none⟩) n cap) l) : gz < w.heap.size := own_lt (Kd.own_of_R h) gz (by simp [Value.ownBlock])

/-- what spare tells -/
structure Spare (Z : Bytes) (s : Nat) : Prop where
  zero : s = 0 → ∀ n : Nat, 1 ≤ n → (n : Int) ≤ wordZ Z 16 → n ≤ 3936 → heldZ Z n = true
  pos : s ≠ 0 → (s : Int) ≤ wordZ Z 16 ∧ s ≤ 3936 ∧ heldZ Z s = false
  low : s ≠ 0 → ∀ n : Nat, 1 ≤ n → n < s → heldZ Z n = true
theorem spare_l {Z : Bytes} (h : PgB Z) : ∀ (k x : Nat), 1 ≤ x → x ≤ 3937 → 3937 - x < k → (∀ n : Nat, 1 ≤ n → n < x → heldZ Z n = true) → ∃ s : Nat, PPagesModel.pages_spare.l0 k Z x = some (s : Int) ∧ Spare Z s
  | 0, x, h1, h2, h3, h4 => by omega
  | k + 1, x, h1, h2, h3, h4 => by
    have hl := h.len
    unfold PPagesModel.pages_spare.l0
    rw [show (16 : Int) = ((16 : Nat) : Int) from rfl, word_f h 16 (by omega), Option.bind_some]
    by_cases hc : (x : Int) ≤ mn (wordZ Z 16) 3936
    · rw [if_pos hc, bit_f x h1 (by omega), Option.bind_some]
      have hx : x ≤ 3936 := by unfold mn at hc; split at hc <;> omega
      have hb := bitAt_lt h1 hx
      rw [if_pos (by omega), if_pos (by omega), rd_getD]
      by_cases hh : heldZ Z x = true
      · rw [if_neg (fun e => by rw [(held_and h x).1 e] at hh; cases hh), wrap64_small (by omega) (by omega)]
        exact spare_l h k (x + 1) (by omega) (by omega) (by omega) (fun n hn1 hn2 => by
          by_cases e : n = x
          · subst e; exact hh
          · exact h4 n hn1 (by omega))
      · rw [if_pos ((held_and h x).2 (by simpa using hh))]
        exact ⟨x, rfl, fun e => by omega, fun _ => ⟨by unfold mn at hc; split at hc <;> omega, hx, by simpa using hh⟩, fun _ => h4⟩
    · rw [if_neg hc]
      exact ⟨0, rfl, fun _ n hn1 hn2 hn3 => h4 n hn1 (by unfold mn at hc; split at hc <;> omega), fun e => absurd rfl e, fun e => absurd rfl e⟩
theorem spare_any {w : World} {Z : Bytes} (h : PgB Z) {A : Option Addr} {c : Nat} (hc : 512 ≤ c) (hC : U8.C w A 512 Z) :
    ∃ s : Nat, Spare Z s ∧ Calls Tryz.prog 107 #[.slice A 512 c] w fun e w' => e = .returned (.int .i64 (s : Int)) ∧ Below w.heap.size w w' := by
  have hl := h.len
  obtain ⟨s, hs, hS⟩ := spare_l h 3937 1 (by omega) (by omega) (by omega) (fun n h1 h2 => by omega)
  rw [← hl] at hC hc ⊢
  exact ⟨s, hS, PPagesModel.pages_spare.calls 3937 A c Z s w hC hc hs⟩

/-- page 0 -/
theorem gown_any {w : World} {g : Nat} {B : PG} {M : DM} {V : Int → Bytes} {cnt : Int} {ok : Nat → Prop} (h : FAt w g B M V cnt ok) :
    Calls Tryz.prog 79 #[dp g] w fun e w' => ∃ v, e = .returned (.tuple #[v, .int .i64 0]) ∧ U8.R 5 w' w.heap.size (fun k => w.heap.size ≤ k) v (V 0) ∧ Below w.heap.size w w' := by
  have hg := h.cell
  have HR := Aside0.mk (f_read h 0 (by omega) (by omega))
  clear h
  go_enter Tryz.func79, Tryz.ntmps79
  go_wp2_with (go_at_call 23; refine (HR.out).mono ?_; rintro e w' ⟨v, rfl, hv, hb⟩; obtain ⟨A3, c3, rfl⟩ := Kd.R_slice hv; have HV := Aside0.mk (And.intro hv hb); clear hv hb)
  go_ret2
  exact ⟨_, rfl, HV.out.1, HV.out.2⟩

set_option maxRecDepth 100000 in
/-- no free page above the bits -/
theorem high_none {w : World} (g : Nat) {Z : Bytes} (h : PgB Z) {A : Option Addr} {c : Nat} (hc : 512 ≤ c) (hC : U8.C w A 512 Z) (h18 : wordZ Z 18 = 0) (h16 : wordZ Z 16 < 4096) :
    Calls Tryz.prog 80 #[dp g, .slice A 512 c] w fun e w' => e = .returned (.tuple #[.slice none 0 0, .int .i64 0]) ∧ ∃ m, w' = w.drewN m := by
  have HW1 := wordc h hc hC 18 18 rfl (by omega)
  rw [h18] at HW1
  replace HW1 := Aside0.mk HW1
  have HW2 := Aside0.mk (fun m => wordc (w := w.drewN m) h hc (C_drewN hC m) 16 16 rfl (by omega))
  obtain ⟨t, ht⟩ : ∃ t, t = wordZ Z 16 := ⟨_, rfl⟩
  rw [← ht] at HW2 h16
  clear h hc hC h18 ht
  go_enter Tryz.func80, Tryz.ntmps80
  go_wp2
  go_step3
  go_wp2_with fail
  refine (HW1.out).mono ?_
  rintro e w' ⟨rfl, m1, rfl⟩
  go_wp2_with fail
  refine (HW2.out _).mono ?_
  rintro e w' ⟨rfl, m2, rfl⟩
  go_wp2
  go_step3
  go_wp2
  rw [Exit.noGoto_ret]
  go_ret2
  exact ⟨rfl, _, rfl⟩

theorem C_of_row {w : World} {base : Nat} {ok : Nat → Prop} {A : Option Addr} {n c : Nat} {l : Bytes} (h : U8.R 5 w base ok (.slice A n c) l) : U8.C w A n l ∧ n ≤ c ∧ l.length = n := by
  obtain ⟨A', c', e, hl, hC⟩ := Kd.R_reads h
  injection e with e1 e2 e3
  subst e1; subst e2; subst e3
  exact ⟨hC, hl, rfl⟩

set_option maxRecDepth 100000 in
/-- page 0 and another one are written -/
theorem gwrite_any {w : World} {g : Nat} {B : PG} {M : DM} {V : Int → Bytes} {cnt : Int} {ok : Nat → Prop} (h : FAt w g B M V cnt ok) {Az : Option Addr} {cz : Nat} {Z : Bytes} (hZ : U8.C w Az 512 Z) (hAz : ∀ ad, Az = some ad → ¬ ok ad.block ∧ ad.block < w.heap.size)
    (n : Int) (h0 : 0 ≤ n) (h1 : n < 4096) {A : Option Addr} {cb : Nat} {bs : Bytes} (hC : U8.C w A 512 bs) (hA : ∀ ad, A = some ad → ¬ ok ad.block ∧ ad.block < w.heap.size) :
    Calls Tryz.prog 106 #[dp g, .slice Az 512 cz, .int .i64 n, .slice A 512 cb] w fun e w' => e = .returned (.int .i64 0) ∧ FLeft w g B M (fun y => if y = n then bs else if y = 0 then Z else V y) (max (max cnt 1) (n + 1)) ok w' := by
  have hg := h.cell
  have HW1 := Aside0.mk (f_write (cb := cz) h 0 (by omega) (by omega) hZ hAz)
  have HX := Aside0.mk (And.intro h (And.intro hC hA))
  clear h hZ hAz hC hA
  go_enter Tryz.func106, Tryz.ntmps106
  go_wp2_with fail
  refine (HW1.out).mono ?_
  rintro e w1 ⟨rfl, hL⟩
  have hg1 := hL.1.cell
  have HW2 := Aside0.mk (f_write (cb := cb) hL.1 n h0 h1 (C_fr HX.out.2.1 (fun ad e => (HX.out.2.2 ad e).1) hL.2) (fun ad e => ⟨fun hk => hk.elim (HX.out.2.2 ad e).1 (fun hk => by have := (HX.out.2.2 ad e).2; omega), Nat.lt_of_lt_of_le (HX.out.2.2 ad e).2 hL.2.size⟩))
  have HL := Aside0.mk hL
  clear hL
  go_wp2_with fail
  refine (HW2.out).mono ?_
  rintro e w2 ⟨rfl, hL2⟩
  have HL2 := Aside0.mk hL2
  clear hL2
  go_wp2
  go_ret
  exact ⟨rfl, HL.out.trans HL2.out⟩

/-- page 0 of a file of pages that has no free page above the bits -/
structure GoodZ (Z : Bytes) : Prop where
  pg : PgB Z
  first : wordZ Z 18 = 0
  top : wordZ Z 16 ≤ 3936
/-- page 0 behind a page was taken; from: the spare one, or 0 -/
def takeZ (Z : Bytes) (s : Nat) : Bytes := if s = 0 then orZ (setZ Z 16 (wordZ Z 16 + 1)) (wordZ Z 16 + 1).toNat else orZ Z s
def takeN (Z : Bytes) (s : Nat) : Int := if s = 0 then wordZ Z 16 + 1 else s
def zeros : Bytes := List.replicate 512 0
def updV (V : Int → Bytes) (n : Int) (Z bs : Bytes) : Int → Bytes := fun y => if y = n then bs else if y = 0 then Z else V y


set_option maxHeartbeats 2000000 in
set_option maxRecDepth 100000 in
theorem alloc_any {w : World} {g : Nat} {B : PG} {M : DM} {V : Int → Bytes} {cnt : Int} {ok : Nat → Prop} (h : FAt w g B M V cnt ok) (hZ : GoodZ (V 0)) (hroom : wordZ (V 0) 16 < 3936) :
    Calls Tryz.prog 77 #[dp g] w fun e w' => ∃ s : Nat, Spare (V 0) s ∧ e = .returned (.tuple #[.int .i64 (takeN (V 0) s), .int .i64 0]) ∧ FLeft w g B M (updV V (takeN (V 0) s) (takeZ (V 0) s) zeros) (max (max cnt 1) (takeN (V 0) s + 1)) ok w' := by
  have HO := Aside0.mk (gown_any h)
  have HX := Aside0.mk (And.intro h.tight (And.intro hZ hroom))
  obtain ⟨Z, hZe⟩ : ∃ Z, Z = V 0 := ⟨_, rfl⟩
  rw [← hZe] at HO HX ⊢
  have HZe := Aside0.mk hZe
  clear hZe h hZ hroom
  go_enter Tryz.func77, Tryz.ntmps77
  go_wp2_with fail
  refine (HO.out).mono ?_
  rintro e w1 ⟨v, rfl, hv, hb⟩
  obtain ⟨gz, c3, rfl, _, _, _⟩ := Kd.R_form hv (by rw [HX.out.2.1.pg.len]; omega)
  rw [HX.out.2.1.pg.len] at hv ⊢
  obtain ⟨hC, hc, hl⟩ := C_of_row hv
  obtain ⟨s, hs, hsp⟩ := spare_any HX.out.2.1.pg hc hC
  have HSP := Aside0.mk hsp
  have HS := Aside0.mk hs
  have HV := Aside0.mk (And.intro hv (And.intro hb (And.intro hC hc)))
  clear hv hb hC hc hl hsp hs
  go_wp2_with fail
  refine (HSP.out).mono ?_
  rintro e w2 ⟨rfl, hb2⟩
  have HV2 := Aside0.mk (And.intro (Kd.R_below HV.out.1 hb2) (And.intro (HV.out.2.1.trans (hb2.mono HV.out.2.1.size)) (Kd.C_below HV.out.2.2.1 hb2)))
  have HW1 := wordc HX.out.2.1.pg HV.out.2.2.2 HV2.out.2.2 18 18 rfl (by omega)
  rw [HX.out.2.1.first] at HW1
  replace HW1 := Aside0.mk HW1
  clear hb2 HSP
  go_wp2_with fail
  refine (HW1.out).mono ?_
  rintro e w' ⟨rfl, m1, rfl⟩
  have HT := wordZ_nn HX.out.2.1.pg 16
  have HR := HX.out.2.2
  obtain ⟨t, ht⟩ : ∃ t, t = wordZ Z 16 := ⟨_, rfl⟩
  rw [← ht] at HT HR
  by_cases hs0 : s = 0
  · have q0 : ((s : Int) == 0) = true := by simp [hs0]
    have HW2 := wordc (w := w2.drewN m1) HX.out.2.1.pg HV.out.2.2.2 (C_drewN HV2.out.2.2 m1) 16 16 rfl (by omega)
    rw [← ht] at HW2
    replace HW2 := Aside0.mk HW2
    have q1 : decide ((4096 : Int) ≤ t + 1) = false := by simp; omega
    have q2 : decide (t + 1 ≤ (3936 : Int)) = true := by simp; omega
    have t0 : 0 ≤ t := HT.1
    have t1 : t < 3936 := HR
    obtain ⟨n, hn⟩ : ∃ n : Nat, t + 1 = n := ⟨(t + 1).toNat, by omega⟩
    have n1 : 1 ≤ n := by omega
    have n2 : n ≤ 3936 := by omega
    have HQ := Aside0.mk (And.intro ht (And.intro hs0 hn))
    clear ht hs0 HT HR hn
    go_wp2_with fail
    refine (HW2.out).mono ?_
    rintro e w' ⟨rfl, m2, rfl⟩
    have HSet := Aside0.mk (setc (w := w) (w1 := w2.drewN (m1 + m2)) (pw_below_drewN HV2.out.2.1 _) (Kd.R_drewN HV2.out.1 _) HX.out.2.1.pg 16 16 rfl (by omega) (t + 1))
    go_wp2_with fail
    refine (HSet.out).mono ?_
    rintro e w3 ⟨rfl, hv3, hb3⟩
    have HZ1 := Aside0.mk (HX.out.2.1.pg.setZ 16 (by omega) (t + 1))
    have HV3 := Aside0.mk (And.intro hv3 hb3)
    obtain ⟨Z1, hZ1⟩ : ∃ Z1, Z1 = setZ Z 16 (t + 1) := ⟨_, rfl⟩
    rw [← hZ1] at HV3 HZ1
    have HZ1e := Aside0.mk hZ1
    clear hv3 hb3 hZ1 HSet
    have HBit := Aside0.mk (bitc' w3 (t + 1) n HQ.out.2.2 n1 (by omega))
    go_wp2_with fail
    refine (HBit.out).mono ?_
    rintro e w' ⟨rfl, m3, rfl⟩
    have hbl := bitAt_lt n1 n2
    obtain ⟨hx, hf, hput⟩ := row_cell (Kd.R_drewN HV3.out.1 m3) (bitAt n) hbl.2
    have HPut := Aside0.mk (hput (Go.bits .or .u8 (Z1.getD (bitAt n) 0) (mask n)))
    have HOr := Aside0.mk (show Z1.set (bitAt n) (Go.bits .or .u8 (Z1.getD (bitAt n) 0) (mask n)) = orZ Z1 n from rfl)
    generalize bitAt n = j at *
    generalize mask n = mk at *
    generalize Z1.getD j 0 = z at *
    have hj : j < 512 := hbl.2
    have hj' : (j : Int) < 512 := by omega
    have hj'' : (0 : Int) ≤ j := by omega
    clear hput hbl
    go_wp2_with ((with_reducible refine gate_dst (N := 75) rfl ?_); refine Kd.R_make U8 _ 5 rfl (N := 75) rfl 48 _ _ rfl 512 rfl rfl Tryz.underlying48 (.int .u8 0) 1 info5 rfl (by decide) (by omega) 0 (ok := fun k => w3.heap.size ≤ k) (okp := fun _ => False) rfl (fun _ hk => hk.elim) (by simp [World.setCell]) (by omega) (by omega) (Below.refl _ _) (Nat.le_refl _) ?_; intro v5 w5 hR5 hb5 _ _; have H5 := Aside0.mk (And.intro hR5 hb5); clear hR5 hb5)
    obtain ⟨A5, c5, rfl⟩ := Kd.R_slice H5.out.1
    rw [List.length_replicate] at H5 ⊢
    have hgz : w.heap.size ≤ gz := row_base HV3.out.1
    have hgl : gz < w3.heap.size := row_lt HV3.out.1
    have hb4 : Below w.heap.size w ((w3.drewN m3).setCell ⟨gz, j, none⟩ (.int .u8 (bits .or .u8 z mk))) := below_set (pw_below_drewN HV3.out.2 _) hgz
    have hs4 : ((w3.drewN m3).setCell ⟨gz, j, none⟩ (.int .u8 (bits .or .u8 z mk))).heap.size = w3.heap.size := by simp [World.setCell]
    have hb5 : Below w.heap.size w w5 := hb4.trans (H5.out.2.mono (by rw [hs4]; exact HV3.out.2.size))
    have hC5 := C_of_row (Kd.R_below HPut.out H5.out.2)
    have hCn := C_of_row H5.out.1
    have hA5 : ∀ ad, A5 = some ad → w3.heap.size ≤ ad.block ∧ ad.block < w5.heap.size := fun ad e => by
      subst e
      exact ⟨H5.out.1.1 ad.block (by simp [Value.ownBlock]), own_lt (Kd.own_of_R H5.out.1) ad.block (by simp [Value.ownBlock])⟩
    have hsw := HV3.out.2.size
    have hs5 : w3.heap.size ≤ w5.heap.size := by rw [← hs4]; exact H5.out.2.size
    have HG := Aside0.mk (gwrite_any (cz := c3) (cb := c5) (HX.out.1.move hb5.size (fun k hk hlt => hb5.block k hlt)) hC5.1 (fun ad e => by cases e; exact ⟨fun hk => by have := hk.2; show False; exact absurd this (Nat.not_lt.2 hgz), Nat.lt_of_lt_of_le hgl hs5⟩) (t + 1) (by omega) (by omega) hCn.1 (fun ad e => ⟨fun hk => by have := hk.2; have := (hA5 ad e).1; omega, (hA5 ad e).2⟩))
    have HB5 := Aside0.mk hb5
    clear hb4 hb5 hC5 hCn hA5 hs4 hs5 hsw hgz hgl
    go_wp2_with fail
    refine (HG.out).mono ?_
    rintro e w6 ⟨rfl, hL⟩
    have HL := Aside0.mk hL
    clear hL
    go_wp2
    go_ret2
    refine ⟨s, HS.out, ?_, ?_⟩
    · unfold takeN
      rw [if_pos HQ.out.2.1, ← HQ.out.1]
      rfl
    · have e1 : takeN Z s = t + 1 := by unfold takeN; rw [if_pos HQ.out.2.1, ← HQ.out.1]
      have e2 : takeZ Z s = Z1.set j (bits .or .u8 z mk) := by
        unfold takeZ
        rw [if_pos HQ.out.2.1, ← HQ.out.1, HOr.out, HZ1e.out, show (t + 1).toNat = n from by have := HQ.out.2.2; omega]
      rw [e1, e2]
      exact HL.out.lift HB5.out
  · have q0 : ((s : Int) == 0) = false := by simp [hs0]
    have hsm := (HS.out.pos hs0).2.1
    have q2 : decide ((s : Int) ≤ (3936 : Int)) = true := by simp; omega
    obtain ⟨n, hn⟩ : ∃ n : Nat, n = s := ⟨_, rfl⟩
    have n1 : 1 ≤ n := by omega
    have n2 : n ≤ 3936 := by omega
    have HQ := Aside0.mk (And.intro ht (And.intro hs0 hn))
    clear ht HT HR hn hsm hs0
    obtain ⟨w3, hw3⟩ : ∃ w3, w3 = w2.drewN m1 := ⟨_, rfl⟩
    rw [← hw3]
    have HV3 : Aside0 (U8.R 5 w3 w.heap.size (fun k => w.heap.size ≤ k) (.slice (some ⟨gz, 0, none⟩) 512 c3) Z ∧ Below w.heap.size w w3) := ⟨by rw [hw3]; exact ⟨Kd.R_drewN HV2.out.1 _, pw_below_drewN HV2.out.2.1 _⟩⟩
    clear hw3
    have HZ1 : Aside0 (PgB Z) := ⟨HX.out.2.1.pg⟩
    obtain ⟨Z1, hZ1⟩ : ∃ Z1, Z1 = Z := ⟨_, rfl⟩
    rw [← hZ1] at HV3 HZ1
    have HZ1e := Aside0.mk hZ1
    clear hZ1
    have HBit := Aside0.mk (bitc' w3 (s : Int) n (by rw [HQ.out.2.2]) n1 (by omega))
    go_wp2_with fail
    refine (HBit.out).mono ?_
    rintro e w' ⟨rfl, m3, rfl⟩
    have hbl := bitAt_lt n1 n2
    obtain ⟨hx, hf, hput⟩ := row_cell (Kd.R_drewN HV3.out.1 m3) (bitAt n) hbl.2
    have HPut := Aside0.mk (hput (Go.bits .or .u8 (Z1.getD (bitAt n) 0) (mask n)))
    have HOr := Aside0.mk (show Z1.set (bitAt n) (Go.bits .or .u8 (Z1.getD (bitAt n) 0) (mask n)) = orZ Z1 n from rfl)
    generalize bitAt n = j at *
    generalize mask n = mk at *
    generalize Z1.getD j 0 = z at *
    have hj : j < 512 := hbl.2
    have hj' : (j : Int) < 512 := by omega
    have hj'' : (0 : Int) ≤ j := by omega
    clear hput hbl
    go_wp2_with ((with_reducible refine gate_dst (N := 75) rfl ?_); refine Kd.R_make U8 _ 5 rfl (N := 75) rfl 48 _ _ rfl 512 rfl rfl Tryz.underlying48 (.int .u8 0) 1 info5 rfl (by decide) (by omega) 0 (ok := fun k => w3.heap.size ≤ k) (okp := fun _ => False) rfl (fun _ hk => hk.elim) (by simp [World.setCell]) (by omega) (by omega) (Below.refl _ _) (Nat.le_refl _) ?_; intro v5 w5 hR5 hb5 _ _; have H5 := Aside0.mk (And.intro hR5 hb5); clear hR5 hb5)
    obtain ⟨A5, c5, rfl⟩ := Kd.R_slice H5.out.1
    rw [List.length_replicate] at H5 ⊢
    have hgz : w.heap.size ≤ gz := row_base HV3.out.1
    have hgl : gz < w3.heap.size := row_lt HV3.out.1
    have hb4 : Below w.heap.size w ((w3.drewN m3).setCell ⟨gz, j, none⟩ (.int .u8 (bits .or .u8 z mk))) := below_set (pw_below_drewN HV3.out.2 _) hgz
    have hs4 : ((w3.drewN m3).setCell ⟨gz, j, none⟩ (.int .u8 (bits .or .u8 z mk))).heap.size = w3.heap.size := by simp [World.setCell]
    have hb5 : Below w.heap.size w w5 := hb4.trans (H5.out.2.mono (by rw [hs4]; exact HV3.out.2.size))
    have hC5 := C_of_row (Kd.R_below HPut.out H5.out.2)
    have hCn := C_of_row H5.out.1
    have hA5 : ∀ ad, A5 = some ad → w3.heap.size ≤ ad.block ∧ ad.block < w5.heap.size := fun ad e => by
      subst e
      exact ⟨H5.out.1.1 ad.block (by simp [Value.ownBlock]), own_lt (Kd.own_of_R H5.out.1) ad.block (by simp [Value.ownBlock])⟩
    have hsw := HV3.out.2.size
    have hs5 : w3.heap.size ≤ w5.heap.size := by rw [← hs4]; exact H5.out.2.size
    have HG := Aside0.mk (gwrite_any (cz := c3) (cb := c5) (HX.out.1.move hb5.size (fun k hk hlt => hb5.block k hlt)) hC5.1 (fun ad e => by cases e; exact ⟨fun hk => by have := hk.2; show False; exact absurd this (Nat.not_lt.2 hgz), Nat.lt_of_lt_of_le hgl hs5⟩) (s : Int) (by omega) (by have := HQ.out.2.2; omega) hCn.1 (fun ad e => ⟨fun hk => by have := hk.2; have := (hA5 ad e).1; omega, (hA5 ad e).2⟩))
    have HB5 := Aside0.mk hb5
    clear hb4 hb5 hC5 hCn hA5 hs4 hs5 hsw hgz hgl
    go_wp2_with fail
    refine (HG.out).mono ?_
    rintro e w6 ⟨rfl, hL⟩
    have HL := Aside0.mk hL
    clear hL
    go_wp2
    go_ret2
    refine ⟨s, HS.out, ?_, ?_⟩
    · unfold takeN
      rw [if_neg HQ.out.2.1]
      rfl
    · have e1 : takeN Z s = (s : Int) := by unfold takeN; rw [if_neg HQ.out.2.1]
      have e2 : takeZ Z s = Z1.set j (bits .or .u8 z mk) := by
        unfold takeZ
        rw [if_neg HQ.out.2.1, HOr.out, HZ1e.out, HQ.out.2.2]
      rw [e1, e2]
      exact HL.out.lift HB5.out
end Go.Proofs.YtmdpgjdepflbmaaGreat
namespace Go.Proofs.YtmdpgjdepflbmaaGreat
open Go.RowKit Go.Maps Go.Proofs.YtmdpgjdepflbmaaGreatW.PrintWords Go.Proofs.YtmdpgjdepflbmaaGreatW.PrintLast Go.Proofs.YtmdpgjdepflbmaaGreatW.PrintMore
open Go.Proofs.YtmdpgjdepflbmaaGreat.PPagerFolds
set_option linter.unusedVariables false
set_option linter.unusedSimpArgs false

/-- a page is held -/
def HeldP (Z : Bytes) (n : Int) : Prop := 1 ≤ n ∧ n ≤ wordZ Z 16 ∧ heldZ Z n.toNat = true

set_option maxRecDepth 100000 in
theorem gheld_yes {w : World} {g : Nat} {B : PG} {M : DM} {V : Int → Bytes} {cnt : Int} {ok : Nat → Prop} (h : FAt w g B M V cnt ok) (hZ : GoodZ (V 0)) (n : Int) (hn : HeldP (V 0) n) :
    Calls Tryz.prog 84 #[dp g, .int .i64 n] w fun e w' => ∃ v, e = .returned (.tuple #[v, .int .i64 0]) ∧ U8.R 5 w' w.heap.size (fun k => w.heap.size ≤ k) v (V 0) ∧ Below w.heap.size w w' := by
  have HO := Aside0.mk (gown_any h)
  obtain ⟨n1, n2, n3⟩ := hn
  have htop := hZ.top
  obtain ⟨m, rfl⟩ : ∃ m : Nat, n = m := ⟨n.toNat, by omega⟩
  rw [Int.toNat_natCast] at n3
  have HX := Aside0.mk (And.intro hZ n3)
  obtain ⟨Z, hZe⟩ : ∃ Z, Z = V 0 := ⟨_, rfl⟩
  rw [← hZe] at HO HX n2 htop ⊢
  clear hZe h hZ n3
  have m1 : 1 ≤ m := by omega
  have m2 : m ≤ 3936 := by omega
  have q0 : decide ((m : Int) < 1) = false := by simp; omega
  have q2 : decide ((4096 : Int) ≤ m) = false := by simp; omega
  have q3 : decide ((m : Int) ≤ 3936) = true := by simp; omega
  obtain ⟨t, ht⟩ : ∃ t, t = wordZ Z 16 := ⟨_, rfl⟩
  rw [← ht] at n2 htop
  have q1 : decide (t < (m : Int)) = false := by simp; omega
  have HT := Aside0.mk ht
  clear ht htop n1
  go_enter Tryz.func84, Tryz.ntmps84
  go_wp2_with fail
  refine (HO.out).mono ?_
  rintro e w1 ⟨v, rfl, hv, hb⟩
  obtain ⟨gz, c3, rfl, _, _, _⟩ := Kd.R_form hv (by rw [HX.out.1.pg.len]; omega)
  rw [HX.out.1.pg.len] at hv ⊢
  obtain ⟨hC, hc, hl⟩ := C_of_row hv
  have HW := wordc HX.out.1.pg hc hC 16 16 rfl (by omega)
  rw [← HT.out] at HW
  replace HW := Aside0.mk HW
  have HV := Aside0.mk (And.intro hv hb)
  clear hv hb hC hc hl
  go_wp2_with fail
  refine (HW.out).mono ?_
  rintro e w' ⟨rfl, a1, rfl⟩
  have HBit := Aside0.mk (bitc (w1.drewN a1) m m1 (by omega))
  go_wp2_with fail
  refine (HBit.out).mono ?_
  rintro e w' ⟨rfl, a2, rfl⟩
  have hbl := bitAt_lt m1 m2
  obtain ⟨hx, hf, hput⟩ := row_cell (Kd.R_drewN HV.out.1 (a1 + a2)) (bitAt m) hbl.2
  have hne : (Go.bits .and .u8 (Z.getD (bitAt m) 0) (mask m) == 0) = false := by
    rw [beq_eq_false_iff_ne]
    intro e
    have := (held_and HX.out.1.pg m).1 e
    rw [HX.out.2] at this
    cases this
  generalize bitAt m = j at *
  generalize mask m = mk at *
  generalize Z.getD j 0 = z at *
  have hj : j < 512 := hbl.2
  have hj' : (j : Int) < 512 := by omega
  have hj'' : (0 : Int) ≤ j := by omega
  clear hput hbl
  go_wp2
  go_ret2
  exact ⟨_, rfl, by rw [show (512 : Nat) = Z.length from HX.out.1.pg.len.symm] at HV ⊢; exact Kd.R_drewN HV.out.1 _, pw_below_drewN HV.out.2 _⟩

set_option maxRecDepth 100000 in
theorem gheld_no {w : World} {g : Nat} {B : PG} {M : DM} {V : Int → Bytes} {cnt : Int} {ok : Nat → Prop} (h : FAt w g B M V cnt ok) (hZ : GoodZ (V 0)) (n : Int) (hn : ¬ HeldP (V 0) n) :
    Calls Tryz.prog 84 #[dp g, .int .i64 n] w fun e w' => e = .returned (.tuple #[.slice none 0 0, .int .i64 1]) ∧ Below w.heap.size w w' := by
  have HO := Aside0.mk (gown_any h)
  have htop := hZ.top
  have HX := Aside0.mk hZ
  obtain ⟨Z, hZe⟩ : ∃ Z, Z = V 0 := ⟨_, rfl⟩
  rw [← hZe] at HO HX hn htop
  obtain ⟨t, ht⟩ : ∃ t, t = wordZ Z 16 := ⟨_, rfl⟩
  rw [← ht] at htop
  have HT := Aside0.mk (And.intro ht hn)
  clear hZe h hZ hn ht
  by_cases c1 : n < 1
  · have q0 : decide (n < 1) = true := by simp; omega
    clear c1
    go_enter Tryz.func84, Tryz.ntmps84
    go_wp2_with fail
    refine (HO.out).mono ?_
    rintro e w1 ⟨v, rfl, hv, hb⟩
    obtain ⟨A3, c3, rfl⟩ := Kd.R_slice hv
    have HV := Aside0.mk hb
    clear hv hb
    go_wp2
    go_ret2
    exact ⟨rfl, HV.out⟩
  · have q0 : decide (n < 1) = false := by simp; omega
    by_cases c2 : t < n
    · have q1 : decide (t < n) = true := by simp; omega
      clear c1 c2
      go_enter Tryz.func84, Tryz.ntmps84
      go_wp2_with fail
      refine (HO.out).mono ?_
      rintro e w1 ⟨v, rfl, hv, hb⟩
      obtain ⟨gz, c3, rfl, _, _, _⟩ := Kd.R_form hv (by rw [HX.out.pg.len]; omega)
      rw [HX.out.pg.len] at hv ⊢
      obtain ⟨hC, hc, hl⟩ := C_of_row hv
      have HW := wordc HX.out.pg hc hC 16 16 rfl (by omega)
      rw [← HT.out.1] at HW
      replace HW := Aside0.mk HW
      have HV := Aside0.mk hb
      clear hv hb hC hc hl
      go_wp2_with fail
      refine (HW.out).mono ?_
      rintro e w' ⟨rfl, a1, rfl⟩
      go_wp2
      go_ret2
      exact ⟨rfl, pw_below_drewN HV.out _⟩
    · have q1 : decide (t < n) = false := by simp; omega
      obtain ⟨m, rfl⟩ : ∃ m : Nat, n = m := ⟨n.toNat, by omega⟩
      have m1 : 1 ≤ m := by omega
      have m2 : m ≤ 3936 := by omega
      have q2 : decide ((4096 : Int) ≤ m) = false := by simp; omega
      have q3 : decide ((m : Int) ≤ 3936) = true := by simp; omega
      have HN : Aside0 (heldZ Z m = false) := ⟨by
        have := HT.out.2
        unfold HeldP at this
        rw [Int.toNat_natCast, ← HT.out.1] at this
        cases hh : heldZ Z m with
        | false => rfl
        | true => exact absurd ⟨by omega, by omega, hh⟩ this⟩
      clear c1 c2
      go_enter Tryz.func84, Tryz.ntmps84
      go_wp2_with fail
      refine (HO.out).mono ?_
      rintro e w1 ⟨v, rfl, hv, hb⟩
      obtain ⟨gz, c3, rfl, _, _, _⟩ := Kd.R_form hv (by rw [HX.out.pg.len]; omega)
      rw [HX.out.pg.len] at hv ⊢
      obtain ⟨hC, hc, hl⟩ := C_of_row hv
      have HW := wordc HX.out.pg hc hC 16 16 rfl (by omega)
      rw [← HT.out.1] at HW
      replace HW := Aside0.mk HW
      have HV := Aside0.mk (And.intro hv hb)
      clear hv hb hC hc hl
      go_wp2_with fail
      refine (HW.out).mono ?_
      rintro e w' ⟨rfl, a1, rfl⟩
      have HBit := Aside0.mk (bitc (w1.drewN a1) m m1 (by omega))
      go_wp2_with fail
      refine (HBit.out).mono ?_
      rintro e w' ⟨rfl, a2, rfl⟩
      have hbl := bitAt_lt m1 m2
      obtain ⟨hx, hf, hput⟩ := row_cell (Kd.R_drewN HV.out.1 (a1 + a2)) (bitAt m) hbl.2
      have hne : (Go.bits .and .u8 (Z.getD (bitAt m) 0) (mask m) == 0) = true := beq_iff_eq.2 ((held_and HX.out.pg m).2 HN.out)
      generalize bitAt m = j at *
      generalize mask m = mk at *
      generalize Z.getD j 0 = z at *
      have hj : j < 512 := hbl.2
      have hj' : (j : Int) < 512 := by omega
      have hj'' : (0 : Int) ≤ j := by omega
      clear hput hbl
      go_wp2
      go_ret2
      exact ⟨rfl, pw_below_drewN HV.out.2 _⟩

/-- Read -/
theorem gread_yes {w : World} {g : Nat} {B : PG} {M : DM} {V : Int → Bytes} {cnt : Int} {ok : Nat → Prop} (h : FAt w g B M V cnt ok) (hZ : GoodZ (V 0)) (n : Int) (hn : HeldP (V 0) n) :
    Calls Tryz.prog 42 #[dp g, .int .i64 n] w fun e w' => ∃ v, e = .returned (.tuple #[v, .int .i64 0]) ∧ U8.R 5 w' w.heap.size (fun k => w.heap.size ≤ k) v (V n) ∧ Below w.heap.size w w' := by
  have HH := Aside0.mk (gheld_yes h hZ n hn)
  have hg := h.cell
  have hlt := h.lt
  have n0 : 0 ≤ n := by have := hn.1; omega
  have n1 : n < 4096 := by have := hn.2.1; have := hZ.top; omega
  have HX := Aside0.mk h
  clear h hZ hn
  go_enter Tryz.func42, Tryz.ntmps42
  go_wp2_with fail
  refine (HH.out).mono ?_
  rintro e w1 ⟨v, rfl, hv, hb⟩
  obtain ⟨A3, c3, rfl⟩ := Kd.R_slice hv
  have hg1 := (hb.cell (p := ⟨g, 0, none⟩) hlt).trans hg
  have HR := Aside0.mk (f_read (HX.out.below hb) n n0 n1)
  have HB := Aside0.mk hb
  clear hv hb
  go_wp2_with fail
  refine (HR.out).mono ?_
  rintro e w2 ⟨v2, rfl, hv2, hb2⟩
  obtain ⟨A4, c4, rfl⟩ := Kd.R_slice hv2
  have HV := Aside0.mk (And.intro hv2 hb2)
  clear hv2 hb2
  go_wp2
  go_ret2
  exact ⟨_, rfl, Kd.R_lower (Kd.R_mono HV.out.1 (fun k hk => Nat.le_trans HB.out.size hk)) HB.out.size, HB.out.trans (HV.out.2.mono HB.out.size)⟩
theorem gread_no {w : World} {g : Nat} {B : PG} {M : DM} {V : Int → Bytes} {cnt : Int} {ok : Nat → Prop} (h : FAt w g B M V cnt ok) (hZ : GoodZ (V 0)) (n : Int) (hn : ¬ HeldP (V 0) n) :
    Calls Tryz.prog 42 #[dp g, .int .i64 n] w fun e w' => e = .returned (.tuple #[.slice none 0 0, .int .i64 1]) ∧ Below w.heap.size w w' := by
  have HH := Aside0.mk (gheld_no h hZ n hn)
  clear h hZ hn
  go_enter Tryz.func42, Tryz.ntmps42
  go_wp2_with fail
  refine (HH.out).mono ?_
  rintro e w1 ⟨rfl, hb⟩
  have HB := Aside0.mk hb
  clear hb
  go_wp2
  go_ret2
  exact ⟨rfl, HB.out⟩

/-- Write -/
theorem gwr_yes {w : World} {g : Nat} {B : PG} {M : DM} {V : Int → Bytes} {cnt : Int} {ok : Nat → Prop} (h : FAt w g B M V cnt ok) (hZ : GoodZ (V 0)) (n : Int) (hn : HeldP (V 0) n)
    {A : Option Addr} {cb : Nat} {bs : Bytes} (hC : U8.C w A 512 bs) (hA : ∀ ad, A = some ad → ¬ ok ad.block ∧ ad.block < w.heap.size) :
    Calls Tryz.prog 75 #[dp g, .int .i64 n, .slice A 512 cb] w fun e w' => e = .returned (.int .i64 0) ∧ FLeft w g B M (fun y => if y = n then bs else V y) (max cnt (n + 1)) ok w' := by
  have HH := Aside0.mk (gheld_yes h hZ n hn)
  have hg := h.cell
  have hlt := h.lt
  have n0 : 0 ≤ n := by have := hn.1; omega
  have n1 : n < 4096 := by have := hn.2.1; have := hZ.top; omega
  have HX := Aside0.mk (And.intro h.tight (And.intro hC hA))
  clear h hZ hn hC hA
  go_enter Tryz.func75, Tryz.ntmps75
  go_wp2_with fail
  refine (HH.out).mono ?_
  rintro e w1 ⟨v, rfl, hv, hb⟩
  obtain ⟨A3, c3, rfl⟩ := Kd.R_slice hv
  have hg1 := (hb.cell (p := ⟨g, 0, none⟩) hlt).trans hg
  have HR := Aside0.mk (f_write (cb := cb) (HX.out.1.move hb.size (fun k hk hl => hb.block k hl)) n n0 n1 (Kd.C_below HX.out.2.1 hb) (fun ad e => ⟨fun hk => (HX.out.2.2 ad e).1 hk.1, Nat.lt_of_lt_of_le (HX.out.2.2 ad e).2 hb.size⟩))
  have HB := Aside0.mk hb
  clear hv hb
  go_wp2_with fail
  refine (HR.out).mono ?_
  rintro e w2 ⟨rfl, hL⟩
  have HL := Aside0.mk hL
  clear hL
  go_wp2
  go_ret
  exact ⟨rfl, HL.out.lift HB.out⟩
theorem gwr_no {w : World} {g : Nat} {B : PG} {M : DM} {V : Int → Bytes} {cnt : Int} {ok : Nat → Prop} (h : FAt w g B M V cnt ok) (hZ : GoodZ (V 0)) (n : Int) (hn : ¬ HeldP (V 0) n) (A : Option Addr) (nb cb : Nat) :
    Calls Tryz.prog 75 #[dp g, .int .i64 n, .slice A nb cb] w fun e w' => e = .returned (.int .i64 1) ∧ Below w.heap.size w w' := by
  have HH := Aside0.mk (gheld_no h hZ n hn)
  clear h hZ hn
  go_enter Tryz.func75, Tryz.ntmps75
  go_wp2_with fail
  refine (HH.out).mono ?_
  rintro e w1 ⟨rfl, hb⟩
  have HB := Aside0.mk hb
  clear hb
  go_wp2
  go_ret
  exact ⟨rfl, HB.out⟩
theorem gfree_no {w : World} {g : Nat} {B : PG} {M : DM} {V : Int → Bytes} {cnt : Int} {ok : Nat → Prop} (h : FAt w g B M V cnt ok) (hZ : GoodZ (V 0)) (n : Int) (hn : ¬ HeldP (V 0) n) :
    Calls Tryz.prog 72 #[dp g, .int .i64 n] w fun e w' => e = .returned (.int .i64 1) ∧ Below w.heap.size w w' := by
  have HH := Aside0.mk (gheld_no h hZ n hn)
  clear h hZ hn
  go_enter Tryz.func72, Tryz.ntmps72
  go_wp2_with fail
  refine (HH.out).mono ?_
  rintro e w1 ⟨rfl, hb⟩
  have HB := Aside0.mk hb
  clear hb
  go_wp2
  go_ret
  exact ⟨rfl, HB.out⟩
end Go.Proofs.YtmdpgjdepflbmaaGreat
namespace Go.Proofs.YtmdpgjdepflbmaaGreat
open Go.RowKit Go.Maps Go.Proofs.YtmdpgjdepflbmaaGreatW.PrintWords Go.Proofs.YtmdpgjdepflbmaaGreatW.PrintLast Go.Proofs.YtmdpgjdepflbmaaGreatW.PrintMore
open Go.Proofs.YtmdpgjdepflbmaaGreat.PPagerFolds
set_option linter.unusedVariables false
set_option linter.unusedSimpArgs false

/-- the held pages up to one -/
def heldTo (Z : Bytes) : Nat → List Int
  | 0 => []
  | m + 1 => heldTo Z m ++ (if heldZ Z (m + 1) = true then [((m + 1 : Nat) : Int)] else [])
def heldL (Z : Bytes) : List Int := heldTo Z (wordZ Z 16).toNat
theorem heldTo_length (Z : Bytes) : ∀ m, (heldTo Z m).length ≤ m
  | 0 => by simp [heldTo]
  | m + 1 => by
    have := heldTo_length Z m
    unfold heldTo
    rw [List.length_append]
    split <;> simp <;> omega
abbrev I64 := Kd.int .i64
structure HJ (w1 : World) (Z : Bytes) (t i : Nat) (v7 : Value) (W : World) : Prop where
  row : I64.R 3 W w1.heap.size (fun k => w1.heap.size ≤ k) v7 (heldTo Z i)
  below : Below w1.heap.size w1 W

set_option maxHeartbeats 1000000 in
set_option maxRecDepth 100000 in
theorem gheldl_any {w : World} {g : Nat} {B : PG} {M : DM} {V : Int → Bytes} {cnt : Int} {ok : Nat → Prop} (h : FAt w g B M V cnt ok) (hZ : GoodZ (V 0)) :
    Calls Tryz.prog 40 #[dp g] w fun e w' => ∃ v, e = .returned (.tuple #[v, .int .i64 0]) ∧ I64.R 3 w' w.heap.size (fun k => w.heap.size ≤ k) v (heldL (V 0)) ∧ Below w.heap.size w w' := by
  have HO := Aside0.mk (gown_any h)
  have HX := Aside0.mk hZ
  have htop := hZ.top
  have htn := (wordZ_nn hZ.pg 16).1
  obtain ⟨Z, hZe⟩ : ∃ Z, Z = V 0 := ⟨_, rfl⟩
  rw [← hZe] at HO HX htop htn ⊢
  obtain ⟨t, ht⟩ : ∃ t : Nat, wordZ Z 16 = t := ⟨(wordZ Z 16).toNat, by omega⟩
  have ht2 : t ≤ 3936 := by omega
  have HT := Aside0.mk (And.intro ht htop)
  clear hZe h hZ ht htop htn
  go_enter Tryz.func40, Tryz.ntmps40
  go_wp2_with fail
  refine (HO.out).mono ?_
  rintro e w1 ⟨v, rfl, hv, hb⟩
  obtain ⟨gz, c3, rfl, _, _, _⟩ := Kd.R_form hv (by rw [HX.out.pg.len]; omega)
  rw [HX.out.pg.len] at hv ⊢
  obtain ⟨hC, hc, hl⟩ := C_of_row hv
  have HH := Aside0.mk (high_none g HX.out.pg hc hC HX.out.first (by have := HX.out.top; omega))
  have HV := Aside0.mk (And.intro hv (And.intro hb (And.intro hC hc)))
  have hgl := row_lt hv
  clear hv hb hC hc hl
  go_wp2_with fail
  refine (HH.out).mono ?_
  rintro e w' ⟨rfl, a0, rfl⟩
  go_wp2
  go_loopg [7, 8] t (fun kq v7 v8 w' => ∃ x : Int, v8 = .int .i64 x ∧ Aside0 (∃ i : Nat, x = (i : Int) + 1 ∧ i + kq = t ∧ HJ w1 Z t i v7 w'))
  case atStart => exact ⟨1, rfl, ⟨0, rfl, by omega, Kd.R_nil _ _ _ _ _, pw_below_drewN (Below.refl _ _) _⟩⟩
  case round =>
    obtain ⟨x, rfl, HI⟩ := hrel
    have HW : Aside0 (Calls Tryz.prog 81 #[.slice (some ⟨gz, 0, none⟩) 512 c3, .int .i64 16] wr fun e w' => e = .returned (.int .i64 t) ∧ ∃ m, w' = wr.drewN m) := ⟨by
      obtain ⟨i, _, _, hj⟩ := HI.out
      have := wordc HX.out.pg HV.out.2.2.2 (Kd.C_below HV.out.2.2.1 hj.below) 16 16 rfl (by omega)
      rw [HT.out.1] at this
      exact this⟩
    cases gk with
    | zero =>
      have q0 : decide (x ≤ (t : Int)) = false := by obtain ⟨i, h1, h2, _⟩ := HI.out; simp; omega
      go_wp2_with (go_at_call 81; refine (HW.out).mono ?_; rintro e w' ⟨rfl, m, rfl⟩)
      go_ret2
      obtain ⟨i, h1, h2, hj⟩ := HI.out
      have e1 : heldL Z = heldTo Z i := by unfold heldL; rw [HT.out.1]; congr 1; omega
      rw [e1]
      exact ⟨_, rfl, Kd.R_drewN (Kd.R_lower (Kd.R_mono hj.row (fun k hk => Nat.le_trans HV.out.2.1.size hk)) HV.out.2.1.size) _, pw_below_drewN (HV.out.2.1.trans (hj.below.mono HV.out.2.1.size)) _⟩
    | succ k1 =>
      have q0 : decide (x ≤ (t : Int)) = true := by obtain ⟨i, h1, h2, _⟩ := HI.out; simp; omega
      obtain ⟨i, hxi, hik, hj⟩ := HI.out
      have x1 : 1 ≤ x := by omega
      have x2 : x ≤ 3936 := by omega
      have q1 : decide (x ≤ (3936 : Int)) = true := by simp; omega
      have HBit := Aside0.mk (fun a => bitc' (wr.drewN a) x (i + 1) (by omega) (by omega) (by omega))
      have HJ' := Aside0.mk (And.intro hxi (And.intro hik hj))
      have hbl := bitAt_lt (n := i + 1) (by omega) (by omega)
      obtain ⟨hx, hf, hput⟩ := row_cell (Kd.R_below HV.out.1 hj.below) (bitAt (i + 1)) hbl.2
      clear hf hput hxi hik hj
      by_cases hh : heldZ Z (i + 1) = true
      · have hne : (Go.bits .and .u8 (Z.getD (bitAt (i + 1)) 0) (mask (i + 1)) == 0) = false := by
          rw [beq_eq_false_iff_ne]
          intro e
          have := (held_and HX.out.pg (i + 1)).1 e
          rw [hh] at this
          cases this
        have HHh := Aside0.mk hh
        clear hh
        generalize bitAt (i + 1) = j at *
        generalize mask (i + 1) = mk at *
        generalize Z.getD j 0 = z at *
        have hj : j < 512 := hbl.2
        have hj' : (j : Int) < 512 := by omega
        have hj'' : (0 : Int) ≤ j := by omega
        clear hbl
        go_wp2_with (first
          | (go_at_call 81; refine (HW.out).mono ?_; rintro e w' ⟨rfl, a1, rfl⟩)
          | (go_at_call 82; refine (HBit.out _).mono ?_; rintro e w' ⟨rfl, a2, rfl⟩)
          | ((with_reducible refine gate_builtin (b := .append) (xs := #[.tmp 51, .tmp 53]) rfl ?_); at_builtin; refine Kd.R_append I64 (w0 := w1) w1.heap.size rfl (.tmp 51) (.tmp 53) 60 3 (.int .i64 0) 8 rfl Tryz.underlying60 PPagesModel.info3 rfl (by decide) (by omega) u7 (heldTo Z i) x [.int .i64 x] (fun k => w1.heap.size ≤ k) (fun _ => False) rfl rfl ?aP (fun _ hk => hk.elim) ?aF ?aO ?aB ?aS ?aL ?_; (case aP => exact rfl); (case aF => exact (fun k hk => Nat.le_trans HJ'.out.2.2.below.size hk)); (case aO => exact Kd.R_drewN HJ'.out.2.2.row _); (case aB => exact pw_below_drewN HJ'.out.2.2.below _); (case aS => exact HJ'.out.2.2.below.size); (case aL => have := heldTo_length Z i; have := HJ'.out.2.1; omega); intro v1 w7 ho hb hg hat; have HA := Aside0.mk (And.intro ho hb); clear ho hb hg hat))
        go_roundg k1
        case measure => obtain ⟨_, h, _⟩ := HJ'.out; omega
        case rel =>
          obtain ⟨h1, h2, hj⟩ := HJ'.out
          refine ⟨x + 1, rfl, ⟨i + 1, by omega, by omega, ?_, HA.out.2⟩⟩
          have e1 : heldTo Z (i + 1) = heldTo Z i ++ [x] := by
            show heldTo Z i ++ (if heldZ Z (i + 1) = true then _ else []) = _
            rw [if_pos HHh.out, h1]; rfl
          rw [e1]
          exact HA.out.1
      · have hne : (Go.bits .and .u8 (Z.getD (bitAt (i + 1)) 0) (mask (i + 1)) == 0) = true := beq_iff_eq.2 ((held_and HX.out.pg (i + 1)).2 (by simpa using hh))
        have HHh := Aside0.mk hh
        clear hh
        generalize bitAt (i + 1) = j at *
        generalize mask (i + 1) = mk at *
        generalize Z.getD j 0 = z at *
        have hj : j < 512 := hbl.2
        have hj' : (j : Int) < 512 := by omega
        have hj'' : (0 : Int) ≤ j := by omega
        clear hbl
        go_wp2_with (first
          | (go_at_call 81; refine (HW.out).mono ?_; rintro e w' ⟨rfl, a1, rfl⟩)
          | (go_at_call 82; refine (HBit.out _).mono ?_; rintro e w' ⟨rfl, a2, rfl⟩))
        go_roundg k1
        case measure => obtain ⟨_, h, _⟩ := HJ'.out; omega
        case rel =>
          obtain ⟨h1, h2, hj⟩ := HJ'.out
          refine ⟨x + 1, rfl, ⟨i + 1, by omega, by omega, ?_, pw_below_drewN hj.below _⟩⟩
          have e1 : heldTo Z (i + 1) = heldTo Z i := by
            show heldTo Z i ++ (if heldZ Z (i + 1) = true then _ else []) = _
            rw [if_neg HHh.out, List.append_nil]
          rw [e1]
          exact Kd.R_drewN hj.row _

set_option maxHeartbeats 1000000 in
set_option maxRecDepth 100000 in
theorem gfree_yes {w : World} {g : Nat} {B : PG} {M : DM} {V : Int → Bytes} {cnt : Int} {ok : Nat → Prop} (h : FAt w g B M V cnt ok) (hZ : GoodZ (V 0)) (n : Nat) (hn : HeldP (V 0) n) :
    Calls Tryz.prog 72 #[dp g, .int .i64 n] w fun e w' => e = .returned (.int .i64 0) ∧ FLeft w g B M (updV V n (clrZ (V 0) n) zeros) (max (max cnt 1) (n + 1)) ok w' := by
  have HH := Aside0.mk (gheld_yes h hZ n hn)
  have n1 : 1 ≤ n := by have := hn.1; omega
  have n2 : n ≤ 3936 := by have := hn.2.1; have := hZ.top; omega
  have HX := Aside0.mk (And.intro h.tight hZ)
  obtain ⟨Z, hZe⟩ : ∃ Z, Z = V 0 := ⟨_, rfl⟩
  rw [← hZe] at HH HX ⊢
  clear h hZ hn hZe
  have q1 : decide ((n : Int) ≤ (3936 : Int)) = true := by simp; omega
  go_enter Tryz.func72, Tryz.ntmps72
  go_wp2_with fail
  refine (HH.out).mono ?_
  rintro e w1 ⟨v, rfl, hv, hb⟩
  obtain ⟨gz, c3, rfl, _, _, _⟩ := Kd.R_form hv (by rw [HX.out.2.pg.len]; omega)
  rw [HX.out.2.pg.len] at hv ⊢
  have HV := Aside0.mk (And.intro hv hb)
  have HBit := Aside0.mk (fun W => bitc W n n1 (by omega))
  clear hv hb
  go_wp2_with (first
    | ((with_reducible refine gate_dst (N := 19) rfl ?_); refine Kd.R_make U8 _ 5 rfl (N := 19) rfl 48 _ _ rfl 512 rfl rfl Tryz.underlying48 (.int .u8 0) 1 info5 rfl (by decide) (by omega) 0 (ok := fun k => w1.heap.size ≤ k) (okp := fun _ => False) rfl (fun _ hk => hk.elim) (Nat.le_refl _) (by omega) (by omega) (Below.refl _ _) (Nat.le_refl _) ?_; intro v5 w5 hR5 hb5 _ _; have H5 := Aside0.mk (And.intro hR5 hb5); clear hR5 hb5)
    | (go_at_call 82; refine (HBit.out _).mono ?_; rintro e w' ⟨rfl, a2, rfl⟩
       have hbl := bitAt_lt n1 n2
       obtain ⟨hx, hf, hput⟩ := row_cell (Kd.R_drewN (Kd.R_below HV.out.1 H5.out.2) a2) (bitAt n) hbl.2
       have HPut := Aside0.mk (hput (Go.bits .andNot .u8 (Z.getD (bitAt n) 0) (mask n)))
       have HOr := Aside0.mk (show Z.set (bitAt n) (Go.bits .andNot .u8 (Z.getD (bitAt n) 0) (mask n)) = clrZ Z n from rfl)
       generalize bitAt n = j at *
       generalize mask n = mk at *
       generalize Z.getD j 0 = z at *
       have hj : j < 512 := hbl.2
       have hj' : (j : Int) < 512 := by omega
       have hj'' : (0 : Int) ≤ j := by omega
       clear hput hbl))
  obtain ⟨A5, c5, rfl⟩ := Kd.R_slice H5.out.1
  rw [List.length_replicate] at H5 ⊢
  have hgz : w.heap.size ≤ gz := row_base HV.out.1
  have hgl : gz < w1.heap.size := row_lt HV.out.1
  have hb5 : Below w.heap.size w w5 := HV.out.2.trans (H5.out.2.mono HV.out.2.size)
  have hb6 : Below w.heap.size w ((w5.drewN a2).setCell ⟨gz, j, none⟩ (.int .u8 (bits .andNot .u8 z mk))) := below_set (pw_below_drewN hb5 _) hgz
  have hs6 : ((w5.drewN a2).setCell ⟨gz, j, none⟩ (.int .u8 (bits .andNot .u8 z mk))).heap.size = w5.heap.size := by simp [World.setCell]
  have hC6 := C_of_row HPut.out
  have hA5 : ∀ ad, A5 = some ad → w1.heap.size ≤ ad.block ∧ ad.block < w5.heap.size := fun ad e => by
    subst e
    exact ⟨H5.out.1.1 ad.block (by simp [Value.ownBlock]), own_lt (Kd.own_of_R H5.out.1) ad.block (by simp [Value.ownBlock])⟩
  have hR6 : U8.R 5 ((w5.drewN a2).setCell ⟨gz, j, none⟩ (.int .u8 (bits .andNot .u8 z mk))) w1.heap.size (fun k => w1.heap.size ≤ k) (.slice A5 512 c5) (List.replicate (Int.toNat 512) 0) := by
    refine Kd.R_step (Kd.R_drewN H5.out.1 a2) (fun k hk hl => ?_)
    exact Below.heap_setCell _ _ _ _ (by have : w1.heap.size ≤ k := hk; show k ≠ gz; omega)
  have hCn := C_of_row hR6
  have hsw := HV.out.2.size
  have hs5 : w1.heap.size ≤ w5.heap.size := H5.out.2.size
  have HG := Aside0.mk (gwrite_any (cz := c3) (cb := c5) (HX.out.1.move hb6.size (fun k hk hlt => hb6.block k hlt)) hC6.1 (fun ad e => by cases e; exact ⟨fun hk => by have := hk.2; show False; exact absurd this (Nat.not_lt.2 hgz), by rw [hs6]; exact Nat.lt_of_lt_of_le hgl hs5⟩) (n : Int) (by omega) (by omega) hCn.1 (fun ad e => ⟨fun hk => by have := hk.2; have := (hA5 ad e).1; omega, by rw [hs6]; exact (hA5 ad e).2⟩))
  have HB6 := Aside0.mk hb6
  clear hb5 hb6 hC6 hCn hA5 hs6 hs5 hsw hgz hgl hR6
  refine (HG.out).mono ?_
  rintro e w6 ⟨rfl, hL⟩
  have HL := Aside0.mk hL
  clear hL
  go_wp2
  go_ret
  rw [← HOr.out]
  exact ⟨rfl, HL.out.lift HB6.out⟩

theorem isroot_any (i : Int) (w : World) : Calls Tryz.prog 85 #[.int .i64 i] w fun e w' => e = .returned (.bool (decide (0 ≤ i ∧ i < 8))) ∧ w = w' := by
  by_cases h0 : 0 ≤ i <;> by_cases h1 : i < 8
  all_goals
    go_enter Tryz.func85, Tryz.ntmps85
    go_wp2
    go_ret
    exact ⟨by simp [h0, h1], rfl⟩
set_option maxRecDepth 100000 in
theorem groot_yes {w : World} {g : Nat} {B : PG} {M : DM} {V : Int → Bytes} {cnt : Int} {ok : Nat → Prop} (h : FAt w g B M V cnt ok) (hZ : GoodZ (V 0)) (i : Int) (h0 : 0 ≤ i) (h1 : i < 8) :
    Calls Tryz.prog 46 #[dp g, .int .i64 i] w fun e w' => e = .returned (.tuple #[.int .i64 (wordZ (V 0) (2 * i.toNat)), .int .i64 0]) ∧ Below w.heap.size w w' := by
  have HI := isroot_any i
  rw [decide_eq_true ⟨h0, h1⟩] at HI
  replace HI := Aside0.mk HI
  have HO := Aside0.mk (gown_any h)
  have HX := Aside0.mk hZ
  obtain ⟨Z, hZe⟩ : ∃ Z, Z = V 0 := ⟨_, rfl⟩
  rw [← hZe] at HO HX ⊢
  clear h hZ hZe
  go_enter Tryz.func46, Tryz.ntmps46
  go_wp2_with (first
    | (go_at_call 85; refine (HI.out _).mono ?_; rintro e w' ⟨rfl, rfl⟩)
    | (go_at_call 79; refine (HO.out).mono ?_; rintro e w1 ⟨v, rfl, hv, hb⟩
       obtain ⟨gz, c3, rfl, _, _, _⟩ := Kd.R_form hv (by rw [HX.out.pg.len]; omega)
       rw [HX.out.pg.len] at hv ⊢
       obtain ⟨hC, hc, hl⟩ := C_of_row hv
       have HW := Aside0.mk (wordc HX.out.pg hc hC (2 * i) (2 * i.toNat) (by omega) (by omega))
       have HV := Aside0.mk hb
       clear hv hb hC hc hl)
    | (go_at_call 81; refine (HW.out).mono ?_; rintro e w' ⟨rfl, m, rfl⟩))
  go_ret2
  exact ⟨rfl, pw_below_drewN HV.out _⟩
theorem groot_no {w : World} (g : Nat) (i : Int) (h : ¬ (0 ≤ i ∧ i < 8)) :
    Calls Tryz.prog 46 #[dp g, .int .i64 i] w fun e w' => e = .returned (.tuple #[.int .i64 0, .int .i64 1]) ∧ w = w' := by
  have HI := isroot_any i
  rw [decide_eq_false h] at HI
  replace HI := Aside0.mk HI
  clear h
  go_enter Tryz.func46, Tryz.ntmps46
  go_wp2_with (go_at_call 85; refine (HI.out _).mono ?_; rintro e w' ⟨rfl, rfl⟩)
  go_ret2
  exact ⟨rfl, rfl⟩
theorem gsetroot_no {w : World} (g : Nat) (i n : Int) (h : ¬ (0 ≤ i ∧ i < 8 ∧ 0 ≤ n ∧ n < 4096)) :
    Calls Tryz.prog 76 #[dp g, .int .i64 i, .int .i64 n] w fun e w' => e = .returned (.int .i64 1) ∧ w = w' := by
  by_cases hi : 0 ≤ i ∧ i < 8
  · have HI := isroot_any i
    rw [decide_eq_true hi] at HI
    replace HI := Aside0.mk HI
    by_cases c1 : n < 0
    · have q0 : decide (n < 0) = true := by simp; omega
      clear h hi c1
      go_enter Tryz.func76, Tryz.ntmps76
      go_wp2_with (go_at_call 85; refine (HI.out _).mono ?_; rintro e w' ⟨rfl, rfl⟩)
      go_ret
      exact ⟨rfl, rfl⟩
    · have q0 : decide (n < 0) = false := by simp; omega
      have q1 : decide ((4096 : Int) ≤ n) = true := by simp; omega
      clear h hi c1
      go_enter Tryz.func76, Tryz.ntmps76
      go_wp2_with (go_at_call 85; refine (HI.out _).mono ?_; rintro e w' ⟨rfl, rfl⟩)
      go_ret
      exact ⟨rfl, rfl⟩
  · have HI := isroot_any i
    rw [decide_eq_false hi] at HI
    replace HI := Aside0.mk HI
    clear h hi
    go_enter Tryz.func76, Tryz.ntmps76
    go_wp2_with (go_at_call 85; refine (HI.out _).mono ?_; rintro e w' ⟨rfl, rfl⟩)
    go_ret
    exact ⟨rfl, rfl⟩
set_option maxRecDepth 100000 in
theorem gsetroot_yes {w : World} {g : Nat} {B : PG} {M : DM} {V : Int → Bytes} {cnt : Int} {ok : Nat → Prop} (h : FAt w g B M V cnt ok) (hZ : GoodZ (V 0)) (i n : Int) (h0 : 0 ≤ i) (h1 : i < 8) (n0 : 0 ≤ n) (n1 : n < 4096) :
    Calls Tryz.prog 76 #[dp g, .int .i64 i, .int .i64 n] w fun e w' => e = .returned (.int .i64 0) ∧ FLeft w g B M (fun y => if y = 0 then setZ (V 0) (2 * i.toNat) n else V y) (max cnt 1) ok w' := by
  have HI := isroot_any i
  rw [decide_eq_true ⟨h0, h1⟩] at HI
  replace HI := Aside0.mk HI
  have HO := Aside0.mk (gown_any h)
  have hg := h.cell
  have hlt := h.lt
  have HX := Aside0.mk (And.intro h.tight hZ)
  obtain ⟨Z, hZe⟩ : ∃ Z, Z = V 0 := ⟨_, rfl⟩
  rw [← hZe] at HO HX ⊢
  have q0 : decide (n < 0) = false := by simp; omega
  have q1 : decide ((4096 : Int) ≤ n) = false := by simp; omega
  clear h hZ hZe
  go_enter Tryz.func76, Tryz.ntmps76
  go_wp2_with (first
    | (go_at_call 85; refine (HI.out _).mono ?_; rintro e w' ⟨rfl, rfl⟩)
    | (go_at_call 79; refine (HO.out).mono ?_; rintro e w1 ⟨v, rfl, hv, hb⟩
       obtain ⟨gz, c3, rfl, _, _, _⟩ := Kd.R_form hv (by rw [HX.out.2.pg.len]; omega)
       rw [HX.out.2.pg.len] at hv ⊢
       have HS := Aside0.mk (setc hb hv HX.out.2.pg (2 * i) (2 * i.toNat) (by omega) (by omega) n)
       have HB1 := Aside0.mk (And.intro hv hb)
       clear hv hb)
    | (go_at_call 105; refine (HS.out).mono ?_; rintro e w2 ⟨rfl, hv2, hb2⟩
       have hg2 := (hb2.cell (p := ⟨g, 0, none⟩) hlt).trans hg
       have hC2 := C_of_row hv2
       have HW := Aside0.mk (f_write (cb := c3) (HX.out.1.move hb2.size (fun k hk hl => hb2.block k hl)) 0 (by omega) (by omega) hC2.1 (fun ad e => by cases e; exact ⟨fun hk => absurd hk.2 (Nat.not_lt.2 (row_base hv2)), row_lt hv2⟩))
       have HB2 := Aside0.mk hb2
       clear hv2 hb2 hC2)
    | (go_at_call 20; refine (HW.out).mono ?_; rintro e w3 ⟨rfl, hL⟩; have HL := Aside0.mk hL; clear hL))
  go_ret
  exact ⟨rfl, HL.out.lift HB2.out⟩
end Go.Proofs.YtmdpgjdepflbmaaGreat
namespace Go.Proofs.YtmdpgjdepflbmaaGreat
open Go.RowKit Go.Proofs.YtmdpgjdepflbmaaGreatW.PrintWords Go.Proofs.YtmdpgjdepflbmaaGreatW.PrintLast Go.Proofs.YtmdpgjdepflbmaaGreatW.PrintMore
open Go.Proofs.YtmdpgjdepflbmaaGreat.PPagerFolds
set_option linter.unusedVariables false

section
variable {Z : Bytes} {s : Nat}
theorem word_orZ (h : PgB Z) {n : Nat} (h1 : 1 ≤ n) (h2 : n ≤ 3936) {a : Nat} (ha : a + 1 < 20) : wordZ (orZ Z n) a = wordZ Z a := by
  unfold orZ
  exact word_set_ne h _ _ (bitAt_lt h1 h2).2 (by have := (bitAt_lt h1 h2).1; omega) _
theorem word_clrZ (h : PgB Z) {n : Nat} (h1 : 1 ≤ n) (h2 : n ≤ 3936) {a : Nat} (ha : a + 1 < 20) : wordZ (clrZ Z n) a = wordZ Z a := by
  unfold clrZ
  exact word_set_ne h _ _ (bitAt_lt h1 h2).2 (by have := (bitAt_lt h1 h2).1; omega) _
theorem take_range (hZ : GoodZ Z) (hs : Spare Z s) (hroom : wordZ Z 16 < 3936) : 1 ≤ takeN Z s ∧ takeN Z s ≤ 3936 ∧ takeN Z s ≤ wordZ Z 16 + 1 := by
  have h0 := (wordZ_nn hZ.pg 16).1
  unfold takeN
  by_cases e : s = 0
  · rw [if_pos e]; omega
  · rw [if_neg e]
    have := hs.pos e
    omega
theorem take_good (hZ : GoodZ Z) (hs : Spare Z s) (hroom : wordZ Z 16 < 3936) : GoodZ (takeZ Z s) ∧ wordZ (takeZ Z s) 16 = (if s = 0 then wordZ Z 16 + 1 else wordZ Z 16) ∧ (∀ a, a + 1 < 16 → wordZ (takeZ Z s) a = wordZ Z a) ∧
    ∀ n : Nat, 1 ≤ n → heldZ (takeZ Z s) n = (decide ((n : Int) = takeN Z s) || heldZ Z n) := by
  have h0 := (wordZ_nn hZ.pg 16).1
  have htop := hZ.top
  unfold takeZ takeN
  by_cases e : s = 0
  · simp only [if_pos e]
    obtain ⟨m, hm⟩ : ∃ m : Nat, wordZ Z 16 + 1 = m := ⟨(wordZ Z 16 + 1).toNat, by omega⟩
    rw [hm, Int.toNat_natCast]
    have hp := hZ.pg.setZ 16 (by omega) (m : Int)
    have e16 : wordZ (orZ (setZ Z 16 m) m) 16 = m := by
      rw [word_orZ hp (by omega) (by omega) (by omega), word_setZ hZ.pg 16 (by omega) (by omega) (by omega)]
    refine ⟨⟨hp.orZ (by omega) (by omega), ?_, by rw [e16]; omega⟩, e16, fun a ha => ?_, fun n hn => ?_⟩
    · rw [word_orZ hp (by omega) (by omega) (by omega), word_setZ_ne hZ.pg 16 18 (by omega) (by omega), hZ.first]
    · rw [word_orZ hp (by omega) (by omega) (by omega), word_setZ_ne hZ.pg 16 a (by omega) (by omega)]
    · rw [held_orZ hp (by omega) (by omega) hn, held_setZ hZ.pg (by omega)]
      congr 1
      exact decide_eq_decide.2 ⟨fun h => by omega, fun h => by omega⟩
  · simp only [if_neg e]
    have := hs.pos e
    refine ⟨⟨hZ.pg.orZ (by omega) (by omega), by rw [word_orZ hZ.pg (by omega) (by omega) (by omega), hZ.first], by rw [word_orZ hZ.pg (by omega) (by omega) (by omega)]; exact htop⟩, word_orZ hZ.pg (by omega) (by omega) (by omega), fun a ha => word_orZ hZ.pg (by omega) (by omega) (by omega), fun n hn => ?_⟩
    rw [held_orZ hZ.pg (by omega) (by omega) hn]
    congr 1
    exact decide_eq_decide.2 ⟨fun h => by omega, fun h => by omega⟩
/-- behind Alloc that page is held, which was not -/
theorem take_held (hZ : GoodZ Z) (hs : Spare Z s) (hroom : wordZ Z 16 < 3936) (m : Int) : HeldP (takeZ Z s) m ↔ m = takeN Z s ∨ HeldP Z m := by
  obtain ⟨hg, ht, _, hh⟩ := take_good hZ hs hroom
  have hr := take_range hZ hs hroom
  have h0 := (wordZ_nn hZ.pg 16).1
  unfold HeldP
  rw [ht]
  constructor
  · rintro ⟨h1, h2, h3⟩
    rw [hh m.toNat (by omega)] at h3
    by_cases e : m = takeN Z s
    · exact .inl e
    · right
      rw [decide_eq_false (by omega), Bool.false_or] at h3
      refine ⟨h1, ?_, h3⟩
      by_cases e0 : s = 0
      · rw [if_pos e0] at h2
        have : takeN Z s = wordZ Z 16 + 1 := by unfold takeN; rw [if_pos e0]
        omega
      · rw [if_neg e0] at h2; exact h2
  · rintro (rfl | ⟨h1, h2, h3⟩)
    · refine ⟨hr.1, ?_, ?_⟩
      · unfold takeN
        split
        · omega
        · rename_i e; exact (hs.pos e).1
      · rw [hh _ (by omega), decide_eq_true (by omega)]; rfl
    · refine ⟨h1, by split <;> omega, ?_⟩
      rw [hh _ (by omega), h3, Bool.or_true]
theorem take_fresh (hZ : GoodZ Z) (hs : Spare Z s) (hroom : wordZ Z 16 < 3936) : ¬ HeldP Z (takeN Z s) := by
  unfold HeldP takeN
  rintro ⟨h1, h2, h3⟩
  split at h1
  · rename_i e; rw [if_pos e] at h2; omega
  · rename_i e
    have := (hs.pos e).2.2
    rw [if_neg e, Int.toNat_natCast, this] at h3
    cases h3
/-- no page below is spare: all up to the top are held when a new one comes -/
theorem take_new (hZ : GoodZ Z) (hs : Spare Z s) (e : s = 0) (m : Int) (h1 : 1 ≤ m) (h2 : m ≤ wordZ Z 16) : HeldP Z m := by
  have htop := hZ.top
  refine ⟨h1, h2, ?_⟩
  exact hs.zero e m.toNat (by omega) (by omega) (by omega)
theorem clr_good (hZ : GoodZ Z) {n : Nat} (h1 : 1 ≤ n) (h2 : n ≤ 3936) : GoodZ (clrZ Z n) ∧ wordZ (clrZ Z n) 16 = wordZ Z 16 ∧ (∀ a, a + 1 < 16 → wordZ (clrZ Z n) a = wordZ Z a) ∧ ∀ m : Int, HeldP (clrZ Z n) m ↔ m ≠ n ∧ HeldP Z m := by
  have e16 := word_clrZ hZ.pg h1 h2 (a := 16) (by omega)
  refine ⟨⟨hZ.pg.clrZ h1 h2, by rw [word_clrZ hZ.pg h1 h2 (by omega), hZ.first], by rw [e16]; exact hZ.top⟩, e16, fun a ha => word_clrZ hZ.pg h1 h2 (by omega), fun m => ?_⟩
  unfold HeldP
  rw [e16]
  constructor
  · rintro ⟨a, b, c⟩
    rw [held_clrZ hZ.pg h1 h2 (by omega)] at c
    simp only [Bool.and_eq_true, Bool.not_eq_true', decide_eq_false_iff_not] at c
    exact ⟨by omega, a, b, c.2⟩
  · rintro ⟨d, a, b, c⟩
    refine ⟨a, b, ?_⟩
    rw [held_clrZ hZ.pg h1 h2 (by omega), c, Bool.and_true]
    simp
    omega
theorem root_good (hZ : GoodZ Z) {i : Nat} (hi : i < 8) {v : Int} (h0 : 0 ≤ v) (h1 : v < 4096) : GoodZ (setZ Z (2 * i) v) ∧ wordZ (setZ Z (2 * i) v) 16 = wordZ Z 16 ∧ (∀ j, j < 8 → wordZ (setZ Z (2 * i) v) (2 * j) = if j = i then v else wordZ Z (2 * j)) ∧ ∀ m : Int, HeldP (setZ Z (2 * i) v) m ↔ HeldP Z m := by
  have e16 : wordZ (setZ Z (2 * i) v) 16 = wordZ Z 16 := word_setZ_ne hZ.pg _ _ (by omega) (by omega) _
  refine ⟨⟨hZ.pg.setZ _ (by omega) _, by rw [word_setZ_ne hZ.pg _ _ (by omega) (by omega), hZ.first], by rw [e16]; exact hZ.top⟩, e16, fun j hj => ?_, fun m => ?_⟩
  · by_cases e : j = i
    · subst e; rw [if_pos rfl, word_setZ hZ.pg _ (by omega) h0 (by omega)]
    · rw [if_neg e, word_setZ_ne hZ.pg _ _ (by omega) (by omega)]
  · unfold HeldP
    rw [e16, held_setZ hZ.pg (by omega)]
end
theorem GoodZ.zero : GoodZ zeros := ⟨PgB.zero, zero_word 18, by rw [zeros, zero_word]; omega⟩
theorem zero_top : wordZ zeros 16 = 0 := zero_word 16
theorem zero_none (m : Int) : ¬ HeldP zeros m := fun h => by
  have := h.2.2
  rw [zeros, held_zero] at this
  cases this

/-! ### the list of the held pages -/
theorem mem_heldTo (Z : Bytes) (x : Int) : ∀ m : Nat, x ∈ heldTo Z m ↔ 1 ≤ x ∧ x ≤ m ∧ heldZ Z x.toNat = true
  | 0 => by simp [heldTo]; omega
  | m + 1 => by
    unfold heldTo
    rw [List.mem_append, mem_heldTo Z x m]
    by_cases e : x = ((m + 1 : Nat) : Int)
    · subst e
      rw [Int.toNat_natCast]
      constructor
      · rintro (h | h)
        · omega
        · by_cases hh : heldZ Z (m + 1) = true
          · exact ⟨by omega, by omega, hh⟩
          · rw [if_neg hh] at h; cases h
      · rintro ⟨_, _, h⟩
        rw [if_pos h]; simp
    · constructor
      · rintro (h | h)
        · exact ⟨h.1, by omega, h.2.2⟩
        · split at h
          · exact absurd (by simpa using h) e
          · cases h
      · rintro ⟨h1, h2, h3⟩
        exact .inl ⟨h1, by omega, h3⟩
theorem heldTo_sorted (Z : Bytes) : ∀ m : Nat, (heldTo Z m).Pairwise (· < ·)
  | 0 => List.Pairwise.nil
  | m + 1 => by
    unfold heldTo
    rw [List.pairwise_append]
    refine ⟨heldTo_sorted Z m, by split <;> simp, fun a ha b hb => ?_⟩
    have h1 := (mem_heldTo Z a m).1 ha
    split at hb
    · have : b = ((m + 1 : Nat) : Int) := by simpa using hb
      omega
    · cases hb
theorem mem_heldL {Z : Bytes} (h : PgB Z) (x : Int) : x ∈ heldL Z ↔ HeldP Z x := by
  have h0 := (wordZ_nn h 16).1
  unfold heldL HeldP
  rw [mem_heldTo]
  constructor
  · rintro ⟨a, b, c⟩; exact ⟨a, by omega, c⟩
  · rintro ⟨a, b, c⟩; exact ⟨a, by omega, c⟩
theorem heldL_sorted (Z : Bytes) : (heldL Z).Pairwise (· < ·) := heldTo_sorted Z _
/-- two rising lists of the same numbers are one -/
theorem rising_eq : ∀ {L L' : List Int}, L.Pairwise (· < ·) → L'.Pairwise (· < ·) → (∀ x, x ∈ L ↔ x ∈ L') → L = L'
  | [], [], _, _, _ => rfl
  | [], y :: ys, _, _, h => by have := (h y).2 (by simp); cases this
  | x :: xs, [], _, _, h => by have := (h x).1 (by simp); cases this
  | x :: xs, y :: ys, h1, h2, h => by
    obtain ⟨a1, a2⟩ := List.pairwise_cons.1 h1
    obtain ⟨b1, b2⟩ := List.pairwise_cons.1 h2
    have hx := (h x).1 (by simp)
    have hy := (h y).2 (by simp)
    have e : x = y := by
      rcases List.mem_cons.1 hx with hx | hx
      · exact hx
      · rcases List.mem_cons.1 hy with hy | hy
        · exact hy.symm
        · have := a1 y hy; have := b1 x hx; omega
    subst e
    rw [rising_eq a2 b2 (fun z => ?_)]
    constructor
    · intro hz
      rcases List.mem_cons.1 ((h z).1 (by simp [hz])) with e | h'
      · subst e; have := a1 z hz; omega
      · exact h'
    · intro hz
      rcases List.mem_cons.1 ((h z).2 (by simp [hz])) with e | h'
      · subst e; have := b1 z hz; omega
      · exact h'
theorem heldL_eq {Z : Bytes} (h : PgB Z) {L : List Int} (hL : L.Pairwise (· < ·)) (hm : ∀ x, x ∈ L ↔ HeldP Z x) : heldL Z = L := rising_eq (heldL_sorted Z) hL (fun x => by rw [mem_heldL h, hm])

/-! ### the helpers -/
theorem rd_at (l : List Int) (i : Nat) : rd l (i : Int) = l.getD i 0 := by simp [rd]
theorem eqb_l (a b : List Int) (hl : a.length = b.length) (hb : a.length < 4611686018427387904) : ∀ (k i : Nat), i ≤ a.length → a.length < i + k → (∀ j, j < i → a.getD j 0 = b.getD j 0) → cadastreref0_EqBytes.l0 k a b i = some (decide (a = b))
  | 0, i, h1, h2, h3 => by omega
  | k + 1, i, h1, h2, h3 => by
    unfold cadastreref0_EqBytes.l0
    by_cases hc : i < a.length
    · rw [if_pos (by omega), if_pos (by omega), if_pos (by omega), rd_at, rd_at]
      by_cases e : a.getD i 0 = b.getD i 0
      · rw [if_pos e, wrap64_small (by omega) (by omega)]
        exact eqb_l a b hl hb k (i + 1) (by omega) (by omega) (fun j hj => by
          by_cases ej : j = i
          · subst ej; exact e
          · exact h3 j (by omega))
      · rw [if_neg e, decide_eq_false (fun h => e (by rw [h]))]
    · rw [if_neg (by omega), decide_eq_true]
      apply List.ext_getElem hl
      intro j h4 h5
      have := h3 j (by omega)
      rwa [List.getD_eq_getElem?_getD, List.getD_eq_getElem?_getD, List.getElem?_eq_getElem h4, List.getElem?_eq_getElem h5] at this
theorem eqb_f (a b : List Int) (hb : a.length < 4611686018427387904) : cadastreref0_EqBytes.f (a.length + 1) a b = some (decide (a = b)) := by
  unfold cadastreref0_EqBytes.f
  by_cases hl : a.length = b.length
  · rw [if_pos (by omega)]
    exact eqb_l a b hl hb _ 0 (by omega) (by omega) (fun j hj => by omega)
  · rw [if_neg (by omega), decide_eq_false (fun h => hl (by rw [h]))]
theorem eqn_l (a b : List Int) (hl : a.length = b.length) (hb : a.length < 4611686018427387904) : ∀ (k i : Nat), i ≤ a.length → a.length < i + k → (∀ j, j < i → a.getD j 0 = b.getD j 0) → PPagesModel.cadastreref0_EqNumbers.l0 k a b i = some (decide (a = b))
  | 0, i, h1, h2, h3 => by omega
  | k + 1, i, h1, h2, h3 => by
    unfold PPagesModel.cadastreref0_EqNumbers.l0
    by_cases hc : i < a.length
    · rw [if_pos (by omega), if_pos (by omega), if_pos (by omega), rd_at, rd_at]
      by_cases e : a.getD i 0 = b.getD i 0
      · rw [if_pos e, wrap64_small (by omega) (by omega)]
        exact eqn_l a b hl hb k (i + 1) (by omega) (by omega) (fun j hj => by
          by_cases ej : j = i
          · subst ej; exact e
          · exact h3 j (by omega))
      · rw [if_neg e, decide_eq_false (fun h => e (by rw [h]))]
    · rw [if_neg (by omega), decide_eq_true]
      apply List.ext_getElem hl
      intro j h4 h5
      have := h3 j (by omega)
      rwa [List.getD_eq_getElem?_getD, List.getD_eq_getElem?_getD, List.getElem?_eq_getElem h4, List.getElem?_eq_getElem h5] at this
theorem eqn_f (a b : List Int) (hb : a.length < 4611686018427387904) : PPagesModel.cadastreref0_EqNumbers.f (a.length + 1) a b = some (decide (a = b)) := by
  unfold PPagesModel.cadastreref0_EqNumbers.f
  by_cases hl : a.length = b.length
  · rw [if_pos (by omega)]
    exact eqn_l a b hl hb _ 0 (by omega) (by omega) (fun j hj => by omega)
  · rw [if_neg (by omega), decide_eq_false (fun h => hl (by rw [h]))]
/-- EqNumbers, EqBytes -/
theorem eqnumbers_any {w : World} {A A' : Option Addr} {n c n' c' : Nat} {a b : List Int} (ha : (Kd.int .i64).C w A n a) (hc : n ≤ c) (hb : (Kd.int .i64).C w A' n' b) (hc' : n' ≤ c') (hs : n < 4611686018427387904) :
    Calls Tryz.prog 41 #[.slice A n c, .slice A' n' c'] w fun e w' => e = .returned (.bool (decide (a = b))) ∧ ∃ m, w' = w.drewN m := by
  obtain rfl : a.length = n := ha.1
  obtain rfl : b.length = n' := hb.1
  refine (PPagesModel.cadastreref0_EqNumbers.calls _ A c a A' c' b _ w ha hc hb hc' (eqn_f a b hs)).mono ?_
  rintro e w' ⟨rfl, ⟨m, rfl⟩⟩
  exact ⟨rfl, m, rfl⟩
theorem eqbytes_any {w : World} {A A' : Option Addr} {n c n' c' : Nat} {a b : List Int} (ha : (Kd.int .u8).C w A n a) (hc : n ≤ c) (hb : (Kd.int .u8).C w A' n' b) (hc' : n' ≤ c') (hs : n < 4611686018427387904) :
    Calls Tryz.prog 24 #[.slice A n c, .slice A' n' c'] w fun e w' => e = .returned (.bool (decide (a = b))) ∧ ∃ m, w' = w.drewN m := by
  obtain rfl : a.length = n := ha.1
  obtain rfl : b.length = n' := hb.1
  refine (cadastreref0_EqBytes.calls _ A c a A' c' b _ w ha hc hb hc' (eqb_f a b hs)).mono ?_
  rintro e w' ⟨rfl, ⟨m, rfl⟩⟩
  exact ⟨rfl, m, rfl⟩
theorem page_l (a : Int) : ∀ (k i : Nat) (l : List Int), l.length = 512 → i ≤ 512 → 512 < i + k → ∃ r, PPagesModel.cadastrelaw13_page.l0 k a l i = some r ∧ r.length = 512
  | 0, i, l, h1, h2, h3 => by omega
  | k + 1, i, l, h1, h2, h3 => by
    unfold PPagesModel.cadastrelaw13_page.l0
    by_cases hc : i < 512
    · rw [if_pos (by omega), if_pos (by omega), wrap64_small (x := (i : Int) + 1) (by omega) (by omega)]
      exact page_l a k (i + 1) _ (by rw [List.length_set]; exact h1) (by omega) (by omega)
    · rw [if_neg (by omega)]
      exact ⟨l, rfl, h1⟩
theorem page_f (a : Int) : ∃ r, PPagesModel.cadastrelaw13_page.f 513 a = some r ∧ r.length = 512 := by
  unfold PPagesModel.cadastrelaw13_page.f
  rw [if_pos (by decide)]
  exact page_l a 513 0 _ (by rw [List.length_replicate]) (by omega) (by omega)
/-- the law's page of a byte -/
def pageB (a : Int) : Bytes := (PPagesModel.cadastrelaw13_page.f 513 a).getD []
theorem pageB_length (a : Int) : (pageB a).length = 512 := by
  obtain ⟨r, h1, h2⟩ := page_f a
  unfold pageB
  rw [h1]; exact h2
theorem lpage_any (a : Int) (w : World) : Calls Tryz.prog 74 #[.int .i64 a] w fun e w' => ∃ v, e = .returned v ∧ (Kd.int .u8).R 5 w' w.heap.size (fun k => w.heap.size ≤ k) v (pageB a) ∧ Below w.heap.size w w' := by
  obtain ⟨r, h1, h2⟩ := page_f a
  have e : pageB a = r := by unfold pageB; rw [h1]; rfl
  rw [e]
  refine (PPagesModel.cadastrelaw13_page.calls 513 a r w h1).mono ?_
  rintro e w' ⟨v, rfl, hv, hb⟩
  exact ⟨v, rfl, Kd.R_of_own (Kd.own_of_R hv) (fun k hk => own_base (Kd.own_of_R hv) k hk), hb⟩
theorem spoil_l : ∀ (k i : Nat) (l : List Int), l.length ≤ 1000000 → i ≤ l.length → l.length < i + k → cadastrelaw0_Bytes.l0 k l i = some ()
  | 0, i, l, h1, h2, h3 => by omega
  | k + 1, i, l, h1, h2, h3 => by
    unfold cadastrelaw0_Bytes.l0
    by_cases hc : i < l.length
    · rw [if_pos (by omega), if_pos (by omega), wrap64_small (x := (i : Int) + 1) (by omega) (by omega)]
      exact spoil_l k (i + 1) _ (by rw [List.length_set]; exact h1) (by rw [List.length_set]; omega) (by rw [List.length_set]; omega)
    · rw [if_neg (by omega), if_pos (by omega)]
theorem spoiln_l : ∀ (k i : Nat) (l : List Int), l.length ≤ 1000000 → i ≤ l.length → l.length < i + k → PPagesModel.cadastrelaw0_Numbers.l0 k l i = some ()
  | 0, i, l, h1, h2, h3 => by omega
  | k + 1, i, l, h1, h2, h3 => by
    unfold PPagesModel.cadastrelaw0_Numbers.l0
    by_cases hc : i < l.length
    · rw [if_pos (by omega), if_pos (by omega), wrap64_small (x := (i : Int) + 1) (by omega) (by omega)]
      exact spoiln_l k (i + 1) _ (by rw [List.length_set]; exact h1) (by rw [List.length_set]; omega) (by rw [List.length_set]; omega)
    · rw [if_neg (by omega), if_pos (by omega)]
/-- Bytes, Numbers: a row of one's own is spoilt, and nothing else -/
theorem bytes_any {w0 w : World} {v : Value} {l : List Int} {P0 : Nat → Prop} (hB : Below w0.heap.size w0 w) (hR : (Kd.int .u8).R 5 w w0.heap.size P0 v l) (hl : l.length ≤ 1000000) :
    Calls Tryz.prog 66 #[v] w fun e w' => e = .returned (.tuple #[]) ∧ Below w0.heap.size w0 w' ∧ Kept w w' P0 := by
  exact cadastrelaw0_Bytes.calls (l.length + 1) P0 v l w0 w hB hR (spoil_l _ 0 l hl (by omega) (by omega))
theorem numbers_any {w0 w : World} {v : Value} {l : List Int} {P0 : Nat → Prop} (hB : Below w0.heap.size w0 w) (hR : (Kd.int .i64).R 3 w w0.heap.size P0 v l) (hl : l.length ≤ 1000000) :
    Calls Tryz.prog 45 #[v] w fun e w' => e = .returned (.tuple #[]) ∧ Below w0.heap.size w0 w' ∧ Kept w w' P0 := by
  exact PPagesModel.cadastrelaw0_Numbers.calls (l.length + 1) P0 v l w0 w hB hR (spoiln_l _ 0 l hl (by omega) (by omega))
end Go.Proofs.YtmdpgjdepflbmaaGreat
namespace Go.Proofs.YtmdpgjdepflbmaaGreat
open Go.RowKit Go.Maps Go.Proofs.YtmdpgjdepflbmaaGreatW.PrintWords Go.Proofs.YtmdpgjdepflbmaaGreatW.PrintLast Go.Proofs.YtmdpgjdepflbmaaGreatW.PrintMore
open Go.Proofs.YtmdpgjdepflbmaaGreat.PPagerFolds
set_option linter.unusedVariables false
set_option linter.unusedSimpArgs false

theorem V0_zero : V0 0 = zeros := V0_at (by omega)
theorem updV_zero (V : Int → Bytes) {n : Int} (hn : n ≠ 0) (Z bs : Bytes) : updV V n Z bs 0 = Z := by
  unfold updV; rw [if_neg (fun e => hn e.symm), if_pos rfl]
theorem R_row {w : World} {base : Nat} {ok : Nat → Prop} {v : Value} {l : List Int} (h : I64.R 3 w base ok v l) : ∃ A c, v = .slice A l.length c ∧ I64.C w A l.length l ∧ l.length ≤ c := by
  obtain ⟨A, c, h1, h2, h3⟩ := Kd.R_reads h
  exact ⟨A, c, h1, h3, h2⟩
theorem one_C (w : World) (x : Int) : I64.C (w.alloc (.cells #[.int .i64 x] 3)) (some ⟨w.heap.size, 0, none⟩) 1 [x] := by
  have h : I64.R 3 (w.alloc (.cells #[.int .i64 x] 3)) 0 (fun _ => True) (.slice (some ⟨w.heap.size, 0, none⟩) 1 1) [x] :=
    ⟨fun _ _ => trivial, [.int .i64 x], ⟨rfl, .inr ⟨w.heap.size, 1, #[.int .i64 x], rfl, Nat.zero_le _, heap_alloc_new w _, Nat.le_refl _, by decide, rfl, rfl⟩⟩, Reps.one rfl (Reps.none _ _)⟩
  obtain ⟨A, c, e, h1, h2⟩ := R_row h
  injection e with e1 e2 e3
  subst e1
  exact h1

set_option maxRecDepth 100000 in
theorem wakes_any (w : World) : Calls Tryz.prog 44 #[] w fun e w' => e = .returned (.bool true) ∧ Below w.heap.size w w' := by
  have HS := Aside0.mk (start_any w)
  go_enter Tryz.func44, Tryz.ntmps44
  go_wp2_with fail
  refine (HS.out).mono ?_
  rintro e w1 ⟨g, p, d, l, rfl, hF, hb⟩
  have hz : GoodZ (V0 0) := by rw [V0_zero]; exact GoodZ.zero
  have htop : wordZ (V0 0) 16 = 0 := by rw [V0_zero]; exact zero_top
  have HA := Aside0.mk (alloc_any hF hz (by rw [htop]; omega))
  have HB := Aside0.mk (And.intro hb (And.intro hz htop))
  clear hF hb hz htop
  go_wp2_with fail
  refine (HA.out).mono ?_
  rintro e w2 ⟨s, hs, rfl, hL⟩
  obtain ⟨hg, ht, _, _⟩ := take_good HB.out.2.1 hs (by rw [HB.out.2.2]; omega)
  have hr := take_range HB.out.2.1 hs (by rw [HB.out.2.2]; omega)
  have hh := take_held HB.out.2.1 hs (by rw [HB.out.2.2]; omega)
  obtain ⟨n, hn⟩ : ∃ n, n = takeN (V0 0) s := ⟨_, rfl⟩
  rw [← hn] at hL hr hh ⊢
  have n1 : 1 ≤ n := hr.1
  have hV : updV V0 n (takeZ (V0 0) s) zeros 0 = takeZ (V0 0) s := updV_zero _ (by omega) _ _
  have HH := Aside0.mk (gheldl_any hL.1 (by rw [hV]; exact hg))
  rw [hV, heldL_eq hg.pg (L := [n]) (by simp) (fun x => by
    rw [hh x]
    constructor
    · intro h; exact .inl (by simpa using h)
    · rintro (h | h)
      · simp [h]
      · rw [V0_zero] at h; exact absurd h (zero_none x))] at HH
  have HL := Aside0.mk hL
  clear hL hg ht hr hh hV hs hn
  go_wp2_with fail
  refine (HH.out).mono ?_
  rintro e w3 ⟨v, rfl, hv, hb3⟩
  obtain ⟨A, c, rfl, hC, hc⟩ := R_row hv
  have HQ := Aside0.mk (eqnumbers_any (Kd.C_alloc hC (.cells #[.int .i64 n] 3)) hc (one_C w3 n) (Nat.le_refl 1) (by simp))
  have HV := Aside0.mk hb3
  clear hv hb3 hC
  have q1 : decide (1 ≤ n) = true := by simp; exact n1
  go_wp2_with (first
    | (go_at_call 39; refine (num13_any _ _).mono ?_; rintro e w' ⟨rfl, rfl⟩)
    | (go_at_call 41; refine (HQ.out).mono ?_; rintro e w' ⟨rfl, m, rfl⟩))
  go_ret
  refine ⟨by simp, ?_⟩
  have hb1 := HB.out.1
  have h2 := HL.out.2
  have h12 : Below w.heap.size w w2 := hb1.trans (h2.below (fun k hk => hk.1) hb1.size)
  exact pw_below_drewN ((h12.trans (HV.out.mono h12.size)).alloc (by have := h12.size; have := HV.out.size; omega) _) _

/-! ### no file of pages -/
/-- the acts that came in -/
def Acts (w : World) (A : Option Addr) (len : Nat) (D C L : Nat → Int) : Prop :=
  0 < len → ∃ b off, A = some ⟨b, off, none⟩ ∧ b < w.heap.size ∧ ∀ i, i < len → w.cell? ⟨b, off + i * 3, none⟩ = some (.int .i64 (D i)) ∧ w.cell? ⟨b, off + i * 3 + 1, none⟩ = some (.int .i64 (C i)) ∧ w.cell? ⟨b, off + i * 3 + 2, none⟩ = some (.int .i64 (L i))

end Go.Proofs.YtmdpgjdepflbmaaGreat
namespace Go.Proofs.YtmdpgjdepflbmaaGreat
open Go.RowKit Go.Maps Go.Proofs.YtmdpgjdepflbmaaGreatW.PrintWords Go.Proofs.YtmdpgjdepflbmaaGreatW.PrintLast Go.Proofs.YtmdpgjdepflbmaaGreatW.PrintMore
open Go.Proofs.YtmdpgjdepflbmaaGreat.PPagerFolds
set_option linter.unusedVariables false
set_option linter.unusedSimpArgs false

/-- a file of pages within a law that began at w -/
structure FS (w wr : World) (g : Nat) (B : PG) (M : DM) (V : Int → Bytes) (cnt : Int) (ok : Nat → Prop) : Prop where
  fat : FAt wr g B M V cnt ok
  fresh : ∀ k, ok k → w.heap.size ≤ k
  good : GoodZ (V 0)
  below : Below w.heap.size w wr
  lt : ∀ k, ok k → k < wr.heap.size
/-- another state of it -/
structure FS' (w wr w' : World) (g : Nat) (B : PG) (M : DM) (V : Int → Bytes) (cnt : Int) (ok : Nat → Prop) : Prop where
  st : FS w w' g B M V cnt (Grow wr ok w')
  fr : Fr ok wr w'

section
variable {w wr w' : World} {g : Nat} {B : PG} {M : DM} {V V' : Int → Bytes} {cnt cnt' : Int} {ok : Nat → Prop}
theorem FS.of_left (h : FS w wr g B M V cnt ok) (hL : FLeft wr g B M V' cnt' ok w') (hg : GoodZ (V' 0)) : FS' w wr w' g B M V' cnt' ok := by
  have hb := h.below.size
  refine ⟨⟨hL.1, fun k hk => hk.elim (h.fresh k) (fun h => by omega), hg, h.below.trans (hL.2.below h.fresh hb), fun k hk => hk.elim (fun h' => Nat.lt_of_lt_of_le (h.lt k h') hL.2.size) (fun h => h.2)⟩, hL.2⟩
theorem FS.step (h : FS w wr g B M V cnt ok) (hb : Below wr.heap.size wr w') : FS w w' g B M V cnt ok := ⟨h.fat.below hb, h.fresh, h.good, h.below.trans (hb.mono h.below.size), fun k hk => Nat.lt_of_lt_of_le (h.lt k hk) hb.size⟩
theorem FS.drewN (h : FS w wr g B M V cnt ok) (n : Nat) : FS w (wr.drewN n) g B M V cnt ok := ⟨h.fat.drewN n, h.fresh, h.good, pw_below_drewN h.below n, h.lt⟩
theorem FS.top0 (h : FS w wr g B M V cnt ok) : 0 ≤ wordZ (V 0) 16 := (wordZ_nn h.good.pg 16).1
theorem FS.grown (h : FS w wr g B M V cnt ok) {row : Option Nat} (hg : wr.grownBy w' row) (hr : ∀ k, row = some k → ¬ ok k ∧ w.heap.size ≤ k) : FS w w' g B M V cnt ok :=
  ⟨h.fat.move hg.size (fun k hk hl => hg.block k hl (fun e => (hr k e.symm).1 hk)), h.fresh, h.good, h.below.grown hg h.below.size (fun k hk => (hr k hk).2), fun k hk => Nat.lt_of_lt_of_le (h.lt k hk) hg.size⟩
/-- a row that is none of the file's stands behind its calls -/
theorem row_fr {α : Type} {d : Kd α} {e : Nat} {v : Value} {l : List α} (hR : d.R e wr w.heap.size (fun k => w.heap.size ≤ k ∧ ¬ ok k) v l) (hF : Fr ok wr w') : d.R e w' w.heap.size (fun k => w.heap.size ≤ k ∧ ¬ Grow wr ok w' k) v l := by
  have h1 := Kd.R_bound hR
  have h2 := Kd.R_step h1 (w1 := w') (fun k hk hlt => hF.block k hlt hk.1.2)
  exact Kd.R_mono h2 (fun k hk => ⟨hk.1.1, fun h => h.elim hk.1.2 (fun h => by have := hk.2.2.1; omega)⟩)
/-- a new row is none of the file's -/
theorem row_new {α : Type} {d : Kd α} {e : Nat} {v : Value} {l : List α} (h : FS w wr g B M V cnt ok) (hR : d.R e w' wr.heap.size (fun k => wr.heap.size ≤ k) v l) : d.R e w' w.heap.size (fun k => w.heap.size ≤ k ∧ ¬ ok k) v l := by
  have hb := h.below.size
  exact Kd.R_lower (Kd.R_mono hR (fun k hk => ⟨Nat.le_trans hb hk, fun h' => by have := h.lt k h'; omega⟩)) hb

theorem fs_alloc (h : FS w wr g B M V cnt ok) (hroom : wordZ (V 0) 16 < 3936) :
    Calls Tryz.prog 77 #[dp g] wr fun e w' => ∃ (n : Int) (V' : Int → Bytes) (cnt' : Int), e = .returned (.tuple #[.int .i64 n, .int .i64 0]) ∧ FS' w wr w' g B M V' cnt' ok ∧ 1 ≤ n ∧ n ≤ 3936 ∧ ¬ HeldP (V 0) n ∧ (∀ m, HeldP (V' 0) m ↔ m = n ∨ HeldP (V 0) m) ∧ (∀ y, y ≠ 0 → V' y = if y = n then zeros else V y) ∧
      (wordZ (V' 0) 16 = wordZ (V 0) 16 ∨ (wordZ (V' 0) 16 = wordZ (V 0) 16 + 1 ∧ ∀ m, 1 ≤ m → m ≤ wordZ (V 0) 16 → HeldP (V 0) m)) ∧ (∀ a, a + 1 < 16 → wordZ (V' 0) a = wordZ (V 0) a) ∧ cnt' = max (max cnt 1) (n + 1) ∧ n ≤ wordZ (V' 0) 16 := by
  refine (alloc_any h.fat h.good hroom).mono ?_
  rintro e w' ⟨s, hs, rfl, hL⟩
  obtain ⟨hg, ht, hr, hh⟩ := take_good h.good hs hroom
  have hn := take_range h.good hs hroom
  have hV : updV V (takeN (V 0) s) (takeZ (V 0) s) zeros 0 = takeZ (V 0) s := updV_zero _ (by omega) _ _
  refine ⟨_, _, _, rfl, h.of_left hL (by rw [hV]; exact hg), hn.1, hn.2.1, take_fresh h.good hs hroom, fun m => ?_, fun y hy => ?_, ?_, fun a ha => by rw [hV]; exact hr a ha, rfl, ?_⟩
  · rw [hV]; exact take_held h.good hs hroom m
  · unfold updV; rw [if_neg hy]
  · rw [hV, ht]
    by_cases e : s = 0
    · rw [if_pos e]; exact .inr ⟨rfl, fun m h1 h2 => take_new h.good hs e m h1 h2⟩
    · rw [if_neg e]; exact .inl rfl
  · rw [hV, ht]
    unfold takeN
    split
    · omega
    · rename_i e; exact (hs.pos e).1
theorem HeldP.range {Z : Bytes} (hZ : GoodZ Z) {n : Int} (h : HeldP Z n) : 1 ≤ n ∧ n ≤ 3936 := ⟨h.1, by have := h.2.1; have := hZ.top; omega⟩
theorem fs_free (h : FS w wr g B M V cnt ok) (n : Int) (hn : HeldP (V 0) n) :
    Calls Tryz.prog 72 #[dp g, .int .i64 n] wr fun e w' => ∃ (V' : Int → Bytes) (cnt' : Int), e = .returned (.int .i64 0) ∧ FS' w wr w' g B M V' cnt' ok ∧ (∀ m, HeldP (V' 0) m ↔ m ≠ n ∧ HeldP (V 0) m) ∧ (∀ y, y ≠ 0 → V' y = if y = n then zeros else V y) ∧ wordZ (V' 0) 16 = wordZ (V 0) 16 ∧ (∀ a, a + 1 < 16 → wordZ (V' 0) a = wordZ (V 0) a) ∧ cnt' = max (max cnt 1) (n + 1) := by
  have hr := hn.range h.good
  obtain ⟨m, rfl⟩ : ∃ m : Nat, n = m := ⟨n.toNat, by omega⟩
  refine (gfree_yes h.fat h.good m hn).mono ?_
  rintro e w' ⟨rfl, hL⟩
  obtain ⟨hg, ht, hw, hh⟩ := clr_good h.good (n := m) (by omega) (by omega)
  have hV : updV V m (clrZ (V 0) m) zeros 0 = clrZ (V 0) m := updV_zero _ (by omega) _ _
  refine ⟨_, _, rfl, h.of_left hL (by rw [hV]; exact hg), fun x => by rw [hV]; exact hh x, fun y hy => by unfold updV; rw [if_neg hy], by rw [hV, ht], fun a ha => by rw [hV]; exact hw a ha, rfl⟩
theorem fs_free_no (h : FS w wr g B M V cnt ok) (n : Int) (hn : ¬ HeldP (V 0) n) :
    Calls Tryz.prog 72 #[dp g, .int .i64 n] wr fun e w' => e = .returned (.int .i64 1) ∧ Below wr.heap.size wr w' := gfree_no h.fat h.good n hn
theorem fs_write (h : FS w wr g B M V cnt ok) (n : Int) (hn : HeldP (V 0) n) {v : Value} {bs : Bytes} (hv : U8.R 5 wr w.heap.size (fun k => w.heap.size ≤ k ∧ ¬ ok k) v bs) (hl : bs.length = 512) :
    Calls Tryz.prog 75 #[dp g, .int .i64 n, v] wr fun e w' => e = .returned (.int .i64 0) ∧ FS' w wr w' g B M (fun y => if y = n then bs else V y) (max cnt (n + 1)) ok := by
  have hr := hn.range h.good
  obtain ⟨gz, c3, rfl, _, _, _⟩ := Kd.R_form hv (by omega)
  rw [hl] at hv ⊢
  obtain ⟨hC, hc, _⟩ := C_of_row hv
  refine (gwr_yes h.fat h.good n hn hC (fun ad e => by cases e; exact ⟨(row_base hv).2, row_lt hv⟩)).mono ?_
  rintro e w' ⟨rfl, hL⟩
  exact ⟨rfl, h.of_left hL (by rw [if_neg (by omega)]; exact h.good)⟩
theorem fs_write_no (h : FS w wr g B M V cnt ok) (n : Int) (hn : ¬ HeldP (V 0) n) {v : Value} {bs : Bytes} {base : Nat} {okv : Nat → Prop} (hv : U8.R 5 wr base okv v bs) :
    Calls Tryz.prog 75 #[dp g, .int .i64 n, v] wr fun e w' => e = .returned (.int .i64 1) ∧ Below wr.heap.size wr w' := by
  obtain ⟨A, c, rfl⟩ := Kd.R_slice hv
  exact gwr_no h.fat h.good n hn A _ c
theorem fs_read (h : FS w wr g B M V cnt ok) (n : Int) (hn : HeldP (V 0) n) :
    Calls Tryz.prog 42 #[dp g, .int .i64 n] wr fun e w' => ∃ v, e = .returned (.tuple #[v, .int .i64 0]) ∧ U8.R 5 w' wr.heap.size (fun k => wr.heap.size ≤ k) v (V n) ∧ Below wr.heap.size wr w' := gread_yes h.fat h.good n hn
theorem fs_held (h : FS w wr g B M V cnt ok) {L : List Int} (hs : L.Pairwise (· < ·)) (hm : ∀ x, x ∈ L ↔ HeldP (V 0) x) :
    Calls Tryz.prog 40 #[dp g] wr fun e w' => ∃ v, e = .returned (.tuple #[v, .int .i64 0]) ∧ I64.R 3 w' wr.heap.size (fun k => wr.heap.size ≤ k) v L ∧ Below wr.heap.size wr w' := by
  rw [← heldL_eq h.good.pg hs hm]
  exact gheldl_any h.fat h.good
end
/-- Start, as a law holds it -/
theorem fs_start (w : World) : Calls Tryz.prog 37 #[] w fun e w' => ∃ g p d l ok, e = .returned (.tuple #[dp p, dp g]) ∧ FS w w' g (B0 p d l) M0 V0 0 ok := by
  refine (start_any w).mono ?_
  rintro e w' ⟨g, p, d, l, rfl, hF, hb⟩
  exact ⟨g, p, d, l, _, rfl, hF, fun k hk => hk.1, by rw [V0_zero]; exact GoodZ.zero, hb, fun k hk => hk.2⟩

end Go.Proofs.YtmdpgjdepflbmaaGreat
namespace Go.Proofs.YtmdpgjdepflbmaaGreat
open Go.RowKit Go.Maps Go.Proofs.YtmdpgjdepflbmaaGreatW.PrintWords Go.Proofs.YtmdpgjdepflbmaaGreatW.PrintLast Go.Proofs.YtmdpgjdepflbmaaGreatW.PrintMore
open Go.Proofs.YtmdpgjdepflbmaaGreat.PPagerFolds
set_option linter.unusedVariables false
set_option linter.unusedSimpArgs false

theorem within_any (a : Int) (n : Nat) (h0 : 1 ≤ n) (h1 : n < 1000000) (w : World) : Calls Tryz.prog 18 #[.int .i64 a, .int .i64 n] w fun e w' => ∃ r : Nat, e = .returned (.int .i64 r) ∧ r < n ∧ (r : Int) = (IntKind.u64.wrap a) % n ∧ ∃ m, w' = w.drewN m := by
  have e1 : IntKind.u64.wrap (n : Int) = n := by simp [IntKind.wrap, IntKind.bits, IntKind.signed]; omega
  have hu : 0 ≤ IntKind.u64.wrap a := by simp [IntKind.wrap, IntKind.bits, IntKind.signed]; omega
  obtain ⟨r, hr⟩ : ∃ r : Nat, (r : Int) = (IntKind.u64.wrap a) % n := ⟨((IntKind.u64.wrap a) % n).toNat, by have := Int.emod_nonneg (IntKind.u64.wrap a) (show (n : Int) ≠ 0 by omega); omega⟩
  have hrn : r < n := by have := Int.emod_lt_of_pos (IntKind.u64.wrap a) (show (0 : Int) < n by omega); omega
  have hf : cadastrelaw0_Within.f a n = some (r : Int) := by
    unfold cadastrelaw0_Within.f
    rw [e1, if_neg (by omega), Int.tmod_eq_emod_of_nonneg hu, ← hr, wrap64_small (by omega) (by omega)]
  refine (cadastrelaw0_Within.calls a n r w hf).mono ?_
  rintro e w' ⟨rfl, ⟨m, rfl⟩⟩
  exact ⟨r, rfl, hrn, hr, m, rfl⟩

theorem below_tr {w a b : World} (h : Below w.heap.size w a) (k : Below a.heap.size a b) : Below w.heap.size w b := h.trans (k.mono h.size)
theorem make512 : ∀ W : World, (Instr.makeSlice 48 (.int .i64 512) (.int .i64 512)).run Tryz.prog W = .ok (.slice (some ⟨W.heap.size, 0, none⟩) 512 512) (W.alloc (.cells (madeCells #[.int .u8 0] 512) 5)) :=
  fun W => print_make 48 5 .u8 1 Tryz.underlying48 info5 (by decide) 512 (by decide) W
theorem irow_cell {w : World} {base : Nat} {ok : Nat → Prop} {gz n cap : Nat} {l : List Int} (h : I64.R 3 w base ok (.slice (some ⟨gz, 0, none⟩) n cap) l) (j : Nat) (hj : j < n) : w.cell? ⟨gz, j, none⟩ = some (.int .i64 (rd l j)) := by
  obtain ⟨h1, h2⟩ := Kd.R_celln 0 h (j : Int) (by omega) (by omega)
  rw [Int.toNat_natCast] at h1
  rw [h1]; rfl
end Go.Proofs.YtmdpgjdepflbmaaGreat

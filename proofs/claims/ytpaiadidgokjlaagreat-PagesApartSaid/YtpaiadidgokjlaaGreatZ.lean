/-
  Page 0 as plain bytes: words, bits, the lowest that is spare.
-/
import Derived.Test.YtpaiadidgokjlaaGreatPPagesModelx6
import Derived.Laws.BitsAllLaws
namespace Go.Proofs.YtpaiadidgokjlaaGreat
open Go.RowKit Go.Proofs.YtpaiadidgokjlaaGreatW.PrintWords Go.Proofs.YtpaiadidgokjlaaGreatW.PrintLast Go.Proofs.YtpaiadidgokjlaaGreatW.PrintMore
open Go.Proofs.YtpaiadidgokjlaaGreat.PPagesModel
set_option linter.unusedVariables false

/-- bytes of a page -/
structure PgB (Z : List Int) : Prop where
  len : Z.length = 512
  byte : ∀ (i : Nat), 0 ≤ Z.getD i 0 ∧ Z.getD i 0 < 256
def wordZ (Z : List Int) (a : Nat) : Int := Z.getD a 0 * 256 + Z.getD (a + 1) 0
def setZ (Z : List Int) (a : Nat) (v : Int) : List Int := (Z.set a ((v / 256) % 256)).set (a + 1) (v % 256)
theorem wordZ_nn {Z : List Int} (h : PgB Z) (a : Nat) : 0 ≤ wordZ Z a ∧ wordZ Z a < 65536 := by
  have h1 := h.byte a
  have h2 := h.byte (a + 1)
  unfold wordZ
  omega

theorem i64_or_small (a b : Nat) (ha : a < 256) (hb : b < 256) : Go.bits .or .i64 ((a : Int) * 256) (b : Int) = (a : Int) * 256 + b := by
  have e1 : (BitVec.ofInt 64 ((a : Int) * 256)).toNat = a * 256 := by
    rw [show (a : Int) * 256 = ((a * 256 : Nat) : Int) from by omega, BitVec.ofInt_natCast, BitVec.toNat_ofNat, Nat.mod_eq_of_lt (by omega)]
  have e2 : (BitVec.ofInt 64 (b : Int)).toNat = b := by
    rw [BitVec.ofInt_natCast, BitVec.toNat_ofNat, Nat.mod_eq_of_lt (by omega)]
  have e3 : a * 256 ||| b = a * 256 + b := by
    have := Nat.shiftLeft_add_eq_or_of_lt (i := 8) hb a
    rw [Nat.shiftLeft_eq] at this
    exact this.symm
  show IntKind.i64.wrap (((BitVec.ofInt 64 ((a : Int) * 256) ||| BitVec.ofInt 64 (b : Int)).toNat : Nat) : Int) = _
  rw [BitVec.toNat_or, e1, e2, e3]
  simp [IntKind.wrap, IntKind.bits, IntKind.signed]
  omega
theorem rd_getD (Z : List Int) (a : Nat) : rd Z (a : Int) = Z.getD a 0 := by simp [rd]
theorem wrap64_small {x : Int} (h0 : -4611686018427387904 ≤ x) (h : x < 4611686018427387904) : wrap64 x = x := by unfold wrap64; omega
theorem word_f {Z : List Int} (h : PgB Z) (a : Nat) (ha : a + 1 < 512) : pages_word.f Z (a : Int) = some (wordZ Z a) := by
  have hl := h.len
  obtain ⟨x0, x1⟩ := h.byte a
  obtain ⟨y0, y1⟩ := h.byte (a + 1)
  unfold pages_word.f
  rw [wrap64_small (x := (a : Int) + 1) (by omega) (by omega)]
  rw [if_pos (by omega), if_pos (by omega), if_pos (by omega), if_pos (by omega)]
  rw [show (a : Int) + 1 = ((a + 1 : Nat) : Int) from by omega, rd_getD, rd_getD]
  rw [wrap64_small (x := Z.getD a 0) (by omega) (by omega), wrap64_small (x := Z.getD a 0 * 256) (by omega) (by omega), wrap64_small (x := Z.getD (a + 1) 0) (by omega) (by omega)]
  obtain ⟨x, hx⟩ := Int.eq_ofNat_of_zero_le x0
  obtain ⟨y, hy⟩ := Int.eq_ofNat_of_zero_le y0
  unfold wordZ
  rw [hx, hy, i64_or_small x y (by omega) (by omega)]
theorem set_f {Z : List Int} (h : PgB Z) (a : Nat) (ha : a + 1 < 512) (v : Int) : pages_set.f Z (a : Int) v = some (setZ Z a v) := by
  have hl := h.len
  unfold pages_set.f setZ
  rw [wrap64_small (x := (a : Int) + 1) (by omega) (by omega)]
  rw [if_pos (by omega), if_pos (by omega), if_pos (by omega), if_pos (by omega)]
  rw [show ((a : Int)).toNat = a from by omega, show ((a : Int) + 1).toNat = a + 1 from by omega]
theorem getD_set (Z : List Int) (i j : Nat) (v : Int) (hi : i < Z.length) : (Z.set i v).getD j 0 = if j = i then v else Z.getD j 0 := by
  simp only [List.getD_eq_getElem?_getD, List.getElem?_set]
  by_cases e : j = i
  · subst e; simp [hi]
  · rw [if_neg (fun h => e h.symm), if_neg e]
theorem getD_setZ {Z : List Int} (h : PgB Z) (a : Nat) (ha : a + 1 < 512) (v : Int) (j : Nat) : (setZ Z a v).getD j 0 = if j = a then (v / 256) % 256 else if j = a + 1 then v % 256 else Z.getD j 0 := by
  have hl := h.len
  unfold setZ
  rw [getD_set _ _ _ _ (by rw [List.length_set]; omega), getD_set _ _ _ _ (by omega)]
  by_cases e : j = a
  · subst e
    rw [if_neg (by omega), if_pos rfl]
    simp
  · by_cases e2 : j = a + 1
    · rw [if_pos e2, if_neg e, if_pos e2]
    · rw [if_neg e2, if_neg e, if_neg e, if_neg e2]
theorem PgB.setZ {Z : List Int} (h : PgB Z) (a : Nat) (ha : a + 1 < 512) (v : Int) : PgB (setZ Z a v) := by
  refine ⟨by unfold Go.Proofs.YtpaiadidgokjlaaGreat.setZ; simp [h.len], fun i => ?_⟩
  rw [getD_setZ h a ha]
  have := h.byte i
  split
  · omega
  · split <;> omega
theorem PgB.set {Z : List Int} (h : PgB Z) (a : Nat) (ha : a < 512) {v : Int} (h0 : 0 ≤ v) (h1 : v < 256) : PgB (Z.set a v) := by
  have hl := h.len
  refine ⟨by simp [h.len], fun i => ?_⟩
  rw [getD_set _ _ _ _ (by omega)]
  have := h.byte i
  split <;> omega
theorem word_setZ {Z : List Int} (h : PgB Z) (a : Nat) (ha : a + 1 < 512) {v : Int} (h0 : 0 ≤ v) (h1 : v < 65536) : wordZ (setZ Z a v) a = v := by
  unfold wordZ
  rw [getD_setZ h a ha, getD_setZ h a ha, if_pos rfl, if_neg (by omega), if_pos rfl]
  omega
theorem word_setZ_ne {Z : List Int} (h : PgB Z) (a b : Nat) (ha : a + 1 < 512) (hb : b + 1 < a ∨ a + 1 < b) (v : Int) : wordZ (setZ Z a v) b = wordZ Z b := by
  unfold wordZ
  rw [getD_setZ h a ha, getD_setZ h a ha, if_neg (by omega), if_neg (by omega), if_neg (by omega), if_neg (by omega)]
theorem word_set_ne {Z : List Int} (h : PgB Z) (a b : Nat) (ha : a < 512) (hb : b + 1 < a) (v : Int) : wordZ (Z.set a v) b = wordZ Z b := by
  have hl := h.len
  unfold wordZ
  rw [getD_set _ _ _ _ (by omega), getD_set _ _ _ _ (by omega), if_neg (by omega), if_neg (by omega)]
theorem PgB.zero : PgB (List.replicate 512 0) := ⟨by rw [List.length_replicate], fun i => by
  rw [List.getD_eq_getElem?_getD, List.getElem?_replicate]
  split <;> simp⟩
theorem zero_getD (i : Nat) : (List.replicate 512 (0 : Int)).getD i 0 = 0 := by
  rw [List.getD_eq_getElem?_getD, List.getElem?_replicate]
  split <;> simp
theorem zero_word (a : Nat) : wordZ (List.replicate 512 0) a = 0 := by unfold wordZ; rw [zero_getD, zero_getD]; rfl

/-! ### bits -/
def bitAt (n : Nat) : Nat := 20 + (n - 1) / 8
def mask (n : Nat) : Nat := 2 ^ ((n - 1) % 8)
theorem mask_lt (n : Nat) : mask n < 256 := by
  unfold mask
  have : (n - 1) % 8 < 8 := Nat.mod_lt _ (by decide)
  exact Nat.lt_of_lt_of_le (Nat.pow_lt_pow_right (by decide) this) (by decide)
theorem bit_f (n : Nat) (h1 : 1 ≤ n) (h2 : n ≤ 4096) : pages_bit.f (n : Int) = some ((bitAt n : Int), (mask n : Int)) := by
  have e1 : wrap64 ((n : Int) - 1) = ((n - 1 : Nat) : Int) := by rw [wrap64_small (by omega) (by omega)]; omega
  have e2 : Int.tmod ((n - 1 : Nat) : Int) 8 = (((n - 1) % 8 : Nat) : Int) := by rw [Int.tmod_eq_emod_of_nonneg (by omega)]; omega
  have e3 : Int.tdiv ((n - 1 : Nat) : Int) 8 = (((n - 1) / 8 : Nat) : Int) := by rw [Int.tdiv_eq_ediv_of_nonneg (by omega)]; omega
  unfold pages_bit.f
  rw [e1, e2, e3, if_pos (by omega), wrap64_small (x := (((n - 1) / 8 : Nat) : Int)) (by omega) (by omega), wrap64_small (x := 20 + (((n - 1) / 8 : Nat) : Int)) (by omega) (by omega)]
  have h8 : (n - 1) % 8 < 8 := Nat.mod_lt _ (by decide)
  have e4 : shl .u8 1 (((n - 1) % 8 : Nat) : Int) = ((mask n : Nat) : Int) := by
    unfold shl mask
    rw [Int.toNat_natCast, show IntKind.u8.bits = 8 from rfl, Nat.min_eq_left (by omega)]
    generalize (n - 1) % 8 = j at h8
    have : j = 0 ∨ j = 1 ∨ j = 2 ∨ j = 3 ∨ j = 4 ∨ j = 5 ∨ j = 6 ∨ j = 7 := by omega
    rcases this with rfl | rfl | rfl | rfl | rfl | rfl | rfl | rfl <;> decide
  rw [e4]
  congr 1
/-- is a page's bit set? -/
def heldZ (Z : List Int) (n : Nat) : Bool := (Z.getD (bitAt n) 0).toNat.testBit ((n - 1) % 8)
def orZ (Z : List Int) (n : Nat) : List Int := Z.set (bitAt n) (Go.bits .or .u8 (Z.getD (bitAt n) 0) (mask n))
def clrZ (Z : List Int) (n : Nat) : List Int := Z.set (bitAt n) (Go.bits .andNot .u8 (Z.getD (bitAt n) 0) (mask n))
theorem and_mask (a : Nat) (i : Nat) : (a &&& 2 ^ i = 0) ↔ a.testBit i = false := by
  constructor
  · intro h
    have := congrArg (fun x => x.testBit i) h
    simpa [Nat.testBit_and, Nat.testBit_two_pow_self] using this
  · intro h
    apply Nat.eq_of_testBit_eq
    intro j
    rw [Nat.testBit_and, Nat.zero_testBit]
    by_cases e : i = j
    · subst e; simp [h]
    · simp [Nat.testBit_two_pow_of_ne e]
theorem held_and {Z : List Int} (h : PgB Z) (n : Nat) : (Go.bits .and .u8 (Z.getD (bitAt n) 0) (mask n) = 0) ↔ heldZ Z n = false := by
  obtain ⟨h0, h1⟩ := h.byte (bitAt n)
  have hm := mask_lt n
  rw [u8_and _ _ h0 h1 (by omega) (by omega), Int.toNat_natCast]
  unfold heldZ
  rw [← and_mask]
  unfold mask
  omega
theorem or_range {Z : List Int} (h : PgB Z) (n : Nat) : 0 ≤ Go.bits .or .u8 (Z.getD (bitAt n) 0) (mask n) ∧ Go.bits .or .u8 (Z.getD (bitAt n) 0) (mask n) < 256 := by
  obtain ⟨h0, h1⟩ := h.byte (bitAt n)
  have hm := mask_lt n
  rw [u8_or _ _ h0 h1 (by omega) (by omega), Int.toNat_natCast]
  have : (Z.getD (bitAt n) 0).toNat ||| mask n < 2 ^ 8 := Nat.or_lt_two_pow (by omega) hm
  omega
theorem clr_range {Z : List Int} (h : PgB Z) (n : Nat) : 0 ≤ Go.bits .andNot .u8 (Z.getD (bitAt n) 0) (mask n) ∧ Go.bits .andNot .u8 (Z.getD (bitAt n) 0) (mask n) < 256 := by
  obtain ⟨h0, h1⟩ := h.byte (bitAt n)
  have hm := mask_lt n
  rw [u8_andNot _ _ h0 h1 (by omega) (by omega), Int.toNat_natCast]
  have : (Z.getD (bitAt n) 0).toNat &&& (255 - mask n) < 2 ^ 8 := Nat.and_lt_two_pow _ (by omega)
  omega
theorem bitAt_lt {n : Nat} (h1 : 1 ≤ n) (h2 : n ≤ 3936) : 20 ≤ bitAt n ∧ bitAt n < 512 := by unfold bitAt; omega
theorem PgB.orZ {Z : List Int} (h : PgB Z) {n : Nat} (h1 : 1 ≤ n) (h2 : n ≤ 3936) : PgB (orZ Z n) := h.set _ (bitAt_lt h1 h2).2 (or_range h n).1 (or_range h n).2
theorem PgB.clrZ {Z : List Int} (h : PgB Z) {n : Nat} (h1 : 1 ≤ n) (h2 : n ≤ 3936) : PgB (clrZ Z n) := h.set _ (bitAt_lt h1 h2).2 (clr_range h n).1 (clr_range h n).2
theorem same_bit {n m : Nat} (hn : 1 ≤ n) (hm : 1 ≤ m) (h1 : bitAt m = bitAt n) (h2 : (m - 1) % 8 = (n - 1) % 8) : m = n := by
  unfold bitAt at h1
  omega
theorem held_orZ {Z : List Int} (h : PgB Z) {n m : Nat} (h1 : 1 ≤ n) (h2 : n ≤ 3936) (hm : 1 ≤ m) : heldZ (orZ Z n) m = (decide (m = n) || heldZ Z m) := by
  have hl := h.len
  obtain ⟨b0, b1⟩ := h.byte (bitAt n)
  have hmk := mask_lt n
  unfold heldZ orZ
  rw [getD_set _ _ _ _ (by rw [hl]; exact (bitAt_lt h1 h2).2)]
  by_cases e : bitAt m = bitAt n
  · rw [if_pos e, u8_or _ _ b0 b1 (by omega) (by omega), Int.toNat_natCast, Int.toNat_natCast, Nat.testBit_or, e]
    unfold mask
    rw [Nat.testBit_two_pow]
    by_cases e2 : (n - 1) % 8 = (m - 1) % 8
    · have : m = n := same_bit h1 hm e e2.symm
      subst this; simp
    · have : ¬ m = n := fun h => e2 (by rw [h])
      simp [e2, this]
  · rw [if_neg e]
    have : ¬ m = n := fun h => e (by rw [h])
    simp [this]
theorem held_clrZ {Z : List Int} (h : PgB Z) {n m : Nat} (h1 : 1 ≤ n) (h2 : n ≤ 3936) (hm : 1 ≤ m) : heldZ (clrZ Z n) m = (!decide (m = n) && heldZ Z m) := by
  have hl := h.len
  obtain ⟨b0, b1⟩ := h.byte (bitAt n)
  have hmk := mask_lt n
  have h8 : (n - 1) % 8 < 8 := Nat.mod_lt _ (by decide)
  have hm8 : (m - 1) % 8 < 8 := Nat.mod_lt _ (by decide)
  unfold heldZ clrZ
  rw [getD_set _ _ _ _ (by rw [hl]; exact (bitAt_lt h1 h2).2)]
  by_cases e : bitAt m = bitAt n
  · rw [if_pos e, u8_andNot _ _ b0 b1 (by omega) (by omega), Int.toNat_natCast, Int.toNat_natCast, Nat.testBit_and, e]
    have e3 : (255 - mask n).testBit ((m - 1) % 8) = !decide ((n - 1) % 8 = (m - 1) % 8) := by
      have hx := Nat.testBit_two_pow_sub_succ (n := 8) (x := mask n) hmk ((m - 1) % 8)
      rw [show 2 ^ 8 - (mask n + 1) = 255 - mask n from by omega] at hx
      rw [hx]
      unfold mask
      rw [Nat.testBit_two_pow]
      simp [hm8]
    rw [e3]
    by_cases e2 : (n - 1) % 8 = (m - 1) % 8
    · have : m = n := same_bit h1 hm e e2.symm
      subst this; simp
    · have : ¬ m = n := fun h => e2 (by rw [h])
      simp [e2, this]
  · rw [if_neg e]
    have : ¬ m = n := fun h => e (by rw [h])
    simp [this]
theorem held_setZ {Z : List Int} (h : PgB Z) {a : Nat} (ha : a + 1 < 20) (v : Int) (m : Nat) : heldZ (setZ Z a v) m = heldZ Z m := by
  unfold heldZ
  rw [getD_setZ h a (by omega), if_neg (by unfold bitAt; omega), if_neg (by unfold bitAt; omega)]
theorem held_zero (m : Nat) : heldZ (List.replicate 512 0) m = false := by unfold heldZ; rw [zero_getD]; simp
end Go.Proofs.YtpaiadidgokjlaaGreat

/-
  Page 0 as plain bytes, on: what taking, giving back, a root's number leave; which pages are held; what the law's helpers answer.
-/
import Derived.Test.YtpaiadidgokjlaaGreatPi
import Derived.Test.YtpaiadidgokjlaaGreatPPagesModelx7
namespace Go.Proofs.YtpaiadidgokjlaaGreat
open Go.RowKit Go.Proofs.YtpaiadidgokjlaaGreatW.PrintWords Go.Proofs.YtpaiadidgokjlaaGreatW.PrintLast Go.Proofs.YtpaiadidgokjlaaGreatW.PrintMore
open Go.Proofs.YtpaiadidgokjlaaGreat.PPagesModel
set_option linter.unusedVariables false

section
variable {Z : Bytes} {s : Nat}
theorem word_orZ (h : PgB Z) {n : Nat} (h1 : 1 ≤ n) (h2 : n ≤ 3936) {a : Nat} (ha : a + 1 < 20) : wordZ (orZ Z n) a = wordZ Z a := by
  unfold orZ
  exact word_set_ne h _ _ (bitAt_lt h1 h2).2 (by have := (bitAt_lt h1 h2).1; omega) _
theorem word_clrZ (h : PgB Z) {n : Nat} (h1 : 1 ≤ n) (h2 : n ≤ 3936) {a : Nat} (ha : a + 1 < 20) : wordZ (clrZ Z n) a = wordZ Z a := by
  unfold clrZ
  exact word_set_ne h _ _ (bitAt_lt h1 h2).2 (by have := (bitAt_lt h1 h2).1; omega) _
theorem take_range (hZ : GoodZ Z) (hs : Spare Z s) (hroom : wordZ Z 16 < 3936) : 1 ≤ takeN Z s ∧ takeN Z s ≤ 3936 ∧ takeN Z s ≤ wordZ Z 16 + 1 := by
  have h0 := (wordZ_nn hZ.pg 16).1
  unfold takeN
  by_cases e : s = 0
  · rw [if_pos e]; omega
  · rw [if_neg e]
    have := hs.pos e
    omega
theorem take_good (hZ : GoodZ Z) (hs : Spare Z s) (hroom : wordZ Z 16 < 3936) : GoodZ (takeZ Z s) ∧ wordZ (takeZ Z s) 16 = (if s = 0 then wordZ Z 16 + 1 else wordZ Z 16) ∧ (∀ a, a + 1 < 16 → wordZ (takeZ Z s) a = wordZ Z a) ∧
    ∀ n : Nat, 1 ≤ n → heldZ (takeZ Z s) n = (decide ((n : Int) = takeN Z s) || heldZ Z n) := by
  have h0 := (wordZ_nn hZ.pg 16).1
  have htop := hZ.top
  unfold takeZ takeN
  by_cases e : s = 0
  · simp only [if_pos e]
    obtain ⟨m, hm⟩ : ∃ m : Nat, wordZ Z 16 + 1 = m := ⟨(wordZ Z 16 + 1).toNat, by omega⟩
    rw [hm, Int.toNat_natCast]
    have hp := hZ.pg.setZ 16 (by omega) (m : Int)
    have e16 : wordZ (orZ (setZ Z 16 m) m) 16 = m := by
      rw [word_orZ hp (by omega) (by omega) (by omega), word_setZ hZ.pg 16 (by omega) (by omega) (by omega)]
    refine ⟨⟨hp.orZ (by omega) (by omega), ?_, by rw [e16]; omega⟩, e16, fun a ha => ?_, fun n hn => ?_⟩
    · rw [word_orZ hp (by omega) (by omega) (by omega), word_setZ_ne hZ.pg 16 18 (by omega) (by omega), hZ.first]
    · rw [word_orZ hp (by omega) (by omega) (by omega), word_setZ_ne hZ.pg 16 a (by omega) (by omega)]
    · rw [held_orZ hp (by omega) (by omega) hn, held_setZ hZ.pg (by omega)]
      congr 1
      exact decide_eq_decide.2 ⟨fun h => by omega, fun h => by omega⟩
  · simp only [if_neg e]
    have := hs.pos e
    refine ⟨⟨hZ.pg.orZ (by omega) (by omega), by rw [word_orZ hZ.pg (by omega) (by omega) (by omega), hZ.first], by rw [word_orZ hZ.pg (by omega) (by omega) (by omega)]; exact htop⟩, word_orZ hZ.pg (by omega) (by omega) (by omega), fun a ha => word_orZ hZ.pg (by omega) (by omega) (by omega), fun n hn => ?_⟩
    rw [held_orZ hZ.pg (by omega) (by omega) hn]
    congr 1
    exact decide_eq_decide.2 ⟨fun h => by omega, fun h => by omega⟩
/-- behind Alloc that page is held, which was not -/
theorem take_held (hZ : GoodZ Z) (hs : Spare Z s) (hroom : wordZ Z 16 < 3936) (m : Int) : HeldP (takeZ Z s) m ↔ m = takeN Z s ∨ HeldP Z m := by
  obtain ⟨hg, ht, _, hh⟩ := take_good hZ hs hroom
  have hr := take_range hZ hs hroom
  have h0 := (wordZ_nn hZ.pg 16).1
  unfold HeldP
  rw [ht]
  constructor
  · rintro ⟨h1, h2, h3⟩
    rw [hh m.toNat (by omega)] at h3
    by_cases e : m = takeN Z s
    · exact .inl e
    · right
      rw [decide_eq_false (by omega), Bool.false_or] at h3
      refine ⟨h1, ?_, h3⟩
      by_cases e0 : s = 0
      · rw [if_pos e0] at h2
        have : takeN Z s = wordZ Z 16 + 1 := by unfold takeN; rw [if_pos e0]
        omega
      · rw [if_neg e0] at h2; exact h2
  · rintro (rfl | ⟨h1, h2, h3⟩)
    · refine ⟨hr.1, ?_, ?_⟩
      · unfold takeN
        split
        · omega
        · rename_i e; exact (hs.pos e).1
      · rw [hh _ (by omega), decide_eq_true (by omega)]; rfl
    · refine ⟨h1, by split <;> omega, ?_⟩
      rw [hh _ (by omega), h3, Bool.or_true]
theorem take_fresh (hZ : GoodZ Z) (hs : Spare Z s) (hroom : wordZ Z 16 < 3936) : ¬ HeldP Z (takeN Z s) := by
  unfold HeldP takeN
  rintro ⟨h1, h2, h3⟩
  split at h1
  · rename_i e; rw [if_pos e] at h2; omega
  · rename_i e
    have := (hs.pos e).2.2
    rw [if_neg e, Int.toNat_natCast, this] at h3
    cases h3
/-- no page below is spare: all up to the top are held when a new one comes -/
theorem take_new (hZ : GoodZ Z) (hs : Spare Z s) (e : s = 0) (m : Int) (h1 : 1 ≤ m) (h2 : m ≤ wordZ Z 16) : HeldP Z m := by
  have htop := hZ.top
  refine ⟨h1, h2, ?_⟩
  exact hs.zero e m.toNat (by omega) (by omega) (by omega)
theorem clr_good (hZ : GoodZ Z) {n : Nat} (h1 : 1 ≤ n) (h2 : n ≤ 3936) : GoodZ (clrZ Z n) ∧ wordZ (clrZ Z n) 16 = wordZ Z 16 ∧ (∀ a, a + 1 < 16 → wordZ (clrZ Z n) a = wordZ Z a) ∧ ∀ m : Int, HeldP (clrZ Z n) m ↔ m ≠ n ∧ HeldP Z m := by
  have e16 := word_clrZ hZ.pg h1 h2 (a := 16) (by omega)
  refine ⟨⟨hZ.pg.clrZ h1 h2, by rw [word_clrZ hZ.pg h1 h2 (by omega), hZ.first], by rw [e16]; exact hZ.top⟩, e16, fun a ha => word_clrZ hZ.pg h1 h2 (by omega), fun m => ?_⟩
  unfold HeldP
  rw [e16]
  constructor
  · rintro ⟨a, b, c⟩
    rw [held_clrZ hZ.pg h1 h2 (by omega)] at c
    simp only [Bool.and_eq_true, Bool.not_eq_true', decide_eq_false_iff_not] at c
    exact ⟨by omega, a, b, c.2⟩
  · rintro ⟨d, a, b, c⟩
    refine ⟨a, b, ?_⟩
    rw [held_clrZ hZ.pg h1 h2 (by omega), c, Bool.and_true]
    simp
    omega
theorem root_good (hZ : GoodZ Z) {i : Nat} (hi : i < 8) {v : Int} (h0 : 0 ≤ v) (h1 : v < 4096) : GoodZ (setZ Z (2 * i) v) ∧ wordZ (setZ Z (2 * i) v) 16 = wordZ Z 16 ∧ (∀ j, j < 8 → wordZ (setZ Z (2 * i) v) (2 * j) = if j = i then v else wordZ Z (2 * j)) ∧ ∀ m : Int, HeldP (setZ Z (2 * i) v) m ↔ HeldP Z m := by
  have e16 : wordZ (setZ Z (2 * i) v) 16 = wordZ Z 16 := word_setZ_ne hZ.pg _ _ (by omega) (by omega) _
  refine ⟨⟨hZ.pg.setZ _ (by omega) _, by rw [word_setZ_ne hZ.pg _ _ (by omega) (by omega), hZ.first], by rw [e16]; exact hZ.top⟩, e16, fun j hj => ?_, fun m => ?_⟩
  · by_cases e : j = i
    · subst e; rw [if_pos rfl, word_setZ hZ.pg _ (by omega) h0 (by omega)]
    · rw [if_neg e, word_setZ_ne hZ.pg _ _ (by omega) (by omega)]
  · unfold HeldP
    rw [e16, held_setZ hZ.pg (by omega)]
end
theorem GoodZ.zero : GoodZ zeros := ⟨PgB.zero, zero_word 18, by rw [zeros, zero_word]; omega⟩
theorem zero_top : wordZ zeros 16 = 0 := zero_word 16
theorem zero_none (m : Int) : ¬ HeldP zeros m := fun h => by
  have := h.2.2
  rw [zeros, held_zero] at this
  cases this

/-! ### the list of the held pages -/
theorem mem_heldTo (Z : Bytes) (x : Int) : ∀ m : Nat, x ∈ heldTo Z m ↔ 1 ≤ x ∧ x ≤ m ∧ heldZ Z x.toNat = true
  | 0 => by simp [heldTo]; omega
  | m + 1 => by
    unfold heldTo
    rw [List.mem_append, mem_heldTo Z x m]
    by_cases e : x = ((m + 1 : Nat) : Int)
    · subst e
      rw [Int.toNat_natCast]
      constructor
      · rintro (h | h)
        · omega
        · by_cases hh : heldZ Z (m + 1) = true
          · exact ⟨by omega, by omega, hh⟩
          · rw [if_neg hh] at h; cases h
      · rintro ⟨_, _, h⟩
        rw [if_pos h]; simp
    · constructor
      · rintro (h | h)
        · exact ⟨h.1, by omega, h.2.2⟩
        · split at h
          · exact absurd (by simpa using h) e
          · cases h
      · rintro ⟨h1, h2, h3⟩
        exact .inl ⟨h1, by omega, h3⟩
theorem heldTo_sorted (Z : Bytes) : ∀ m : Nat, (heldTo Z m).Pairwise (· < ·)
  | 0 => List.Pairwise.nil
  | m + 1 => by
    unfold heldTo
    rw [List.pairwise_append]
    refine ⟨heldTo_sorted Z m, by split <;> simp, fun a ha b hb => ?_⟩
    have h1 := (mem_heldTo Z a m).1 ha
    split at hb
    · have : b = ((m + 1 : Nat) : Int) := by simpa using hb
      omega
    · cases hb
theorem mem_heldL {Z : Bytes} (h : PgB Z) (x : Int) : x ∈ heldL Z ↔ HeldP Z x := by
  have h0 := (wordZ_nn h 16).1
  unfold heldL HeldP
  rw [mem_heldTo]
  constructor
  · rintro ⟨a, b, c⟩; exact ⟨a, by omega, c⟩
  · rintro ⟨a, b, c⟩; exact ⟨a, by omega, c⟩
theorem heldL_sorted (Z : Bytes) : (heldL Z).Pairwise (· < ·) := heldTo_sorted Z _
/-- two rising lists of the same numbers are one -/
theorem rising_eq : ∀ {L L' : List Int}, L.Pairwise (· < ·) → L'.Pairwise (· < ·) → (∀ x, x ∈ L ↔ x ∈ L') → L = L'
  | [], [], _, _, _ => rfl
  | [], y :: ys, _, _, h => by have := (h y).2 (by simp); cases this
  | x :: xs, [], _, _, h => by have := (h x).1 (by simp); cases this
  | x :: xs, y :: ys, h1, h2, h => by
    obtain ⟨a1, a2⟩ := List.pairwise_cons.1 h1
    obtain ⟨b1, b2⟩ := List.pairwise_cons.1 h2
    have hx := (h x).1 (by simp)
    have hy := (h y).2 (by simp)
    have e : x = y := by
      rcases List.mem_cons.1 hx with hx | hx
      · exact hx
      · rcases List.mem_cons.1 hy with hy | hy
        · exact hy.symm
        · have := a1 y hy; have := b1 x hx; omega
    subst e
    rw [rising_eq a2 b2 (fun z => ?_)]
    constructor
    · intro hz
      rcases List.mem_cons.1 ((h z).1 (by simp [hz])) with e | h'
      · subst e; have := a1 z hz; omega
      · exact h'
    · intro hz
      rcases List.mem_cons.1 ((h z).2 (by simp [hz])) with e | h'
      · subst e; have := b1 z hz; omega
      · exact h'
theorem heldL_eq {Z : Bytes} (h : PgB Z) {L : List Int} (hL : L.Pairwise (· < ·)) (hm : ∀ x, x ∈ L ↔ HeldP Z x) : heldL Z = L := rising_eq (heldL_sorted Z) hL (fun x => by rw [mem_heldL h, hm])

/-! ### the helpers -/
theorem rd_at (l : List Int) (i : Nat) : rd l (i : Int) = l.getD i 0 := by simp [rd]
theorem eqb_l (a b : List Int) (hl : a.length = b.length) (hb : a.length < 4611686018427387904) : ∀ (k i : Nat), i ≤ a.length → a.length < i + k → (∀ j, j < i → a.getD j 0 = b.getD j 0) → cadastreref0_EqBytes.l0 k a b i = some (decide (a = b))
  | 0, i, h1, h2, h3 => by omega
  | k + 1, i, h1, h2, h3 => by
    unfold cadastreref0_EqBytes.l0
    by_cases hc : i < a.length
    · rw [if_pos (by omega), if_pos (by omega), if_pos (by omega), rd_at, rd_at]
      by_cases e : a.getD i 0 = b.getD i 0
      · rw [if_pos e, wrap64_small (by omega) (by omega)]
        exact eqb_l a b hl hb k (i + 1) (by omega) (by omega) (fun j hj => by
          by_cases ej : j = i
          · subst ej; exact e
          · exact h3 j (by omega))
      · rw [if_neg e, decide_eq_false (fun h => e (by rw [h]))]
    · rw [if_neg (by omega), decide_eq_true]
      apply List.ext_getElem hl
      intro j h4 h5
      have := h3 j (by omega)
      rwa [List.getD_eq_getElem?_getD, List.getD_eq_getElem?_getD, List.getElem?_eq_getElem h4, List.getElem?_eq_getElem h5] at this
theorem eqb_f (a b : List Int) (hb : a.length < 4611686018427387904) : cadastreref0_EqBytes.f (a.length + 1) a b = some (decide (a = b)) := by
  unfold cadastreref0_EqBytes.f
  by_cases hl : a.length = b.length
  · rw [if_pos (by omega)]
    exact eqb_l a b hl hb _ 0 (by omega) (by omega) (fun j hj => by omega)
  · rw [if_neg (by omega), decide_eq_false (fun h => hl (by rw [h]))]
theorem eqn_l (a b : List Int) (hl : a.length = b.length) (hb : a.length < 4611686018427387904) : ∀ (k i : Nat), i ≤ a.length → a.length < i + k → (∀ j, j < i → a.getD j 0 = b.getD j 0) → cadastreref0_EqNumbers.l0 k a b i = some (decide (a = b))
  | 0, i, h1, h2, h3 => by omega
  | k + 1, i, h1, h2, h3 => by
    unfold cadastreref0_EqNumbers.l0
    by_cases hc : i < a.length
    · rw [if_pos (by omega), if_pos (by omega), if_pos (by omega), rd_at, rd_at]
      by_cases e : a.getD i 0 = b.getD i 0
      · rw [if_pos e, wrap64_small (by omega) (by omega)]
        exact eqn_l a b hl hb k (i + 1) (by omega) (by omega) (fun j hj => by
          by_cases ej : j = i
          · subst ej; exact e
          · exact h3 j (by omega))
      · rw [if_neg e, decide_eq_false (fun h => e (by rw [h]))]
    · rw [if_neg (by omega), decide_eq_true]
      apply List.ext_getElem hl
      intro j h4 h5
      have := h3 j (by omega)
      rwa [List.getD_eq_getElem?_getD, List.getD_eq_getElem?_getD, List.getElem?_eq_getElem h4, List.getElem?_eq_getElem h5] at this
theorem eqn_f (a b : List Int) (hb : a.length < 4611686018427387904) : cadastreref0_EqNumbers.f (a.length + 1) a b = some (decide (a = b)) := by
  unfold cadastreref0_EqNumbers.f
  by_cases hl : a.length = b.length
  · rw [if_pos (by omega)]
    exact eqn_l a b hl hb _ 0 (by omega) (by omega) (fun j hj => by omega)
  · rw [if_neg (by omega), decide_eq_false (fun h => hl (by rw [h]))]
/-- EqNumbers, EqBytes -/
theorem eqnumbers_any {w : World} {A A' : Option Addr} {n c n' c' : Nat} {a b : List Int} (ha : (Kd.int .i64).C w A n a) (hc : n ≤ c) (hb : (Kd.int .i64).C w A' n' b) (hc' : n' ≤ c') (hs : n < 4611686018427387904) :
    Calls Tryz.prog 25 #[.slice A n c, .slice A' n' c'] w fun e w' => e = .returned (.bool (decide (a = b))) ∧ ∃ m, w' = w.drewN m := by
  obtain rfl : a.length = n := ha.1
  obtain rfl : b.length = n' := hb.1
  refine (cadastreref0_EqNumbers.calls _ A c a A' c' b _ w ha hc hb hc' (eqn_f a b hs)).mono ?_
  rintro e w' ⟨rfl, ⟨m, rfl⟩⟩
  exact ⟨rfl, m, rfl⟩
theorem eqbytes_any {w : World} {A A' : Option Addr} {n c n' c' : Nat} {a b : List Int} (ha : (Kd.int .u8).C w A n a) (hc : n ≤ c) (hb : (Kd.int .u8).C w A' n' b) (hc' : n' ≤ c') (hs : n < 4611686018427387904) :
    Calls Tryz.prog 22 #[.slice A n c, .slice A' n' c'] w fun e w' => e = .returned (.bool (decide (a = b))) ∧ ∃ m, w' = w.drewN m := by
  obtain rfl : a.length = n := ha.1
  obtain rfl : b.length = n' := hb.1
  refine (cadastreref0_EqBytes.calls _ A c a A' c' b _ w ha hc hb hc' (eqb_f a b hs)).mono ?_
  rintro e w' ⟨rfl, ⟨m, rfl⟩⟩
  exact ⟨rfl, m, rfl⟩
theorem page_l (a : Int) : ∀ (k i : Nat) (l : List Int), l.length = 512 → i ≤ 512 → 512 < i + k → ∃ r, cadastrelaw13_page.l0 k a l i = some r ∧ r.length = 512
  | 0, i, l, h1, h2, h3 => by omega
  | k + 1, i, l, h1, h2, h3 => by
    unfold cadastrelaw13_page.l0
    by_cases hc : i < 512
    · rw [if_pos (by omega), if_pos (by omega), wrap64_small (x := (i : Int) + 1) (by omega) (by omega)]
      exact page_l a k (i + 1) _ (by rw [List.length_set]; exact h1) (by omega) (by omega)
    · rw [if_neg (by omega)]
      exact ⟨l, rfl, h1⟩
theorem page_f (a : Int) : ∃ r, cadastrelaw13_page.f 513 a = some r ∧ r.length = 512 := by
  unfold cadastrelaw13_page.f
  rw [if_pos (by decide)]
  exact page_l a 513 0 _ (by rw [List.length_replicate]) (by omega) (by omega)
/-- the law's page of a byte -/
def pageB (a : Int) : Bytes := (cadastrelaw13_page.f 513 a).getD []
theorem pageB_length (a : Int) : (pageB a).length = 512 := by
  obtain ⟨r, h1, h2⟩ := page_f a
  unfold pageB
  rw [h1]; exact h2
theorem lpage_any (a : Int) (w : World) : Calls Tryz.prog 20 #[.int .i64 a] w fun e w' => ∃ v, e = .returned v ∧ (Kd.int .u8).R 5 w' w.heap.size (fun k => w.heap.size ≤ k) v (pageB a) ∧ Below w.heap.size w w' := by
  obtain ⟨r, h1, h2⟩ := page_f a
  have e : pageB a = r := by unfold pageB; rw [h1]; rfl
  rw [e]
  refine (cadastrelaw13_page.calls 513 a r w h1).mono ?_
  rintro e w' ⟨v, rfl, hv, hb⟩
  exact ⟨v, rfl, Kd.R_of_own (Kd.own_of_R hv) (fun k hk => own_base (Kd.own_of_R hv) k hk), hb⟩
theorem spoil_l : ∀ (k i : Nat) (l : List Int), l.length ≤ 1000000 → i ≤ l.length → l.length < i + k → cadastrelaw0_Bytes.l0 k l i = some ()
  | 0, i, l, h1, h2, h3 => by omega
  | k + 1, i, l, h1, h2, h3 => by
    unfold cadastrelaw0_Bytes.l0
    by_cases hc : i < l.length
    · rw [if_pos (by omega), if_pos (by omega), wrap64_small (x := (i : Int) + 1) (by omega) (by omega)]
      exact spoil_l k (i + 1) _ (by rw [List.length_set]; exact h1) (by rw [List.length_set]; omega) (by rw [List.length_set]; omega)
    · rw [if_neg (by omega), if_pos (by omega)]
theorem spoiln_l : ∀ (k i : Nat) (l : List Int), l.length ≤ 1000000 → i ≤ l.length → l.length < i + k → cadastrelaw0_Numbers.l0 k l i = some ()
  | 0, i, l, h1, h2, h3 => by omega
  | k + 1, i, l, h1, h2, h3 => by
    unfold cadastrelaw0_Numbers.l0
    by_cases hc : i < l.length
    · rw [if_pos (by omega), if_pos (by omega), wrap64_small (x := (i : Int) + 1) (by omega) (by omega)]
      exact spoiln_l k (i + 1) _ (by rw [List.length_set]; exact h1) (by rw [List.length_set]; omega) (by rw [List.length_set]; omega)
    · rw [if_neg (by omega), if_pos (by omega)]
/-- Bytes, Numbers: a row of one's own is spoilt, and nothing else -/
theorem bytes_any {w0 w : World} {v : Value} {l : List Int} {P0 : Nat → Prop} (hB : Below w0.heap.size w0 w) (hR : (Kd.int .u8).R 5 w w0.heap.size P0 v l) (hl : l.length ≤ 1000000) :
    Calls Tryz.prog 83 #[v] w fun e w' => e = .returned (.tuple #[]) ∧ Below w0.heap.size w0 w' ∧ Kept w w' P0 := by
  exact cadastrelaw0_Bytes.calls (l.length + 1) P0 v l w0 w hB hR (spoil_l _ 0 l hl (by omega) (by omega))
theorem numbers_any {w0 w : World} {v : Value} {l : List Int} {P0 : Nat → Prop} (hB : Below w0.heap.size w0 w) (hR : (Kd.int .i64).R 3 w w0.heap.size P0 v l) (hl : l.length ≤ 1000000) :
    Calls Tryz.prog 35 #[v] w fun e w' => e = .returned (.tuple #[]) ∧ Below w0.heap.size w0 w' ∧ Kept w w' P0 := by
  exact cadastrelaw0_Numbers.calls (l.length + 1) P0 v l w0 w hB hR (spoiln_l _ 0 l hl (by omega) (by omega))
end Go.Proofs.YtpaiadidgokjlaaGreat

/-
  Plain laws of the printed functions that the three statements reach, and of what a crash finds.
-/
import Derived.Test.YtgpniaplpibhfaaWakes
import Derived.Test.YtgpniaplpibhfaaHeavy
namespace Go.Proofs.Ytgpniaplpibhfaa
open Go.RowKit Go.Maps Go.Proofs.YtgpniaplpibhfaaW.PrintWords Go.Proofs.YtgpniaplpibhfaaW.PrintLast Go.Proofs.YtgpniaplpibhfaaW.PrintMore
open Go.Proofs.Ytgpniaplpibhfaa.PDiskSafe
set_option linter.unusedVariables false
set_option linter.unusedSimpArgs false

theorem rd_nat (x : Bytes) (i : Nat) (h : i < x.length) : rd x (i : Int) = x[i] := by unfold rd; rw [Int.toNat_natCast, List.getD_eq_getElem?_getD, List.getElem?_eq_getElem h]; rfl
theorem rd50_nat (x : List S50) (i : Nat) (h : i < x.length) : rd_T50 x (i : Int) = x[i] := by unfold rd_T50; rw [Int.toNat_natCast, List.getD_eq_getElem?_getD, List.getElem?_eq_getElem h]; rfl
theorem rd33_nat (x : List S33) (i : Nat) (h : i < x.length) : rd_T33 x (i : Int) = x[i] := by unfold rd_T33; rw [Int.toNat_natCast, List.getD_eq_getElem?_getD, List.getElem?_eq_getElem h]; rfl
theorem wrap_succ (i : Nat) (h : i ≤ 1000000000000) : wrap64 ((i : Int) + 1) = ((i + 1 : Nat) : Int) := by unfold wrap64; omega

/-- a copy of bytes is the bytes -/
theorem copybytes_l0 (x : Bytes) (hb : x.length ≤ 1000000000) (d : Nat) : ∀ (k i : Nat) (acc : Bytes), x.length - i = d → i ≤ x.length → d < k → acc = x.take i →
    cadastreref0_CopyBytes.l0 k x acc i = some x := by
  induction d with
  | zero =>
    intro k i acc hd hi hk ha
    obtain ⟨k, rfl⟩ : ∃ j, k = j + 1 := ⟨k - 1, by omega⟩
    unfold cadastreref0_CopyBytes.l0
    rw [if_neg (by omega), ha, List.take_of_length_le (by omega)]
  | succ d ih =>
    intro k i acc hd hi hk ha
    obtain ⟨k, rfl⟩ : ∃ j, k = j + 1 := ⟨k - 1, by omega⟩
    unfold cadastreref0_CopyBytes.l0
    have hl : acc.length ≤ 1000000000 := by rw [ha, List.length_take]; omega
    rw [if_pos (by omega), if_pos (by omega), if_pos (by omega), wrap_succ i (by omega), rd_nat x i (by omega)]
    exact ih k (i + 1) _ (by omega) (by omega) (by omega) (by rw [ha, List.take_succ_eq_append_getElem (by omega)])
theorem copybytes_f (x : Bytes) (hb : x.length ≤ 1000000000) {k : Nat} (hk : x.length < k) : cadastreref0_CopyBytes.f k x = some x :=
  copybytes_l0 x hb x.length k 0 [] (by omega) (by omega) (by omega) rfl
theorem eqbytes_self (x : Bytes) (hb : x.length ≤ 1000000000) {k : Nat} (hk : x.length < k) : cadastreref0_EqBytes.f k x x = some true := by
  unfold cadastreref0_EqBytes.f
  rw [if_pos rfl]
  have := eqbytes_l0 x x rfl (by omega) x.length k 0 (by omega) (by omega) (by omega)
  simpa using this
theorem eqfile_self (n : ByteArray) (x : Bytes) (hb : x.length ≤ 1000000000) {k : Nat} (hk : x.length < k) : cadastreref0_EqFile.f k n x n x = some true := by
  unfold cadastreref0_EqFile.f
  rw [if_pos rfl, eqbytes_self x hb hk]; rfl
theorem eqfiles_l0 (x : List S50) {N : Nat} (hN : N ≤ 1000000000) (hx : ∀ z ∈ x, z.f1.length ≤ N) (hl : x.length ≤ 1000000000) (d : Nat) : ∀ (k i : Nat), x.length - i = d → i ≤ x.length → d + N + 1 < k →
    cadastreref0_EqFiles.l0 k x x i = some true := by
  induction d with
  | zero =>
    intro k i hd hi hk
    obtain ⟨k, rfl⟩ : ∃ j, k = j + 1 := ⟨k - 1, by omega⟩
    unfold cadastreref0_EqFiles.l0
    rw [if_neg (by omega)]
  | succ d ih =>
    intro k i hd hi hk
    obtain ⟨k, rfl⟩ : ∃ j, k = j + 1 := ⟨k - 1, by omega⟩
    unfold cadastreref0_EqFiles.l0
    have hil : i < x.length := by omega
    have hz := hx _ (List.getElem_mem hil)
    rw [if_pos (by omega), if_pos (by omega), if_pos (by omega), wrap_succ i (by omega), rd50_nat x i hil, eqfile_self _ _ (by omega) (by omega)]
    exact ih k (i + 1) (by omega) (by omega) (by omega)
theorem eqfiles_self (x : List S50) {N : Nat} (hN : N ≤ 1000000000) (hx : ∀ z ∈ x, z.f1.length ≤ N) (hl : x.length ≤ 1000000000) : cadastreref0_EqFiles.f (x.length + N + 2) x x = some true := by
  unfold cadastreref0_EqFiles.f
  rw [if_pos rfl]
  exact eqfiles_l0 x hN hx hl x.length _ 0 (by omega) (by omega) (by omega)
theorem copyfile_f (n : ByteArray) (x : Bytes) (hb : x.length ≤ 1000000000) {k : Nat} (hk : x.length < k) : cadastreref0_CopyFile.f k n x = some (n, x) := by
  unfold cadastreref0_CopyFile.f
  rw [copybytes_f x hb hk]; rfl
theorem copyfiles_l0 (x : List S50) {N : Nat} (hN : N ≤ 1000000000) (hx : ∀ z ∈ x, z.f1.length ≤ N) (hl : x.length ≤ 1000000000) (d : Nat) : ∀ (k i : Nat) (acc : List S50), x.length - i = d → i ≤ x.length → d + N + 1 < k → acc = x.take i →
    cadastreref0_CopyFiles.l0 k x acc i = some x := by
  induction d with
  | zero =>
    intro k i acc hd hi hk ha
    obtain ⟨k, rfl⟩ : ∃ j, k = j + 1 := ⟨k - 1, by omega⟩
    unfold cadastreref0_CopyFiles.l0
    rw [if_neg (by omega), ha, List.take_of_length_le (by omega)]
  | succ d ih =>
    intro k i acc hd hi hk ha
    obtain ⟨k, rfl⟩ : ∃ j, k = j + 1 := ⟨k - 1, by omega⟩
    unfold cadastreref0_CopyFiles.l0
    have hil : i < x.length := by omega
    have hz := hx _ (List.getElem_mem hil)
    have hal : acc.length ≤ 1000000000 := by rw [ha, List.length_take]; omega
    rw [if_pos (by omega), if_pos (by omega), rd50_nat x i hil, copyfile_f _ _ (by omega) (by omega)]
    simp only [Option.bind_some]
    rw [if_pos (by omega), wrap_succ i (by omega)]
    exact ih k (i + 1) _ (by omega) (by omega) (by omega) (by rw [ha, List.take_succ_eq_append_getElem hil])
theorem copyfiles_f (x : List S50) {N : Nat} (hN : N ≤ 1000000000) (hx : ∀ z ∈ x, z.f1.length ≤ N) (hl : x.length ≤ 1000000000) : cadastreref0_CopyFiles.f (x.length + N + 2) x = some x :=
  copyfiles_l0 x hN hx hl x.length _ 0 [] (by omega) (by omega) (by omega) rfl

/-! what a crash finds -/
theorem modR_zero (n : Int) (h : n ≠ 0) (h2 : wrap64 n = n) : modR 0 n = 0 := by
  unfold modR disk_modulo.f
  rw [if_neg h]
  simp [h2]
theorem secN_zero : secN 0 = 0 := by
  unfold secN
  rw [modR_zero 3 (by decide) (by unfold wrap64; omega), if_neg (by decide), if_neg (by decide)]
theorem splice_nil (cur : Bytes) (k : Nat) : splice cur k [] = cur := by
  unfold splice; simp
theorem sector_nil (seen cur : Bytes) (k stop : Nat) (hk : k ≤ stop) : sector seen cur k stop [] = (cur, []) := by
  unfold sector
  split
  · rfl
  · have : (nextP []) = (0, []) := rfl
    rw [this]
    simp only [secN_zero]
    rw [show min (k + 0) stop - k = 0 from by omega]
    simp [splice_nil]
theorem secs_nil (seen : Bytes) (e : Nat) (d : Nat) : ∀ (k : Nat) (cur : Bytes), e - k ≤ d → secs seen e k cur [] = (cur, []) := by
  induction d with
  | zero => intro k cur h; rw [secs, if_neg (by omega)]
  | succ d ih =>
    intro k cur h
    rw [secs]
    split
    · rw [sector_nil _ _ _ _ (by omega)]
      exact ih _ _ (by omega)
    · rfl
theorem padTo_take (l : Bytes) (n : Nat) : (padTo l n).take l.length = l := by unfold padTo; rw [List.take_append_of_le_length (Nat.le_refl _), List.take_length]
theorem foundF_nil (f : Bytes × Bytes) : (foundF f []).1 = f.1 ∧ (foundF f []).2 = [] := by
  have hlen : (lenF f []).1 = f.1.length ∧ (lenF f []).2 = [] := by
    unfold lenF
    split
    · exact ⟨rfl, rfl⟩
    · have : (nextP []) = (0, []) := rfl
      rw [this]
      have h2 := modR_zero 2 (by decide) (by unfold wrap64; omega)
      exact ⟨by simp only [h2]; rw [if_neg (by decide)], rfl⟩
  unfold foundF
  simp only [hlen.2, hlen.1]
  rw [secs_nil _ _ _ _ _ (Nat.le_refl _)]
  exact ⟨padTo_take _ _, rfl⟩
theorem sector_same (cur : Bytes) (k stop : Nat) (ps : List Int) : sector cur cur k stop ps = (cur, ps) := by
  unfold sector; rw [if_pos rfl]
theorem secs_same (cur : Bytes) (ps : List Int) (e d : Nat) : ∀ (k : Nat), e - k ≤ d → secs cur e k cur ps = (cur, ps) := by
  induction d with
  | zero => intro k h; rw [secs, if_neg (by omega)]
  | succ d ih =>
    intro k h
    rw [secs]
    split
    · rw [sector_same]; exact ih _ (by omega)
    · rfl
theorem foundF_same (b : Bytes) (ps : List Int) : foundF (b, b) ps = (b, ps) := by
  have hl : lenF (b, b) ps = (b.length, ps) := by unfold lenF; rw [if_pos rfl]
  unfold foundF
  simp only [hl, Nat.max_self]
  rw [secs_same _ _ _ _ _ (Nat.le_refl _)]
  rw [padTo_take]
theorem splice_length_le (l : Bytes) (k : Nat) (b : Bytes) (h : k + b.length ≤ l.length) : (splice l k b).length = l.length := by
  unfold splice; simp; omega
theorem sector_length (seen cur : Bytes) (k stop : Nat) (ps : List Int) (hk : k ≤ stop) (hs : stop ≤ cur.length) : (sector seen cur k stop ps).1.length = cur.length := by
  unfold sector
  split
  · rfl
  · apply splice_length_le
    have := List.length_take_le (min (k + secN (nextP ps).1) stop - k) (seen.drop k)
    omega
theorem secs_length (seen : Bytes) (e d : Nat) : ∀ (k : Nat) (cur : Bytes) (ps : List Int), e - k ≤ d → e ≤ cur.length → (secs seen e k cur ps).1.length = cur.length := by
  induction d with
  | zero => intro k cur ps h h2; rw [secs, if_neg (by omega)]
  | succ d ih =>
    intro k cur ps h h2
    rw [secs]
    split
    · have hl := sector_length seen cur k (min (k + 64) e) ps (by omega) (by omega)
      rw [ih _ _ _ (by omega) (by rw [hl]; exact h2), hl]
    · rfl
theorem foundF_length (f : Bytes × Bytes) (ps : List Int) : (foundF f ps).1.length ≤ max f.1.length f.2.length := by
  unfold foundF
  simp only [List.length_take]
  have := secs_length (padTo f.2 (max f.1.length f.2.length)) (max f.1.length f.2.length) _ 0 (padTo f.1 (max f.1.length f.2.length)) (lenF f ps).2 (Nat.le_refl _) (by rw [padTo_length]; omega)
  rw [this, padTo_length]
  omega

/-- heavy's walk in one word -/
theorem heavy_any {W : World} {A0 A1 A2 : Option Addr} {c0 c1 c2 : Nat} {F : List S50} {T : List S39} {S : List S33} (h0 : Kd.C k50 W A0 F.length F) (hc0 : F.length ≤ c0) (h1 : Kd.C k39 W A1 T.length T) (hc1 : T.length ≤ c1) (h2 : Kd.C k33 W A2 S.length S) (hc2 : S.length ≤ c2)
    (hF : ∀ j : Nat, j < F.length → (rd_T50 F j).f1.length ≤ NB) (hS : ∀ j : Nat, j < S.length → (rd_T33 S j).f4.length ≤ NB ∧ (rd_T33 S j).f5.length ≤ NB) :
    Calls Try.prog 6 #[.agg #[.slice A0 F.length c0, .slice A1 T.length c1, .slice A2 S.length c2]] W fun e w' => ∃ r, e = .returned (.bool r) ∧ (r = false → Light F T S) ∧ Below W.heap.size W w' := by
  obtain ⟨r, hr, hp⟩ := heavy_some (T := T) hF hS
  exact (cadastrelaw9_heavy.calls 200 A0 c0 F A1 c1 T A2 c2 S r W h0 hc0 h1 hc1 h2 hc2 hr).mono fun e w' ⟨he, hw⟩ => ⟨r, he, hp, hw⟩

/-- what comes in -/
structure In (W : World) (A0 : Option Addr) (c0 : Nat) (F : List S50) (A1 : Option Addr) (c1 : Nat) (T : List S39) (A2 : Option Addr) (c2 : Nat) (S : List S33) : Prop where
  h0 : Kd.C k50 W A0 F.length F
  hc0 : F.length ≤ c0
  h1 : Kd.C k39 W A1 T.length T
  hc1 : T.length ≤ c1
  h2 : Kd.C k33 W A2 S.length S
  hc2 : S.length ≤ c2
  hF : ∀ j : Nat, j < F.length → (rd_T50 F j).f1.length ≤ NB
  hS : ∀ j : Nat, j < S.length → (rd_T33 S j).f4.length ≤ NB ∧ (rd_T33 S j).f5.length ≤ NB
  hN : ∀ j : Nat, j < F.length → (rd_T50 F j).f0.size ≤ maxLen
  hA : ∀ j : Nat, j < S.length → (Lit.int .i64 (rd_T33 S j).f0).wf = true ∧ (Lit.int .i64 (rd_T33 S j).f2).wf = true ∧ (Lit.int .i64 (rd_T33 S j).f3).wf = true ∧ (rd_T33 S j).f1.size ≤ maxLen ∧ ∀ x ∈ (rd_T33 S j).f5, (Lit.int .i64 x).wf = true
theorem In.below {W W' : World} {A0 : Option Addr} {c0 : Nat} {F : List S50} {A1 : Option Addr} {c1 : Nat} {T : List S39} {A2 : Option Addr} {c2 : Nat} {S : List S33} (h : In W A0 c0 F A1 c1 T A2 c2 S) (hb : Below W.heap.size W W') : In W' A0 c0 F A1 c1 T A2 c2 S :=
  ⟨Kd.C_below h.h0 hb, h.hc0, Kd.C_below h.h1 hb, h.hc1, Kd.C_below h.h2 hb, h.hc2, h.hF, h.hS, h.hN, h.hA⟩
theorem bcell {W w1 : World} (hb : Below W.heap.size W w1) : (∀ b o, b < W.heap.size → w1.cell? ⟨b, o, none⟩ = W.cell? ⟨b, o, none⟩) ∧ (∀ b o, b < W.heap.size → w1.frozen? ⟨b, o, none⟩ = W.frozen? ⟨b, o, none⟩) :=
  ⟨fun b o h => hb.cell (p := ⟨b, o, none⟩) h, fun b o h => hb.frozen (p := ⟨b, o, none⟩) h⟩
theorem In.heavy {W : World} {A0 : Option Addr} {c0 : Nat} {F : List S50} {A1 : Option Addr} {c1 : Nat} {T : List S39} {A2 : Option Addr} {c2 : Nat} {S : List S33} (h : In W A0 c0 F A1 c1 T A2 c2 S) :
    Calls Try.prog 6 #[.agg #[.slice A0 F.length c0, .slice A1 T.length c1, .slice A2 S.length c2]] W fun e w' => ∃ r, e = .returned (.bool r) ∧ (r = false → Light F T S) ∧ Below W.heap.size W w' :=
  heavy_any h.h0 h.hc0 h.h1 h.hc1 h.h2 h.hc2 h.hF h.hS
end Go.Proofs.Ytgpniaplpibhfaa

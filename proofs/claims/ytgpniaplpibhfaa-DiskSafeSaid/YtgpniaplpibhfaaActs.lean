/-
  What a call of a stroking method leaves, in one word; how many files there are behind it.
-/
import Derived.Test.YtgpniaplpibhfaaMay
import Derived.WalkArith
namespace Go.Proofs.Ytgpniaplpibhfaa
open Go.RowKit Go.Maps Go.Proofs.YtgpniaplpibhfaaW.PrintWords Go.Proofs.YtgpniaplpibhfaaW.PrintLast Go.Proofs.YtgpniaplpibhfaaW.PrintMore
open Go.Proofs.Ytgpniaplpibhfaa.PDiskSafe
set_option linter.unusedVariables false
set_option linter.unusedSimpArgs false

theorem nodup_le {α : Type} [DecidableEq α] : ∀ {l m : List α}, l.Nodup → (∀ y ∈ l, y ∈ m) → l.length ≤ m.length
  | [], _, _, _ => Nat.zero_le _
  | a :: l, m, hn, hs => by
    have ha : a ∈ m := hs a (List.mem_cons_self)
    obtain ⟨hna, hn'⟩ := List.nodup_cons.1 hn
    have h1 := nodup_le (m := m.erase a) hn' (fun y hy => (List.mem_erase_of_ne (fun e => hna (by rw [← e]; exact hy))).2 (hs y (List.mem_cons_of_mem _ hy)))
    rw [List.length_erase_of_mem ha] at h1
    have : 0 < m.length := List.length_pos_of_mem ha
    simp only [List.length_cons]
    omega
theorem IsL.nodup {fs : Files} {L : List Name} (h : IsL fs L) : L.Nodup := h.1.imp (fun {a b} hab e => by subst e; exact List.lt_irrefl _ hab)
theorem card_insert {fs : Files} {x : Name} {v : Bytes × Bytes} {L L' : List Name} (hL : IsL fs L) (hL' : IsL (setF fs x (some v)) L') : L'.length ≤ L.length + 1 := by
  have := nodup_le (l := L') (m := x :: L) hL'.nodup (fun y hy => by
    have h1 := (hL'.2 y).1 hy
    unfold setF at h1
    by_cases e : y = x
    · subst e; exact List.mem_cons_self
    · rw [if_neg e] at h1
      exact List.mem_cons_of_mem _ ((hL.2 y).2 h1))
  simpa using this
theorem card_set {fs : Files} {x : Name} {v : Bytes × Bytes} {f : Bytes × Bytes} (hx : fs x = some f) {L L' : List Name} (hL : IsL fs L) (hL' : IsL (setF fs x (some v)) L') : L'.length ≤ L.length :=
  nodup_le hL'.nodup (fun y hy => by
    have h1 := (hL'.2 y).1 hy
    unfold setF at h1
    by_cases e : y = x
    · subst e; exact (hL.2 y).2 (by rw [hx]; rfl)
    · rw [if_neg e] at h1
      exact (hL.2 y).2 h1)
theorem card_del {fs : Files} {x : Name} {L L' : List Name} (hL : IsL fs L) (hL' : IsL (setF fs x none) L') : L'.length ≤ L.length :=
  nodup_le hL'.nodup (fun y hy => by
    have h1 := (hL'.2 y).1 hy
    unfold setF at h1
    by_cases e : y = x
    · rw [if_pos e] at h1; cases h1
    · rw [if_neg e] at h1
      exact (hL.2 y).2 h1)

/-- a disk whose power never goes -/
structure Ok (t : List S39) (i : Nat) (M : DM) : Prop where
  off : M.off = false
  tr : M.tr = trOf t
  no3 : ∀ n, trOf t n ≠ 3
  len : ∀ x f, M.fs x = some f → f.1.length ≤ 4194304 ∧ f.2.length ≤ 4194304 ∧ GoodN (strL x)
  cd : card M.fs ≤ 16
  st0 : 0 ≤ M.st
  st1 : M.st ≤ i
theorem Ok.fit {t : List S39} {i : Nat} {M : DM} (h : Ok t i M) (hi : i < 1000000) : Fit M := ⟨fun x f hx => ⟨(h.len x f hx).1, (h.len x f hx).2.1⟩, h.st0, by have := h.st1; omega, h.cd⟩
theorem Ok.up {t : List S39} {i j : Nat} {M : DM} (h : Ok t i M) (hij : i ≤ j) : Ok t j M := ⟨h.off, h.tr, h.no3, h.len, h.cd, h.st0, by have := h.st1; omega⟩
/-- what a stroke of the name x leaves -/
structure Out (t : List S39) (x : Name) (i : Nat) (M : DM) (r : Int) (M' : DM) : Prop where
  how : (r = 1 ∧ M' = M) ∨ (r ≠ 1 ∧ M'.st = M.st + 1 ∧ ((trOf t (M.st + 1) = 1 ∧ r = 9 ∧ M'.fs = M.fs) ∨ (trOf t (M.st + 1) = 2 ∧ r = 10 ∧ M'.fs = M.fs) ∨ (trOf t (M.st + 1) ≠ 1 ∧ trOf t (M.st + 1) ≠ 2 ∧ r ≠ 9)))
  else_ : ∀ y, y ≠ x → M'.fs y = M.fs y
  ok : Ok t (i + 1) M'
theorem Out.bad {t : List S39} {x : Name} {i : Nat} {M : DM} (h : Ok t i M) : Out t x i M 1 M := ⟨.inl ⟨rfl, rfl⟩, fun _ _ => rfl, h.up (Nat.le_succ i)⟩
/-- a stroke -/
theorem Out.stroke {t : List S39} {x : Name} {i : Nat} {M : DM} (h : Ok t i M) (e0 : Int) (fs1 fs2 : Files) (he1 : e0 ≠ 1) (he9 : e0 ≠ 9)
    (h1 : ∀ y, y ≠ x → fs1 y = M.fs y) (h2 : ∀ y, y ≠ x → fs2 y = M.fs y)
    (l1 : ∀ x f, fs1 x = some f → f.1.length ≤ 4194304 ∧ f.2.length ≤ 4194304 ∧ GoodN (strL x)) (l2 : ∀ x f, fs2 x = some f → f.1.length ≤ 4194304 ∧ f.2.length ≤ 4194304 ∧ GoodN (strL x))
    (c1 : (strokeR M e0 fs1 fs2).2.fs = fs1 → card fs1 ≤ 16) (c2 : (strokeR M e0 fs1 fs2).2.fs = fs2 → card fs2 ≤ 16) : Out t x i M (strokeR M e0 fs1 fs2).1 (strokeR M e0 fs1 fs2).2 := by
  have ho : ¬ M.off = true := by rw [h.off]; decide
  have hs0 := h.st0
  have hs1 := h.st1
  have h3 : M.tr (M.st + 1) ≠ 3 := by rw [h.tr]; exact h.no3 _
  unfold strokeR at c1 c2 ⊢
  rw [if_neg ho] at c1 c2 ⊢
  by_cases t1 : M.tr (M.st + 1) = 1
  · rw [if_pos t1]
    exact ⟨.inr ⟨by (show (9 : Int) ≠ 1); decide, rfl, .inl ⟨by rw [← h.tr]; exact t1, rfl, rfl⟩⟩, fun _ _ => rfl, ⟨h.off, h.tr, h.no3, h.len, h.cd, by show 0 ≤ M.st + 1; omega, by show M.st + 1 ≤ _; omega⟩⟩
  · rw [if_neg t1] at c1 c2 ⊢
    by_cases t2 : M.tr (M.st + 1) = 2
    · rw [if_pos t2]
      exact ⟨.inr ⟨by (show (10 : Int) ≠ 1); decide, rfl, .inr (.inl ⟨by rw [← h.tr]; exact t2, rfl, rfl⟩)⟩, fun _ _ => rfl, ⟨h.off, h.tr, h.no3, h.len, h.cd, by show 0 ≤ M.st + 1; omega, by show M.st + 1 ≤ _; omega⟩⟩
    · rw [if_neg t2, if_neg h3] at c1 c2 ⊢
      have hz : trOf t (M.st + 1) ≠ 1 ∧ trOf t (M.st + 1) ≠ 2 := by rw [← h.tr]; exact ⟨t1, t2⟩
      by_cases e : e0 = 0
      · rw [if_pos e] at c1 c2 ⊢
        exact ⟨.inr ⟨by (show (0 : Int) ≠ 1); decide, rfl, .inr (.inr ⟨hz.1, hz.2, by (show (0 : Int) ≠ 9); decide⟩)⟩, h2, ⟨h.off, h.tr, h.no3, l2, c2 rfl, by show 0 ≤ M.st + 1; omega, by show M.st + 1 ≤ _; omega⟩⟩
      · rw [if_neg e] at c1 c2 ⊢
        exact ⟨.inr ⟨he1, rfl, .inr (.inr ⟨hz.1, hz.2, he9⟩)⟩, h1, ⟨h.off, h.tr, h.no3, l1, c1 rfl, by show 0 ≤ M.st + 1; omega, by show M.st + 1 ≤ _; omega⟩⟩
theorem setF_else {fs : Files} {x : Name} {v : Option (Bytes × Bytes)} : ∀ y, y ≠ x → setF fs x v y = fs y := fun y h => by unfold setF; rw [if_neg h]
theorem setF_len {fs : Files} {x : Name} {v : Bytes × Bytes} (h : ∀ x f, fs x = some f → f.1.length ≤ 4194304 ∧ f.2.length ≤ 4194304 ∧ GoodN (strL x)) (hv : v.1.length ≤ 4194304 ∧ v.2.length ≤ 4194304 ∧ GoodN (strL x)) :
    ∀ y f, setF fs x (some v) y = some f → f.1.length ≤ 4194304 ∧ f.2.length ≤ 4194304 ∧ GoodN (strL y) := fun y f hy => by
  unfold setF at hy
  by_cases e : y = x
  · rw [if_pos e] at hy
    obtain rfl := Option.some.inj hy
    rw [e]; exact hv
  · rw [if_neg e] at hy; exact h y f hy
theorem setF_len0 {fs : Files} {x : Name} (h : ∀ x f, fs x = some f → f.1.length ≤ 4194304 ∧ f.2.length ≤ 4194304 ∧ GoodN (strL x)) :
    ∀ y f, setF fs x none y = some f → f.1.length ≤ 4194304 ∧ f.2.length ≤ 4194304 ∧ GoodN (strL y) := fun y f hy => by
  unfold setF at hy
  by_cases e : y = x
  · rw [if_pos e] at hy; cases hy
  · rw [if_neg e] at hy; exact h y f hy
theorem strL_nm' (s : ByteArray) : strL (nm s) = s := by simp [nm, strL]
theorem goodN_len {s : ByteArray} (h : GoodN s) : (nm s).length ≤ 32 := by
  have := h.2.2
  show s.data.toList.length ≤ 32
  rw [Array.length_toList]; exact this
theorem cutTo_le (l : Bytes) (n : Nat) (h : n ≤ 4194304) : (cutTo l n).length ≤ 4194304 := by rw [cutTo_length]; exact h

section
variable {t : List S39} {i : Nat} {M : DM} {w : World} {d : Nat} {ok : Nat → Prop}
theorem out_write {s : ByteArray} {a nb : Nat} {b : Bytes} (h : Ok t i M) (hg : GoodN s) (hbl : b.length = nb) (ha : a + nb ≤ 4194304) {w' : World} {okx : Nat → Prop} (hD : DiskAt w d M ok) (hD' : DiskAt w' d (writeM M (nm s) a b).2 okx) : Out t (nm s) i M (writeM M (nm s) a b).1 (writeM M (nm s) a b).2 := by
  obtain ⟨L, hL⟩ := hD.isL
  obtain ⟨L', hL'⟩ := hD'.isL
  have hc := h.cd
  rw [card_eq hL] at hc
  unfold writeM at hL' ⊢
  cases hx : M.fs (nm s) with
  | some f =>
    simp only [hx] at hL' ⊢
    have hlen := h.len _ _ hx
    have hl := setF_len (v := (f.1, writeB f.2 a b)) (x := nm s) h.len ⟨hlen.1, by rw [writeB_length]; have := hlen.2.1; show max _ _ ≤ _; omega, by rw [strL_nm']; exact hg⟩
    refine Out.stroke h 0 _ _ (by decide) (by decide) setF_else setF_else hl hl (fun e => ?_) (fun e => ?_)
    all_goals
      rw [e] at hL'
      have := card_set hx hL hL'
      rw [card_eq hL']; omega
  | none =>
    simp only [hx] at hL' ⊢
    by_cases hlt : card M.fs < 16
    · simp only [if_pos hlt] at hL' ⊢
      have hl := setF_len (v := (([] : Bytes), writeB [] a b)) (x := nm s) h.len ⟨by simp, by rw [writeB_length]; show max 0 _ ≤ _; omega, by rw [strL_nm']; exact hg⟩
      rw [card_eq hL] at hlt
      refine Out.stroke h 0 _ _ (by decide) (by decide) setF_else setF_else hl hl (fun e => ?_) (fun e => ?_)
      all_goals
        rw [e] at hL'
        have := card_insert hL hL'
        rw [card_eq hL']; omega
    · simp only [if_neg hlt] at hL' ⊢
      exact Out.stroke h 10 _ _ (by decide) (by decide) (fun _ _ => rfl) (fun _ _ => rfl) h.len h.len (fun _ => h.cd) (fun _ => h.cd)
theorem out_trunc {s : ByteArray} {a : Nat} (h : Ok t i M) (hg : GoodN s) (ha : a ≤ 4194304) {w' : World} {okx : Nat → Prop} (hD : DiskAt w d M ok) (hD' : DiskAt w' d (truncM M (nm s) a).2 okx) : Out t (nm s) i M (truncM M (nm s) a).1 (truncM M (nm s) a).2 := by
  obtain ⟨L, hL⟩ := hD.isL
  obtain ⟨L', hL'⟩ := hD'.isL
  have hc := h.cd
  rw [card_eq hL] at hc
  unfold truncM at hL' ⊢
  cases hx : M.fs (nm s) with
  | some f =>
    simp only [hx] at hL' ⊢
    have hlen := h.len _ _ hx
    have hl := setF_len (v := (f.1, cutTo f.2 a)) (x := nm s) h.len ⟨hlen.1, cutTo_le _ _ ha, by rw [strL_nm']; exact hg⟩
    refine Out.stroke h 0 _ _ (by decide) (by decide) setF_else setF_else hl hl (fun e => ?_) (fun e => ?_)
    all_goals
      rw [e] at hL'
      have := card_set hx hL hL'
      rw [card_eq hL']; omega
  | none =>
    simp only [hx] at hL' ⊢
    exact Out.stroke h 2 _ _ (by decide) (by decide) (fun _ _ => rfl) (fun _ _ => rfl) h.len h.len (fun _ => h.cd) (fun _ => h.cd)
theorem out_sync {s : ByteArray} (h : Ok t i M) (hg : GoodN s) {w' : World} {okx : Nat → Prop} (hD : DiskAt w d M ok) (hD' : DiskAt w' d (syncM M (nm s)).2 okx) : Out t (nm s) i M (syncM M (nm s)).1 (syncM M (nm s)).2 := by
  obtain ⟨L, hL⟩ := hD.isL
  obtain ⟨L', hL'⟩ := hD'.isL
  have hc := h.cd
  rw [card_eq hL] at hc
  unfold syncM at hL' ⊢
  cases hx : M.fs (nm s) with
  | some f =>
    simp only [hx] at hL' ⊢
    have hlen := h.len _ _ hx
    have hl := setF_len (v := (f.2, f.2)) (x := nm s) h.len ⟨hlen.2.1, hlen.2.1, by rw [strL_nm']; exact hg⟩
    refine Out.stroke h 0 _ _ (by decide) (by decide) (fun _ _ => rfl) setF_else h.len hl (fun e => h.cd) (fun e => ?_)
    rw [e] at hL'
    have := card_set hx hL hL'
    rw [card_eq hL']; omega
  | none =>
    simp only [hx] at hL' ⊢
    exact Out.stroke h 2 _ _ (by decide) (by decide) (fun _ _ => rfl) (fun _ _ => rfl) h.len h.len (fun _ => h.cd) (fun _ => h.cd)
theorem out_del {s : ByteArray} (h : Ok t i M) (hg : GoodN s) {w' : World} {okx : Nat → Prop} (hD : DiskAt w d M ok) (hD' : DiskAt w' d (delM M (nm s)).2 okx) : Out t (nm s) i M (delM M (nm s)).1 (delM M (nm s)).2 := by
  obtain ⟨L, hL⟩ := hD.isL
  obtain ⟨L', hL'⟩ := hD'.isL
  have hc := h.cd
  rw [card_eq hL] at hc
  unfold delM at hL' ⊢
  have hl := setF_len0 (x := nm s) h.len
  refine Out.stroke h _ _ _ (by split <;> decide) (by split <;> decide) setF_else setF_else hl hl (fun e => ?_) (fun e => ?_)
  all_goals
    rw [e] at hL'
    have := card_del hL hL'
    rw [card_eq hL']; omega

/-- the disk d reads as M; its blocks are B or behind it -/
structure DJ (t : List S39) (i : Nat) (d : Nat) (B : Nat) (M : DM) (ok : Nat → Prop) (W : World) : Prop where
  at_ : DiskAt W d M ok
  lo : ∀ j, ok j → B ≤ j
  ok : Ok t i M
/-- behind a call: what it answered, the disk, and what has turned -/
def Act1 (t : List S39) (x : Name) (i d B : Nat) (M : DM) (ok : Nat → Prop) (w : World) (e : Ending) (w' : World) : Prop :=
  ∃ r M' ok', e = .returned (.int .i64 r) ∧ Out t x i M r M' ∧ DJ t (i + 1) d B M' ok' w' ∧ (∀ k, ok' k → ok k ∨ w.heap.size ≤ k) ∧ Fr ok w w'
variable {B : Nat} {s : ByteArray}
theorem DJ.left {x : Name} (h : DJ t i d B M ok w) (hB : B ≤ w.heap.size) {r : Int × DM} (hO : ∀ okx w', DiskAt w' d r.2 okx → Out t x i M r.1 r.2) {e : Ending} {w' : World} (he : e = .returned (.int .i64 r.1)) (hL : Left w d r.2 ok w') : Act1 t x i d B M ok w e w' := by
  obtain ⟨ok', q1, q2, q3⟩ := hL
  exact ⟨_, _, ok', he, hO _ _ q1, ⟨q1, fun j hj => (q2 j hj).elim (h.lo j) (fun hle => by omega), (hO _ _ q1).ok⟩, q2, q3⟩
theorem act_trunc (h : DJ t i d B M ok w) (hB : B ≤ w.heap.size) (hi : i < 1000000) (hs : s.size ≤ maxLen) (a : Int) :
    Calls Try.prog 13 #[dptr d, .string s, .int .i64 a] w (Act1 t (nm s) i d B M ok w) := by
  by_cases hg : GoodN s ∧ 0 ≤ a ∧ a ≤ 4194304
  · obtain ⟨hg, h0, h1⟩ := hg
    obtain ⟨a, rfl⟩ := Int.eq_ofNat_of_zero_le h0
    exact (trunc_any h.at_ (h.ok.fit hi) hg (a := a) (by omega)).mono fun e w' ⟨he, hL⟩ => h.left hB (r := truncM M (nm s) a) (fun okx w' hD' => out_trunc h.ok hg (by omega) h.at_ hD') he hL
  · exact (trunc_bad h.at_ hs a hg).mono fun e w' ⟨he, hL⟩ => h.left hB (r := (1, M)) (fun _ _ _ => Out.bad h.ok) he hL
theorem act_sync (h : DJ t i d B M ok w) (hB : B ≤ w.heap.size) (hi : i < 1000000) (hs : s.size ≤ maxLen) :
    Calls Try.prog 14 #[dptr d, .string s] w (Act1 t (nm s) i d B M ok w) := by
  by_cases hg : GoodN s
  · exact (sync_any h.at_ (h.ok.fit hi) hg).mono fun e w' ⟨he, hL⟩ => h.left hB (r := syncM M (nm s)) (fun okx w' hD' => out_sync h.ok hg h.at_ hD') he hL
  · exact (sync_bad h.at_ hs (fun hh => hg hh.1)).mono fun e w' ⟨he, hL⟩ => h.left hB (r := (1, M)) (fun _ _ _ => Out.bad h.ok) he hL
theorem act_del (h : DJ t i d B M ok w) (hB : B ≤ w.heap.size) (hi : i < 1000000) (hs : s.size ≤ maxLen) :
    Calls Try.prog 15 #[dptr d, .string s] w (Act1 t (nm s) i d B M ok w) := by
  by_cases hg : GoodN s
  · exact (del_any h.at_ (h.ok.fit hi) hg).mono fun e w' ⟨he, hL⟩ => h.left hB (r := delM M (nm s)) (fun okx w' hD' => out_del h.ok hg h.at_ hD') he hL
  · exact (del_bad h.at_ hs (fun hh => hg hh.1)).mono fun e w' ⟨he, hL⟩ => h.left hB (r := (1, M)) (fun _ _ _ => Out.bad h.ok) he hL
theorem act_write (h : DJ t i d B M ok w) (hB : B ≤ w.heap.size) (hi : i < 1000000) (hs : s.size ≤ maxLen) (a : Int) {Ab : Option Addr} {cb : Nat} {b : Bytes} (hsrc : Src w ok Ab b.length b) (hsl : ∀ ad, Ab = some ad → ad.block < w.heap.size) :
    Calls Try.prog 16 #[dptr d, .string s, .int .i64 a, .slice Ab b.length cb] w (Act1 t (nm s) i d B M ok w) := by
  by_cases hg : GoodN s ∧ 0 < b.length ∧ 0 ≤ a ∧ a ≤ 4194304 ∧ a + b.length ≤ 4194304
  · obtain ⟨hg, hb0, h0, h1, h2⟩ := hg
    obtain ⟨a, rfl⟩ := Int.eq_ofNat_of_zero_le h0
    exact (write_any h.at_ (h.ok.fit hi) hg (a := a) hb0 (by omega) hsrc hsl).mono fun e w' ⟨he, hL⟩ => h.left hB (r := writeM M (nm s) a b) (fun okx w' hD' => out_write h.ok hg rfl (by omega) h.at_ hD') he hL
  · exact (write_bad h.at_ hs a hg).mono fun e w' ⟨he, hL⟩ => h.left hB (r := (1, M)) (fun _ _ _ => Out.bad h.ok) he hL

open Classical in
/-- what a crash of M tells -/
noncomputable def crashL (fs : Files) (ps : List Int) : List S50 := if h : ∃ L, IsL fs L then crashF fs (Classical.choose h) ps else []
theorem crashL_eq {fs : Files} {L : List Name} (h : IsL fs L) (ps : List Int) : crashL fs ps = crashF fs L ps := by
  have hh : ∃ L, IsL fs L := ⟨L, h⟩
  unfold crashL
  rw [dif_pos hh, (Classical.choose_spec hh).eq h]
theorem crashF_length (fs : Files) : ∀ (L : List Name) (ps : List Int), (crashF fs L ps).length = L.length
  | [], _ => rfl
  | y :: r, ps => by simp only [crashF, List.length_cons]; rw [crashF_length fs r]
theorem crashF_bound (fs : Files) (h : ∀ x f, fs x = some f → f.1.length ≤ 4194304 ∧ f.2.length ≤ 4194304) : ∀ (L : List Name) (ps : List Int), ∀ z ∈ crashF fs L ps, z.f1.length ≤ 4194304
  | [], _, z, hz => by simp [crashF] at hz
  | y :: r, ps, z, hz => by
    simp only [crashF, List.mem_cons] at hz
    rcases hz with rfl | hz
    · have := foundF_length ((fs y).getD ([], [])) ps
      cases hy : fs y with
      | none => rw [hy] at this; simp at this ⊢; rw [this]; exact Nat.zero_le _
      | some f =>
        rw [hy] at this
        have hb := h y f hy
        simp only [Option.getD_some] at this ⊢
        omega
    · exact crashF_bound fs h r _ z hz
theorem Ok.crash {t : List S39} {i : Nat} {M : DM} (h : Ok t i M) {w : World} {d : Nat} {ok : Nat → Prop} (hD : DiskAt w d M ok) (ps : List Int) : (crashL M.fs ps).length ≤ 16 ∧ ∀ z ∈ crashL M.fs ps, z.f1.length ≤ 4194304 := by
  obtain ⟨L, hL⟩ := hD.isL
  have hc := h.cd
  rw [card_eq hL] at hc
  rw [crashL_eq hL]
  exact ⟨by rw [crashF_length]; exact hc, crashF_bound _ (fun x f hx => ⟨(h.len x f hx).1, (h.len x f hx).2.1⟩) L ps⟩
theorem crash_dj (h : DJ t i d B M ok w) {A : Option Addr} {n c : Nat} {ps : List Int} (hC : I64.C w A n ps) (hc : n ≤ c) (hA : ∀ ad, 0 < n → A = some ad → ad.block < w.heap.size) :
    Calls Try.prog 11 #[dptr d, .slice A n c] w fun e w' => ∃ A1 c1, e = .returned (.slice A1 (crashL M.fs ps).length c1) ∧ Kd.S kF 50 w' w.heap.size (fun _ => True) (.slice A1 (crashL M.fs ps).length c1) (crashL M.fs ps) ∧ Below w.heap.size w w' := by
  obtain ⟨L, hL⟩ := h.at_.isL
  have hcd := h.ok.cd
  rw [card_eq hL] at hcd
  refine (crash_any h.at_ (fun x f hx => ⟨(h.ok.len x f hx).1, (h.ok.len x f hx).2.1⟩) hL hcd (fun y hy => ?_) hC hc hA).mono ?_
  · obtain ⟨f, hf⟩ := Option.isSome_iff_exists.1 ((hL.2 y).1 hy)
    have := (h.ok.len y f hf).2.2.2.2
    have e : (strL y).size = y.length := by simp [strL, ByteArray.size]
    omega
  · rintro e w' ⟨v, rfl, hS, hB⟩
    rw [← crashL_eq hL] at hS
    obtain ⟨A1, c1, rfl⟩ := Kd.S_slice hS
    exact ⟨A1, c1, rfl, hS, hB⟩
theorem ok_new {F : List S50} (hF : FilesOk F) (ht : ∀ n, trOf t n ≠ 3) : Ok t 0 (newM F t) where
  off := rfl
  tr := rfl
  no3 := ht
  len := fun x f hx => by
    have hx' : fsOf F x = some f := hx
    unfold fsOf at hx'
    obtain ⟨z, hz, rfl⟩ := Option.map_eq_some_iff.1 hx'
    have hm := hF.each z (List.mem_of_find?_eq_some hz)
    have hn : nm z.f0 = x := by simpa using List.find?_some hz
    exact ⟨hm.2, hm.2, by rw [← hn, strL_nm']; exact hm.1⟩
  cd := by
    show card (fsOf F) ≤ 16
    rw [card_eq (fsOf_isL hF.rise)]
    simpa using hF.few
  st0 := Int.le_refl _
  st1 := Int.le_refl _
theorem within_any (a : Int) (n : Nat) (h0 : 0 < n) (h1 : n ≤ 1000) : ∃ m : Int, 0 ≤ m ∧ m < n ∧ ∀ W : World, Calls Try.prog 8 #[.int .i64 a, .int .i64 n] W fun e w' => e = .returned (.int .i64 m) ∧ ∃ k, w' = W.drewN k := by
  have hn : IntKind.u64.wrap (n : Int) = n := by rw [IntKind.wrap_u64]; omega
  have hr0 : 0 ≤ IntKind.u64.wrap a := by rw [IntKind.wrap_u64]; omega
  have hm0 : 0 ≤ Int.tmod (IntKind.u64.wrap a) n := Int.tmod_nonneg _ hr0
  have hm1 : Int.tmod (IntKind.u64.wrap a) n < n := Int.tmod_lt_of_pos _ (by omega)
  refine ⟨Int.tmod (IntKind.u64.wrap a) n, hm0, hm1, fun W => ?_⟩
  refine (cadastrelaw0_Within.calls a n _ W ?_).mono (fun e w' ⟨he, hw⟩ => ⟨he, hw.out⟩)
  unfold cadastrelaw0_Within.f
  rw [hn, if_neg (by omega)]
  congr 1
  generalize Int.tmod (IntKind.u64.wrap a) n = q at *
  unfold wrap64
  omega

theorem trOf_one (a b : Int) (n : Int) : trOf [⟨a, b⟩] n = if a = n then b else 0 := by
  unfold trOf
  by_cases e : a = n <;> simp [e]
theorem C_one' {α : Type} {d : Kd α} {W : World} {g : Nat} {cs : List Value} {ty : TypeId} {fr : Nat × Nat} {x : α} (hg : W.heap[g]? = some (.cells cs.toArray ty fr)) (hK : d.K W x cs) : Kd.C d W (some ⟨g, 0, none⟩) 1 [x] := by
  refine ⟨rfl, by omega, fun _ => ⟨⟨g, 0, none⟩, rfl, fun j p hj => ?_⟩⟩
  obtain ⟨rfl, rfl⟩ : j = 0 ∧ x = p := by
    cases j with
    | zero => simp at hj; exact ⟨rfl, hj⟩
    | succ j => simp at hj
  refine ⟨cs, d.K_len hK, hK, fun i u hu => ?_⟩
  have e : ((⟨g, 0, none⟩ : Addr).add (0 * d.sz + i)) = ⟨g, i, none⟩ := by
    have : 0 * d.sz + i = i := by omega
    rw [this]; cases i <;> simp [Addr.add]
  rw [e, cell_of_row _ _ _ _ ty fr hg]
  simpa using hu
theorem new_T {W : World} {A0 : Option Addr} {c0 : Nat} {F : List S50} (hC : Kd.C k50 W A0 F.length F) (hc : F.length ≤ c0) (hF : FilesOk F) {a b : Int} (ha : 1 ≤ a) (ha' : a ≤ 100) (hb : 1 ≤ b) (hb' : b ≤ 2) :
    Calls Try.prog 9 #[.slice A0 F.length c0, .slice (some ⟨W.heap.size, 0, none⟩) 1 1] (W.alloc (.cells #[.int .i64 a, .int .i64 b] 39))
      fun e w' => ∃ d ok, e = .returned (.tuple #[dptr d, .int .i64 0]) ∧ DJ [⟨a, b⟩] 0 d W.heap.size (newM F [⟨a, b⟩]) ok w' ∧ Below W.heap.size W w' := by
  have ht : Kd.C k39 (W.alloc (.cells #[.int .i64 a, .int .i64 b] 39)) (some ⟨W.heap.size, 0, none⟩) 1 [⟨a, b⟩] := C_one' (heap_alloc_new _ _) (k39_mk _ ⟨a, b⟩)
  refine (new_ok (l := F) (t := [⟨a, b⟩]) (Kd.C_alloc hC _) hc ht (Nat.le_refl 1) hF ⟨fun x hx => ?_, fun x hx => ?_⟩ (by (show 1 < 1000000); decide)).mono ?_
  · simp at hx; subst hx; exact ⟨ha, hb, by show b ≤ 3; omega⟩
  · simp at hx; subst hx; exact WalkArith.wf_i64 ⟨by (show -9223372036854775808 ≤ a); omega, by (show a ≤ 9223372036854775807); omega⟩
  · rintro e w' ⟨rfl, hD, hB⟩
    have hb3 : Below W.heap.size W (W.alloc (.cells #[.int .i64 a, .int .i64 b] 39)) := below_alloc (Below.refl _ _) _
    exact ⟨_, _, rfl, ⟨hD, fun j hj => Nat.le_trans hb3.size hj, ok_new hF (fun n => by rw [trOf_one]; split <;> omega)⟩, hb3.trans (hB.mono hb3.size)⟩

theorem DJ.below {w' : World} (h : DJ t i d B M ok w) (hb : Below w.heap.size w w') : DJ t i d B M ok w' := ⟨h.at_.below hb, h.lo, h.ok⟩
theorem DJ.drewN (h : DJ t i d B M ok w) (n : Nat) : DJ t i d B M ok (w.drewN n) := ⟨h.at_.drewN n, h.lo, h.ok⟩
theorem DJ.alloc (h : DJ t i d B M ok w) (o : Obj) : DJ t i d B M ok (w.alloc o) := ⟨h.at_.alloc o, h.lo, h.ok⟩
theorem DJ.tight (h : DJ t i d B M ok w) : DJ t i d B M (fun k => ok k ∧ k < w.heap.size) w := ⟨h.at_.tight, fun j hj => h.lo j hj.1, h.ok⟩
theorem C_lt {l : List Int} {A : Option Addr} {n : Nat} (h : I64.C w A n l) : ∀ ad, 0 < n → A = some ad → ad.block < w.heap.size := by
  intro ad hn e
  obtain ⟨ad', e', hc⟩ := h.2.2 hn
  obtain rfl : ad = ad' := Option.some.inj (e.symm.trans e')
  have hl : 0 < l.length := by rw [h.1]; exact hn
  obtain ⟨c, hcl, hK, hcell⟩ := hc 0 _ (List.getElem?_eq_getElem hl)
  have h0 : 0 < c.length := by rw [hcl]; decide
  have := hcell 0 _ (List.getElem?_eq_getElem h0)
  have hb := World.block_lt_of_cell? _ _ this
  have e2 : (ad.add (0 * I64.sz + 0)).block = ad.block := by unfold Addr.add; split <;> rfl
  rwa [e2] at hb
theorem Fr.to_below {B : Nat} {w' : World} (h : Fr ok w w') (hB : ∀ k, ok k → B ≤ k) (hs : B ≤ w.heap.size) : Below B w w' := h.below hB hs
/-- an act's outcome, behind some calls that only made memory -/
def ActR (t : List S39) (x : Name) (i d B : Nat) (M : DM) (ok : Nat → Prop) (W : World) (r : Int) (wc : World) : Prop :=
  ∃ M' ok', Out t x i M r M' ∧ DJ t (i + 1) d B M' ok' wc ∧ (∀ k, ok' k → ok k ∨ W.heap.size ≤ k) ∧ Fr ok W wc
theorem Act1.to {x : Name} {W : World} {e : Ending} {w' : World} (hW : Below W.heap.size W w) (h : Act1 t x i d B M ok w e w') : ∃ r, e = .returned (.int .i64 r) ∧ ActR t x i d B M ok W r w' := by
  obtain ⟨r, M', ok', h1, h2, h3, h4, h5⟩ := h
  exact ⟨r, h1, M', ok', h2, h3, fun k hk => (h4 k hk).imp id (fun hle => Nat.le_trans hW.size hle), (Fr.of_below (ok := ok) hW).trans h5 (fun k hk => .inl hk)⟩
/-- the default act: a copy of the bytes is written -/
theorem copy_src {A4 : Option Addr} {c4 : Nat} {b : Bytes} (hC : U8.C w A4 b.length b) (hc : b.length ≤ c4) (hb : b.length ≤ 5000) :
    Calls Try.prog 17 #[.slice A4 b.length c4] w fun e w' => ∃ A c, e = .returned (.slice A b.length c) ∧ (U8.C w' A b.length b ∧ ∀ ad, A = some ad → w.heap.size ≤ ad.block ∧ ad.block < w'.heap.size) ∧ Below w.heap.size w w' := by
  refine (cadastreref0_CopyBytes.calls (b.length + 1) A4 c4 b b w hC hc (copybytes_f b (by omega) (by omega))).mono ?_
  rintro e w' ⟨v, rfl, hR, hB⟩
  obtain ⟨A, c, hv, hle, hCr⟩ := Kd.R_reads hR
  have hbase := Kd.R_base hR
  subst hv
  exact ⟨A, c, rfl, ⟨hCr, fun ad e => ⟨hbase ad.block (by rw [e]; rfl), Kd.R_lt hR ad.block (by rw [e]; rfl)⟩⟩, hB⟩
theorem eqfiles_any {A C : Option Addr} {c c' : Nat} {l : List S50} (h1 : Kd.C k50 w A l.length l) (hc : l.length ≤ c) (h2 : Kd.C k50 w C l.length l) (hc' : l.length ≤ c') (h16 : l.length ≤ 16) (hb : ∀ z ∈ l, z.f1.length ≤ 4194304) :
    Calls Try.prog 18 #[.slice A l.length c, .slice C l.length c'] w fun e w' => e = .returned (.bool true) ∧ Below w.heap.size w w' :=
  cadastreref0_EqFiles.calls _ A c l C c' l true w h1 hc h2 hc' (eqfiles_self l (N := 4194304) (by omega) hb (by omega))
end
end Go.Proofs.Ytgpniaplpibhfaa

/-
  stroke in one word, and the contracts of Write, Truncate, Sync, Delete.
-/
import Derived.Test.YtgpniaplpibhfaaSyncs
namespace Go.Proofs.Ytgpniaplpibhfaa
open Go.RowKit Go.Maps Go.Proofs.YtgpniaplpibhfaaW.PrintWords Go.Proofs.YtgpniaplpibhfaaW.PrintLast Go.Proofs.YtgpniaplpibhfaaW.PrintMore
open Go.Proofs.Ytgpniaplpibhfaa.PDiskSafe
set_option linter.unusedVariables false
set_option linter.unusedSimpArgs false

abbrev Files := Name → Option (Bytes × Bytes)
def IsL (fs : Files) (L : List Name) : Prop := L.Pairwise (· < ·) ∧ ∀ x, x ∈ L ↔ (fs x).isSome = true
theorem IsL.eq {fs : Files} {L L' : List Name} (h : IsL fs L) (h' : IsL fs L') : L = L' := by
  have nd : ∀ {L}, IsL fs L → L.Nodup := fun h => h.1.imp (fun {a b} hab e => by subst e; exact List.lt_irrefl _ hab)
  have hp : L.Perm L' := (List.perm_ext_iff_of_nodup (nd h) (nd h')).2 fun x => by rw [h.2, h'.2]
  have := mergeSort_of_perm hp
  rwa [sorted_eq h.1, sorted_eq h'.1] at this
open Classical in
/-- how many files there are -/
noncomputable def card (fs : Files) : Nat := if h : ∃ L, IsL fs L then (Classical.choose h).length else 0
theorem card_eq {fs : Files} {L : List Name} (h : IsL fs L) : card fs = L.length := by
  have hh : ∃ L, IsL fs L := ⟨L, h⟩
  unfold card
  rw [dif_pos hh, (Classical.choose_spec hh).eq h]
theorem DiskAt.isL {w : World} {d : Nat} {M : DM} {ok : Nat → Prop} (h : DiskAt w d M ok) : ∃ L, IsL M.fs L := by
  obtain ⟨bf, bt, blk, sv, ev, sz, h⟩ := h
  obtain ⟨L, hL⟩ := h.hf.names Try.underlying9
  exact ⟨L, hL.1, fun x => by rw [hL.2, h.dom]⟩

def setF (fs : Files) (x : Name) (v : Option (Bytes × Bytes)) : Files := fun y => if y = x then v else fs y

/-- what a stroke answers and leaves: e0 and fs1 are what is done, fs2 is what is made safe -/
def strokeR (M : DM) (e0 : Int) (fs1 fs2 : Files) : Int × DM :=
  if M.off = true then (9, { M with st := M.st + 1 })
  else if M.tr (M.st + 1) = 1 then (9, { M with st := M.st + 1 })
  else if M.tr (M.st + 1) = 2 then (10, { M with st := M.st + 1 })
  else if M.tr (M.st + 1) = 3 then (9, { M with st := M.st + 1, fs := fs1, off := true })
  else if e0 = 0 then (0, { M with st := M.st + 1, fs := fs2 })
  else (e0, { M with st := M.st + 1, fs := fs1 })

theorem stroke_any {w : World} {d : Nat} {M : DM} {ok : Nat → Prop} (h : DiskAt w d M ok) {fs1 fs2 : Files} {e0 : Int} {F : FuncId} {fnF : Func} {caps : Array Value} (hf : Try.prog.funcs[F]? = some fnF) (hname : (fnF.name == "runtime.NumGoroutine") = false) (hb : fnF.body.isSome = true)
    (hdo : ∀ W, Fr ok w W → DiskAt W d { M with st := M.st + 1 } ok → Calls Try.prog F caps W fun e w' => e = .returned (.int .i64 e0) ∧ Left W d { M with st := M.st + 1, fs := fs1 } ok w')
    {G : FuncId} {fnG : Func} {capsG : Array Value} (hfG : Try.prog.funcs[G]? = some fnG) (hnameG : (fnG.name == "runtime.NumGoroutine") = false) (hbG : fnG.body.isSome = true)
    (hsafe : e0 = 0 → ∀ W ok', (∀ k, ok' k → ok k ∨ w.heap.size ≤ k) → Fr ok w W → DiskAt W d { M with st := M.st + 1, fs := fs1 } ok' → Calls Try.prog G capsG W fun e w' => (∃ v, e = .returned v) ∧ Left W d { M with st := M.st + 1, fs := fs2 } ok' w')
    (hst : 0 ≤ M.st) (hst2 : M.st < 1000000) :
    Calls Try.prog 31 #[dptr d, .func (.func F) #[] caps, .func (.func G) #[] capsG] w fun e w' => e = .returned (.int .i64 (strokeR M e0 fs1 fs2).1) ∧ Left w d (strokeR M e0 fs1 fs2).2 ok w' := by
  unfold strokeR
  by_cases h1 : M.off = true
  · rw [if_pos h1]; exact stroke_off h _ _ h1 hst hst2
  · rw [if_neg h1]
    have h1' : M.off = false := by simpa using h1
    by_cases h2 : M.tr (M.st + 1) = 1
    · rw [if_pos h2]; exact stroke_io h _ _ h2 h1' hst hst2
    · rw [if_neg h2]
      by_cases h3 : M.tr (M.st + 1) = 2
      · rw [if_pos h3]; exact stroke_full h _ _ h3 h1' hst hst2
      · rw [if_neg h3]
        by_cases h4 : M.tr (M.st + 1) = 3
        · rw [if_pos h4]
          exact stroke_power h hf hname hb hdo _ h4 h1' hst hst2
        · rw [if_neg h4]
          by_cases h5 : e0 = 0
          · subst h5
            rw [if_pos rfl]
            exact stroke_done h hf hname hb hdo hfG hnameG hbG (hsafe rfl) ⟨h2, h3, h4⟩ h1' hst hst2
          · rw [if_neg h5]
            exact stroke_refused h hf hname hb hdo _ ⟨h2, h3, h4⟩ h5 h1' hst hst2

theorem nothing_any {W : World} {d : Nat} {M : DM} {ok : Nat → Prop} (h : DiskAt W d M ok) : Calls Try.prog 34 #[] W fun e w' => (∃ v, e = .returned v) ∧ Left W d M ok w' := by
  refine (disk_nothing.calls W rfl).mono ?_
  rintro e w' ⟨rfl, hw⟩
  obtain ⟨n, rfl⟩ := hw.out
  exact ⟨⟨_, rfl⟩, (Left.same h).drewN n⟩

/-- what a method that strokes may be handed -/
structure Fit (M : DM) : Prop where
  len : ∀ x f, M.fs x = some f → f.1.length ≤ 4194304 ∧ f.2.length ≤ 4194304
  st0 : 0 ≤ M.st
  st1 : M.st < 1000000
  cd : card M.fs ≤ 16

noncomputable def writeM (M : DM) (x : Name) (a : Nat) (b : Bytes) : Int × DM :=
  match M.fs x with
  | some f => strokeR M 0 (setF M.fs x (some (f.1, writeB f.2 a b))) (setF M.fs x (some (f.1, writeB f.2 a b)))
  | none => if card M.fs < 16 then strokeR M 0 (setF M.fs x (some ([], writeB [] a b))) (setF M.fs x (some ([], writeB [] a b))) else strokeR M 10 M.fs M.fs
def truncM (M : DM) (x : Name) (n : Nat) : Int × DM :=
  match M.fs x with
  | some f => strokeR M 0 (setF M.fs x (some (f.1, cutTo f.2 n))) (setF M.fs x (some (f.1, cutTo f.2 n)))
  | none => strokeR M 2 M.fs M.fs
def syncM (M : DM) (x : Name) : Int × DM :=
  match M.fs x with
  | some f => strokeR M 0 M.fs (setF M.fs x (some (f.2, f.2)))
  | none => strokeR M 2 M.fs M.fs
def delM (M : DM) (x : Name) : Int × DM := strokeR M (if (M.fs x).isSome then 0 else 2) (setF M.fs x none) (setF M.fs x none)

theorem Fr.mono {ok ok' : Nat → Prop} {w w' : World} (h : Fr ok w w') (hs : ∀ k, k < w.heap.size → ok k → ok' k) : Fr ok' w w' := ⟨h.os, h.tape, h.output, h.size, fun k hk hn => h.block k hk (fun ho => hn (hs k hk ho))⟩
theorem DiskAt.tight {w : World} {d : Nat} {M : DM} {ok : Nat → Prop} (h : DiskAt w d M ok) : DiskAt w d M (fun k => ok k ∧ k < w.heap.size) := by
  obtain ⟨bf, bt, blk, sv, ev, sz, h⟩ := h
  exact ⟨_, _, _, _, _, _, h.grow_ok⟩
theorem Left.loose {w W w' : World} {d : Nat} {M : DM} {ok : Nat → Prop} (hW : Fr (fun k => ok k ∧ k < w.heap.size) w W) (h : Left W d M (fun k => ok k ∧ k < w.heap.size) w') : Left w d M ok w' := by
  obtain ⟨ok', h1, h2, h3⟩ := h
  exact ⟨ok', h1, fun k hk => (h2 k hk).imp (fun h => h.1) (fun h => Nat.le_trans hW.size h), (hW.trans h3 (fun k hk => .inl hk)).mono (fun k _ hk => hk.1)⟩
theorem DiskAt.none_full {w : World} {d : Nat} {M : DM} {ok : Nat → Prop} (h : DiskAt w d M ok) {L : List Name} (hL : IsL M.fs L) : card M.fs = L.length := card_eq hL
theorem Box.fr' {w w' : World} {ok ok' : Nat → Prop} {b : Nat} {v : Value} {t : TypeId} (h : Box w ok b v t) (hf : Fr ok w w') (hs : ∀ k, ok' k → ok k ∨ w.heap.size ≤ k) : Box w' ok' b v t :=
  ⟨(hf.block b (heap_lt h.1) h.2).trans h.1, fun hk => (hs b hk).elim h.2 (fun hle => by have := heap_lt h.1; omega)⟩
theorem Src.fr' {w w' : World} {ok ok' : Nat → Prop} {A : Option Addr} {n : Nat} {b : Bytes} (h : Src w ok A n b) (hb : ∀ ad, A = some ad → ad.block < w.heap.size) (hf : Fr ok w w') (hs : ∀ k, ok' k → ok k ∨ w.heap.size ≤ k) : Src w' ok' A n b :=
  ⟨h.fr hf (fun _ _ hk => hk), fun ad e hk => (hs _ hk).elim (h.2 ad e) (fun hle => by have := hb ad e; omega)⟩
theorem lies {A : Array Obj} {k : Nat} {o : Obj} (h : A[k]? = some o) (p : Obj) : (A.push p)[k]? = some o := by
  have := (Array.getElem?_eq_some_iff.1 h).1
  rw [Array.getElem?_push, if_neg (by omega)]; exact h
theorem fresh (A : Array Obj) (o : Obj) {k : Nat} (h : k = A.size) : (A.push o)[k]? = some o := by
  subst h; simp

theorem write_bad {w : World} {d : Nat} {M : DM} {ok : Nat → Prop} (h : DiskAt w d M ok) {s : ByteArray} (hs : s.size ≤ maxLen) (a : Int) {Ab : Option Addr} {nb cb : Nat} (hg : ¬ (GoodN s ∧ 0 < nb ∧ 0 ≤ a ∧ a ≤ 4194304 ∧ a + nb ≤ 4194304)) :
    Calls Try.prog 16 #[dptr d, .string s, .int .i64 a, .slice Ab nb cb] w fun e w' => e = .returned (.int .i64 1) ∧ Left w d M ok w' := by
  have HD := Aside0.mk h
  clear h
  by_cases h1 : GoodN s
  · have HG := Aside0.mk (fun W => good_yes h1 W)
    clear hs
    by_cases c0 : nb = 0
    · have q0 : ((nb : Int) == 0) = true := by simp; omega
      clear hg h1
      go_enter Try.func16, Try.ntmps16
      go_wp2_with (go_at_call 26; refine (HG.out _).mono ?_; rintro e w' ⟨rfl, n, rfl⟩)
      all_goals (go_ret; exact ⟨rfl, ok, (((((HD.out.alloc _).alloc _).alloc _).alloc _)).drewN _, fun k hk => .inl hk, ((((((Fr.refl _ w).alloc _).alloc _).alloc _).alloc _).drewN _)⟩)
    · have q0 : ((nb : Int) == 0) = false := by simp; omega
      by_cases c1 : a < 0
      · have q1 : decide (a < 0) = true := by simp; omega
        clear hg h1
        go_enter Try.func16, Try.ntmps16
        go_wp2_with (go_at_call 26; refine (HG.out _).mono ?_; rintro e w' ⟨rfl, n, rfl⟩)
        all_goals (go_ret; exact ⟨rfl, ok, (((((HD.out.alloc _).alloc _).alloc _).alloc _)).drewN _, fun k hk => .inl hk, ((((((Fr.refl _ w).alloc _).alloc _).alloc _).alloc _).drewN _)⟩)
      · have q1 : decide (a < 0) = false := by simp; omega
        by_cases c2 : 4194304 < a
        · have q2 : decide ((4194304 : Int) < a) = true := by simp; omega
          clear hg h1
          go_enter Try.func16, Try.ntmps16
          go_wp2_with (go_at_call 26; refine (HG.out _).mono ?_; rintro e w' ⟨rfl, n, rfl⟩)
          all_goals (go_ret; exact ⟨rfl, ok, (((((HD.out.alloc _).alloc _).alloc _).alloc _)).drewN _, fun k hk => .inl hk, ((((((Fr.refl _ w).alloc _).alloc _).alloc _).alloc _).drewN _)⟩)
        · have q2 : decide ((4194304 : Int) < a) = false := by simp; omega
          have c3 : 4194304 < a + nb := by
            rcases Decidable.em (4194304 < a + nb) with h | h
            · exact h
            · exact absurd ⟨h1, by omega⟩ hg
          have q3 : decide ((4194304 : Int) - a < nb) = true := by simp; omega
          clear hg h1
          go_enter Try.func16, Try.ntmps16
          go_wp2_with (go_at_call 26; refine (HG.out _).mono ?_; rintro e w' ⟨rfl, n, rfl⟩)
          all_goals (go_ret; exact ⟨rfl, ok, (((((HD.out.alloc _).alloc _).alloc _).alloc _)).drewN _, fun k hk => .inl hk, ((((((Fr.refl _ w).alloc _).alloc _).alloc _).alloc _).drewN _)⟩)
  · have HG := Aside0.mk (fun W => good_no (by unfold maxLen at hs; exact hs) h1 W)
    clear hs hg h1
    go_enter Try.func16, Try.ntmps16
    go_wp2_with (go_at_call 26; refine (HG.out _).mono ?_; rintro e w' ⟨rfl, n, rfl⟩)
    all_goals (go_ret; exact ⟨rfl, ok, (((((HD.out.alloc _).alloc _).alloc _).alloc _)).drewN _, fun k hk => .inl hk, ((((((Fr.refl _ w).alloc _).alloc _).alloc _).alloc _).drewN _)⟩)

/-- behind the guard: the stroke -/
theorem write_goes {w : World} {d : Nat} {s : ByteArray} (a : Int) {Ab : Option Addr} {nb cb : Nat} (hg : GoodN s ∧ 0 < nb ∧ 0 ≤ a ∧ a ≤ 4194304 ∧ a + nb ≤ 4194304) {Q : Ending → World → Prop}
    (hK : ∀ n, Calls Try.prog 31 #[dptr d, .func (.func 39) #[] #[bptr w.heap.size, bptr (w.heap.size + 1), bptr (w.heap.size + 2), bptr (w.heap.size + 3)], .func (.func 34) #[] #[]] (((((w.alloc (.cells #[dptr d] 34)).alloc (.cells #[.string s] 9)).alloc (.cells #[.int .i64 a] 3)).alloc (.cells #[.slice Ab nb cb] 30)).drewN n) Q)
    (hQ : ∀ e w', Q e w' → ∃ x, e = .returned (.int .i64 x)) :
    Calls Try.prog 16 #[dptr d, .string s, .int .i64 a, .slice Ab nb cb] w Q := by
  obtain ⟨hg, g0, g1, g2, g3⟩ := hg
  have HG := Aside0.mk (fun W => good_yes hg W)
  have HK := Aside0.mk hK
  clear hK
  have q0 : ((nb : Int) == 0) = false := by simp; omega
  have q1 : decide (a < 0) = false := by simp; omega
  have q2 : decide ((4194304 : Int) < a) = false := by simp; omega
  have q3 : decide ((4194304 : Int) - a < nb) = false := by simp; omega
  clear hg
  go_enter Try.func16, Try.ntmps16
  go_wp2_with (first | (go_at_call 26; refine (HG.out _).mono ?_; rintro e w' ⟨rfl, n, rfl⟩) | (go_at_call 31; refine (HK.out _).mono ?_; intro e w' hq; obtain ⟨x, rfl⟩ := hQ _ _ hq))
  exact hq

theorem trunc_bad {w : World} {d : Nat} {M : DM} {ok : Nat → Prop} (h : DiskAt w d M ok) {s : ByteArray} (hs : s.size ≤ maxLen) (a : Int) (hg : ¬ (GoodN s ∧ 0 ≤ a ∧ a ≤ 4194304)) :
    Calls Try.prog 13 #[dptr d, .string s, .int .i64 a] w fun e w' => e = .returned (.int .i64 1) ∧ Left w d M ok w' := by
  have HD := Aside0.mk h
  clear h
  by_cases h1 : GoodN s
  · have HG := Aside0.mk (fun W => good_yes h1 W)
    clear hs
    by_cases c0 : a < 0
    · have q0 : decide (a < 0) = true := by simp; omega
      clear hg h1
      go_enter Try.func13, Try.ntmps13
      go_wp2_with (go_at_call 26; refine (HG.out _).mono ?_; rintro e w' ⟨rfl, n, rfl⟩)
      all_goals (go_ret; exact ⟨rfl, ok, ((((HD.out.alloc _).alloc _).alloc _)).drewN _, fun k hk => .inl hk, (((((Fr.refl _ w).alloc _).alloc _).alloc _).drewN _)⟩)
    · have q0 : decide (a < 0) = false := by simp; omega
      have c1 : 4194304 < a := by
        rcases Decidable.em (4194304 < a) with h | h
        · exact h
        · exact absurd ⟨h1, by omega⟩ hg
      have q1 : decide ((4194304 : Int) < a) = true := by simp; omega
      clear hg h1
      go_enter Try.func13, Try.ntmps13
      go_wp2_with (go_at_call 26; refine (HG.out _).mono ?_; rintro e w' ⟨rfl, n, rfl⟩)
      all_goals (go_ret; exact ⟨rfl, ok, ((((HD.out.alloc _).alloc _).alloc _)).drewN _, fun k hk => .inl hk, (((((Fr.refl _ w).alloc _).alloc _).alloc _).drewN _)⟩)
  · have HG := Aside0.mk (fun W => good_no (by unfold maxLen at hs; exact hs) h1 W)
    clear hs hg h1
    go_enter Try.func13, Try.ntmps13
    go_wp2_with (go_at_call 26; refine (HG.out _).mono ?_; rintro e w' ⟨rfl, n, rfl⟩)
    all_goals (go_ret; exact ⟨rfl, ok, ((((HD.out.alloc _).alloc _).alloc _)).drewN _, fun k hk => .inl hk, (((((Fr.refl _ w).alloc _).alloc _).alloc _).drewN _)⟩)

/-- behind the guard: the stroke -/
theorem trunc_goes {w : World} {d : Nat} {s : ByteArray} (a : Int) (hg : GoodN s ∧ 0 ≤ a ∧ a ≤ 4194304) {Q : Ending → World → Prop}
    (hK : ∀ n, Calls Try.prog 31 #[dptr d, .func (.func 32) #[] #[bptr w.heap.size, bptr (w.heap.size + 1), bptr (w.heap.size + 2)], .func (.func 34) #[] #[]] ((((w.alloc (.cells #[dptr d] 34)).alloc (.cells #[.string s] 9)).alloc (.cells #[.int .i64 a] 3)).drewN n) Q)
    (hQ : ∀ e w', Q e w' → ∃ x, e = .returned (.int .i64 x)) :
    Calls Try.prog 13 #[dptr d, .string s, .int .i64 a] w Q := by
  obtain ⟨hg, g0, g1⟩ := hg
  have HG := Aside0.mk (fun W => good_yes hg W)
  have HK := Aside0.mk hK
  clear hK
  have q0 : decide (a < 0) = false := by simp; omega
  have q1 : decide ((4194304 : Int) < a) = false := by simp; omega
  clear hg
  go_enter Try.func13, Try.ntmps13
  go_wp2_with (first | (go_at_call 26; refine (HG.out _).mono ?_; rintro e w' ⟨rfl, n, rfl⟩) | (go_at_call 31; refine (HK.out _).mono ?_; intro e w' hq; obtain ⟨x, rfl⟩ := hQ _ _ hq))
  exact hq

theorem sync_bad {w : World} {d : Nat} {M : DM} {ok : Nat → Prop} (h : DiskAt w d M ok) {s : ByteArray} (hs : s.size ≤ maxLen)  (hg : ¬ (GoodN s ∧ True)) :
    Calls Try.prog 14 #[dptr d, .string s] w fun e w' => e = .returned (.int .i64 1) ∧ Left w d M ok w' := by
  have HD := Aside0.mk h
  clear h
  by_cases h1 : GoodN s
  · have HG := Aside0.mk (fun W => good_yes h1 W)
    clear hs
    exact absurd ⟨h1, trivial⟩ hg
  · have HG := Aside0.mk (fun W => good_no (by unfold maxLen at hs; exact hs) h1 W)
    clear hs hg h1
    go_enter Try.func14, Try.ntmps14
    go_wp2_with (go_at_call 26; refine (HG.out _).mono ?_; rintro e w' ⟨rfl, n, rfl⟩)
    all_goals (go_ret; exact ⟨rfl, ok, (((HD.out.alloc _).alloc _)).drewN _, fun k hk => .inl hk, ((((Fr.refl _ w).alloc _).alloc _).drewN _)⟩)

/-- behind the guard: the stroke -/
theorem sync_goes {w : World} {d : Nat} {s : ByteArray}  (hg : GoodN s ∧ True) {Q : Ending → World → Prop}
    (hK : ∀ n, Calls Try.prog 31 #[dptr d, .func (.func 35) #[] #[bptr w.heap.size, bptr (w.heap.size + 1)], .func (.func 37) #[] #[bptr w.heap.size, bptr (w.heap.size + 1)]] (((w.alloc (.cells #[dptr d] 34)).alloc (.cells #[.string s] 9)).drewN n) Q)
    (hQ : ∀ e w', Q e w' → ∃ x, e = .returned (.int .i64 x)) :
    Calls Try.prog 14 #[dptr d, .string s] w Q := by
  obtain ⟨hg, g0⟩ := hg
  have HG := Aside0.mk (fun W => good_yes hg W)
  have HK := Aside0.mk hK
  clear hK
  clear hg
  go_enter Try.func14, Try.ntmps14
  go_wp2_with (first | (go_at_call 26; refine (HG.out _).mono ?_; rintro e w' ⟨rfl, n, rfl⟩) | (go_at_call 31; refine (HK.out _).mono ?_; intro e w' hq; obtain ⟨x, rfl⟩ := hQ _ _ hq))
  exact hq

theorem del_bad {w : World} {d : Nat} {M : DM} {ok : Nat → Prop} (h : DiskAt w d M ok) {s : ByteArray} (hs : s.size ≤ maxLen)  (hg : ¬ (GoodN s ∧ True)) :
    Calls Try.prog 15 #[dptr d, .string s] w fun e w' => e = .returned (.int .i64 1) ∧ Left w d M ok w' := by
  have HD := Aside0.mk h
  clear h
  by_cases h1 : GoodN s
  · have HG := Aside0.mk (fun W => good_yes h1 W)
    clear hs
    exact absurd ⟨h1, trivial⟩ hg
  · have HG := Aside0.mk (fun W => good_no (by unfold maxLen at hs; exact hs) h1 W)
    clear hs hg h1
    go_enter Try.func15, Try.ntmps15
    go_wp2_with (go_at_call 26; refine (HG.out _).mono ?_; rintro e w' ⟨rfl, n, rfl⟩)
    all_goals (go_ret; exact ⟨rfl, ok, (((HD.out.alloc _).alloc _)).drewN _, fun k hk => .inl hk, ((((Fr.refl _ w).alloc _).alloc _).drewN _)⟩)

/-- behind the guard: the stroke -/
theorem del_goes {w : World} {d : Nat} {s : ByteArray}  (hg : GoodN s ∧ True) {Q : Ending → World → Prop}
    (hK : ∀ n, Calls Try.prog 31 #[dptr d, .func (.func 38) #[] #[bptr w.heap.size, bptr (w.heap.size + 1)], .func (.func 34) #[] #[]] (((w.alloc (.cells #[dptr d] 34)).alloc (.cells #[.string s] 9)).drewN n) Q)
    (hQ : ∀ e w', Q e w' → ∃ x, e = .returned (.int .i64 x)) :
    Calls Try.prog 15 #[dptr d, .string s] w Q := by
  obtain ⟨hg, g0⟩ := hg
  have HG := Aside0.mk (fun W => good_yes hg W)
  have HK := Aside0.mk hK
  clear hK
  clear hg
  go_enter Try.func15, Try.ntmps15
  go_wp2_with (first | (go_at_call 26; refine (HG.out _).mono ?_; rintro e w' ⟨rfl, n, rfl⟩) | (go_at_call 31; refine (HK.out _).mono ?_; intro e w' hq; obtain ⟨x, rfl⟩ := hQ _ _ hq))
  exact hq

theorem write_any {w : World} {d : Nat} {M : DM} {ok : Nat → Prop} (h : DiskAt w d M ok) (hfit : Fit M) {s : ByteArray} {a nb cb : Nat} {Ab : Option Addr} {b : Bytes} (hg : GoodN s) (hnb : 0 < nb) (ha : a + nb ≤ 4194304) (hsrc : Src w ok Ab nb b) (hsl : ∀ ad, Ab = some ad → ad.block < w.heap.size) :
    Calls Try.prog 16 #[dptr d, .string s, .int .i64 (a : Int), .slice Ab nb cb] w fun e w' => e = .returned (.int .i64 (writeM M (nm s) a b).1) ∧ Left w d (writeM M (nm s) a b).2 ok w' := by
  have hs : s.size ≤ maxLen := by have := hg.2.2; unfold maxLen; omega
  refine write_goes (a : Int) (Ab := Ab) (nb := nb) (cb := cb) ⟨hg, hnb, by omega, by omega, by omega⟩ (fun n => ?_) (fun e w' hq => ⟨_, hq.1⟩)
  have hT := h.tight
  obtain ⟨okS, hokS⟩ : ∃ okS : Nat → Prop, okS = (fun k => ok k ∧ k < w.heap.size) := ⟨_, rfl⟩
  have hloose : ∀ (W : World) (r : Int × DM), Fr (fun k => ok k ∧ k < w.heap.size) w W → (Calls Try.prog 31 #[dptr d, .func (.func 39) #[] #[bptr w.heap.size, bptr (w.heap.size + 1), bptr (w.heap.size + 2), bptr (w.heap.size + 3)], .func (.func 34) #[] #[]] W fun e w' => e = .returned (.int .i64 r.1) ∧ Left W d r.2 (fun k => ok k ∧ k < w.heap.size) w') → Calls Try.prog 31 #[dptr d, .func (.func 39) #[] #[bptr w.heap.size, bptr (w.heap.size + 1), bptr (w.heap.size + 2), bptr (w.heap.size + 3)], .func (.func 34) #[] #[]] W fun e w' => e = .returned (.int .i64 r.1) ∧ Left w d r.2 ok w' :=
    fun W r hW hc => hc.mono fun e w' ⟨he, hL⟩ => ⟨he, hL.loose hW⟩
  refine hloose _ (writeM M (nm s) a b) ((((((Fr.refl _ w).alloc _).alloc _).alloc _).alloc _).drewN _) ?_
  clear hloose
  have hbd : Box (((((w.alloc (.cells #[dptr d] 34)).alloc (.cells #[.string s] 9)).alloc (.cells #[.int .i64 (a : Int)] 3)).alloc (.cells #[.slice Ab nb cb] 30)).drewN n) (fun k => ok k ∧ k < w.heap.size) w.heap.size (dptr d) 34 := ⟨by show (((((w.heap.push _).push _).push _).push _))[_]? = _; exact lies (lies (lies (fresh _ _ (rfl)) _) _) _, fun hk => by have := hk.2; omega⟩
  have hbn : Box (((((w.alloc (.cells #[dptr d] 34)).alloc (.cells #[.string s] 9)).alloc (.cells #[.int .i64 (a : Int)] 3)).alloc (.cells #[.slice Ab nb cb] 30)).drewN n) (fun k => ok k ∧ k < w.heap.size) (w.heap.size + 1) (.string s) 9 := ⟨by show (((((w.heap.push _).push _).push _).push _))[_]? = _; exact lies (lies (fresh _ _ (by simp only [Array.size_push])) _) _, fun hk => by have := hk.2; omega⟩
  have hba : Box (((((w.alloc (.cells #[dptr d] 34)).alloc (.cells #[.string s] 9)).alloc (.cells #[.int .i64 (a : Int)] 3)).alloc (.cells #[.slice Ab nb cb] 30)).drewN n) (fun k => ok k ∧ k < w.heap.size) (w.heap.size + 2) (.int .i64 (a : Int)) 3 := ⟨by show (((((w.heap.push _).push _).push _).push _))[_]? = _; exact lies (fresh _ _ (by simp only [Array.size_push])) _, fun hk => by have := hk.2; omega⟩
  have hbb : Box (((((w.alloc (.cells #[dptr d] 34)).alloc (.cells #[.string s] 9)).alloc (.cells #[.int .i64 (a : Int)] 3)).alloc (.cells #[.slice Ab nb cb] 30)).drewN n) (fun k => ok k ∧ k < w.heap.size) (w.heap.size + 3) (.slice Ab nb cb) 30 := ⟨by show (((((w.heap.push _).push _).push _).push _))[_]? = _; exact fresh _ _ (by simp only [Array.size_push]), fun hk => by have := hk.2; omega⟩
  have hsrc1 : Src w (fun k => ok k ∧ k < w.heap.size) Ab nb b := ⟨hsrc.1, fun ad e hk => hsrc.2 ad e hk.1⟩
  have hsrcW : Src (((((w.alloc (.cells #[dptr d] 34)).alloc (.cells #[.string s] 9)).alloc (.cells #[.int .i64 a] 3)).alloc (.cells #[.slice Ab nb cb] 30)).drewN n) (fun k => ok k ∧ k < w.heap.size) Ab nb b := hsrc1.fr' hsl ((((((Fr.refl _ w).alloc _).alloc _).alloc _).alloc _).drewN _) (fun _ hk => .inl hk)
  have hslW : ∀ ad, Ab = some ad → ad.block < (((((w.alloc (.cells #[dptr d] 34)).alloc (.cells #[.string s] 9)).alloc (.cells #[.int .i64 a] 3)).alloc (.cells #[.slice Ab nb cb] 30)).drewN n).heap.size := fun ad e => Nat.lt_of_lt_of_le (hsl ad e) (((((((Fr.refl _ w).alloc _).alloc _).alloc _).alloc _).drewN n : Fr (fun k => ok k ∧ k < w.heap.size) w _).size)
  have hD : DiskAt (((((w.alloc (.cells #[dptr d] 34)).alloc (.cells #[.string s] 9)).alloc (.cells #[.int .i64 (a : Int)] 3)).alloc (.cells #[.slice Ab nb cb] 30)).drewN n) d M (fun k => ok k ∧ k < w.heap.size) := (((((hT.alloc _).alloc _).alloc _).alloc _)).drewN n
  rw [← hokS] at hbd hbn hba hbb hsrcW hD ⊢
  clear hT hsrc1
  generalize hWW : ((((w.alloc (.cells #[dptr d] 34)).alloc (.cells #[.string s] 9)).alloc (.cells #[.int .i64 (a : Int)] 3)).alloc (.cells #[.slice Ab nb cb] 30)).drewN n = W0 at *
  clear hWW
  have hsrcT : ∀ W, Fr okS W0 W → Src W okS Ab nb b := fun W hW => hsrcW.fr' hslW hW (fun _ hk => .inl hk)
  unfold writeM
  cases hx : M.fs (nm s) with
  | some f =>
    exact stroke_any hD Try.func39 rfl rfl (fun W hW hDW => write_old hDW (hbd.fr' hW (fun _ hk => .inl hk)) (hbn.fr' hW (fun _ hk => .inl hk)) (hba.fr' hW (fun _ hk => .inl hk)) (hbb.fr' hW (fun _ hk => .inl hk)) hs (hsrcT W hW) hnb ha hx (hfit.len _ _ hx).2) Try.func34 rfl rfl (fun _ W ok' _ _ hDW => nothing_any hDW) hfit.st0 hfit.st1
  | none =>
    obtain ⟨L, hL⟩ := hD.isL
    have hc := card_eq hL
    have h16 : L.length ≤ 16 := by rw [← hc]; exact hfit.cd
    by_cases hlt : card M.fs < 16
    · simp only [if_pos hlt]
      exact stroke_any hD Try.func39 rfl rfl (fun W hW hDW => write_new hDW (hbd.fr' hW (fun _ hk => .inl hk)) (hbn.fr' hW (fun _ hk => .inl hk)) (hba.fr' hW (fun _ hk => .inl hk)) (hbb.fr' hW (fun _ hk => .inl hk)) hs (hsrcT W hW) hnb ha hx hL.1 hL.2 (by omega)) Try.func34 rfl rfl (fun _ W ok' _ _ hDW => nothing_any hDW) hfit.st0 hfit.st1
    · simp only [if_neg hlt]
      exact stroke_any hD (fs1 := M.fs) (fs2 := M.fs) Try.func39 rfl rfl (fun W hW hDW => (write_full hDW (hbd.fr' hW (fun _ hk => .inl hk)) (hbn.fr' hW (fun _ hk => .inl hk)) hs hx hL.1 hL.2 (by omega)).mono (fun e w' ⟨he, m, hm⟩ => ⟨he, by rw [hm]; exact (Left.same hDW).drewN m⟩)) Try.func34 rfl rfl (fun _ W ok' _ _ hDW => nothing_any hDW) hfit.st0 hfit.st1

theorem trunc_any {w : World} {d : Nat} {M : DM} {ok : Nat → Prop} (h : DiskAt w d M ok) (hfit : Fit M) {s : ByteArray} {a : Nat} (hg : GoodN s) (ha : a ≤ 4194304) :
    Calls Try.prog 13 #[dptr d, .string s, .int .i64 (a : Int)] w fun e w' => e = .returned (.int .i64 (truncM M (nm s) a).1) ∧ Left w d (truncM M (nm s) a).2 ok w' := by
  have hs : s.size ≤ maxLen := by have := hg.2.2; unfold maxLen; omega
  refine trunc_goes (a : Int) ⟨hg, by omega, by omega⟩ (fun n => ?_) (fun e w' hq => ⟨_, hq.1⟩)
  have hT := h.tight
  obtain ⟨okS, hokS⟩ : ∃ okS : Nat → Prop, okS = (fun k => ok k ∧ k < w.heap.size) := ⟨_, rfl⟩
  have hloose : ∀ (W : World) (r : Int × DM), Fr (fun k => ok k ∧ k < w.heap.size) w W → (Calls Try.prog 31 #[dptr d, .func (.func 32) #[] #[bptr w.heap.size, bptr (w.heap.size + 1), bptr (w.heap.size + 2)], .func (.func 34) #[] #[]] W fun e w' => e = .returned (.int .i64 r.1) ∧ Left W d r.2 (fun k => ok k ∧ k < w.heap.size) w') → Calls Try.prog 31 #[dptr d, .func (.func 32) #[] #[bptr w.heap.size, bptr (w.heap.size + 1), bptr (w.heap.size + 2)], .func (.func 34) #[] #[]] W fun e w' => e = .returned (.int .i64 r.1) ∧ Left w d r.2 ok w' :=
    fun W r hW hc => hc.mono fun e w' ⟨he, hL⟩ => ⟨he, hL.loose hW⟩
  refine hloose _ (truncM M (nm s) a) (((((Fr.refl _ w).alloc _).alloc _).alloc _).drewN _) ?_
  clear hloose
  have hbd : Box ((((w.alloc (.cells #[dptr d] 34)).alloc (.cells #[.string s] 9)).alloc (.cells #[.int .i64 (a : Int)] 3)).drewN n) (fun k => ok k ∧ k < w.heap.size) w.heap.size (dptr d) 34 := ⟨by show ((((w.heap.push _).push _).push _))[_]? = _; exact lies (lies (fresh _ _ (rfl)) _) _, fun hk => by have := hk.2; omega⟩
  have hbn : Box ((((w.alloc (.cells #[dptr d] 34)).alloc (.cells #[.string s] 9)).alloc (.cells #[.int .i64 (a : Int)] 3)).drewN n) (fun k => ok k ∧ k < w.heap.size) (w.heap.size + 1) (.string s) 9 := ⟨by show ((((w.heap.push _).push _).push _))[_]? = _; exact lies (fresh _ _ (by simp only [Array.size_push])) _, fun hk => by have := hk.2; omega⟩
  have hba : Box ((((w.alloc (.cells #[dptr d] 34)).alloc (.cells #[.string s] 9)).alloc (.cells #[.int .i64 (a : Int)] 3)).drewN n) (fun k => ok k ∧ k < w.heap.size) (w.heap.size + 2) (.int .i64 (a : Int)) 3 := ⟨by show ((((w.heap.push _).push _).push _))[_]? = _; exact fresh _ _ (by simp only [Array.size_push]), fun hk => by have := hk.2; omega⟩
  have hD : DiskAt ((((w.alloc (.cells #[dptr d] 34)).alloc (.cells #[.string s] 9)).alloc (.cells #[.int .i64 (a : Int)] 3)).drewN n) d M (fun k => ok k ∧ k < w.heap.size) := ((((hT.alloc _).alloc _).alloc _)).drewN n
  rw [← hokS] at hbd hbn hba hD ⊢
  clear hT
  generalize hWW : (((w.alloc (.cells #[dptr d] 34)).alloc (.cells #[.string s] 9)).alloc (.cells #[.int .i64 (a : Int)] 3)).drewN n = W0 at *
  clear hWW
  unfold truncM
  cases hx : M.fs (nm s) with
  | some f => exact stroke_any hD Try.func32 rfl rfl (fun W hW hDW => trunc_old hDW (hbd.fr' hW (fun _ hk => .inl hk)) (hbn.fr' hW (fun _ hk => .inl hk)) (hba.fr' hW (fun _ hk => .inl hk)) hs ha hx (hfit.len _ _ hx).2) Try.func34 rfl rfl (fun _ W ok' _ _ hDW => nothing_any hDW) hfit.st0 hfit.st1
  | none => exact stroke_any hD (fs1 := M.fs) (fs2 := M.fs) Try.func32 rfl rfl (fun W hW hDW => trunc_none hDW (hbd.fr' hW (fun _ hk => .inl hk)) (hbn.fr' hW (fun _ hk => .inl hk)) hs hx) Try.func34 rfl rfl (fun _ W ok' _ _ hDW => nothing_any hDW) hfit.st0 hfit.st1

theorem sync_any {w : World} {d : Nat} {M : DM} {ok : Nat → Prop} (h : DiskAt w d M ok) (hfit : Fit M) {s : ByteArray}  (hg : GoodN s) :
    Calls Try.prog 14 #[dptr d, .string s] w fun e w' => e = .returned (.int .i64 (syncM M (nm s)).1) ∧ Left w d (syncM M (nm s)).2 ok w' := by
  have hs : s.size ≤ maxLen := by have := hg.2.2; unfold maxLen; omega
  refine sync_goes ⟨hg, trivial⟩ (fun n => ?_) (fun e w' hq => ⟨_, hq.1⟩)
  have hT := h.tight
  obtain ⟨okS, hokS⟩ : ∃ okS : Nat → Prop, okS = (fun k => ok k ∧ k < w.heap.size) := ⟨_, rfl⟩
  have hloose : ∀ (W : World) (r : Int × DM), Fr (fun k => ok k ∧ k < w.heap.size) w W → (Calls Try.prog 31 #[dptr d, .func (.func 35) #[] #[bptr w.heap.size, bptr (w.heap.size + 1)], .func (.func 37) #[] #[bptr w.heap.size, bptr (w.heap.size + 1)]] W fun e w' => e = .returned (.int .i64 r.1) ∧ Left W d r.2 (fun k => ok k ∧ k < w.heap.size) w') → Calls Try.prog 31 #[dptr d, .func (.func 35) #[] #[bptr w.heap.size, bptr (w.heap.size + 1)], .func (.func 37) #[] #[bptr w.heap.size, bptr (w.heap.size + 1)]] W fun e w' => e = .returned (.int .i64 r.1) ∧ Left w d r.2 ok w' :=
    fun W r hW hc => hc.mono fun e w' ⟨he, hL⟩ => ⟨he, hL.loose hW⟩
  refine hloose _ (syncM M (nm s)) ((((Fr.refl _ w).alloc _).alloc _).drewN _) ?_
  clear hloose
  have hbd : Box (((w.alloc (.cells #[dptr d] 34)).alloc (.cells #[.string s] 9)).drewN n) (fun k => ok k ∧ k < w.heap.size) w.heap.size (dptr d) 34 := ⟨by show (((w.heap.push _).push _))[_]? = _; exact lies (fresh _ _ (rfl)) _, fun hk => by have := hk.2; omega⟩
  have hbn : Box (((w.alloc (.cells #[dptr d] 34)).alloc (.cells #[.string s] 9)).drewN n) (fun k => ok k ∧ k < w.heap.size) (w.heap.size + 1) (.string s) 9 := ⟨by show (((w.heap.push _).push _))[_]? = _; exact fresh _ _ (by simp only [Array.size_push]), fun hk => by have := hk.2; omega⟩
  have hD : DiskAt (((w.alloc (.cells #[dptr d] 34)).alloc (.cells #[.string s] 9)).drewN n) d M (fun k => ok k ∧ k < w.heap.size) := (((hT.alloc _).alloc _)).drewN n
  rw [← hokS] at hbd hbn hD ⊢
  clear hT
  generalize hWW : ((w.alloc (.cells #[dptr d] 34)).alloc (.cells #[.string s] 9)).drewN n = W0 at *
  clear hWW
  unfold syncM
  cases hx : M.fs (nm s) with
  | some f => exact stroke_any hD (fs1 := M.fs) Try.func35 rfl rfl (fun W hW hDW => sync_some hDW (hbd.fr' hW (fun _ hk => .inl hk)) (hbn.fr' hW (fun _ hk => .inl hk)) hs hx) Try.func37 rfl rfl (fun _ W ok' hks hW hDW => sync_safe hDW (hbd.fr' hW hks) (hbn.fr' hW hks) hs hx (hfit.len _ _ hx).2) hfit.st0 hfit.st1
  | none => exact stroke_any hD (fs1 := M.fs) (fs2 := M.fs) Try.func35 rfl rfl (fun W hW hDW => sync_none hDW (hbd.fr' hW (fun _ hk => .inl hk)) (hbn.fr' hW (fun _ hk => .inl hk)) hs hx) (G := 37) Try.func37 rfl rfl (fun h => by simp at h) hfit.st0 hfit.st1

theorem del_any {w : World} {d : Nat} {M : DM} {ok : Nat → Prop} (h : DiskAt w d M ok) (hfit : Fit M) {s : ByteArray}  (hg : GoodN s) :
    Calls Try.prog 15 #[dptr d, .string s] w fun e w' => e = .returned (.int .i64 (delM M (nm s)).1) ∧ Left w d (delM M (nm s)).2 ok w' := by
  have hs : s.size ≤ maxLen := by have := hg.2.2; unfold maxLen; omega
  refine del_goes ⟨hg, trivial⟩ (fun n => ?_) (fun e w' hq => ⟨_, hq.1⟩)
  have hT := h.tight
  obtain ⟨okS, hokS⟩ : ∃ okS : Nat → Prop, okS = (fun k => ok k ∧ k < w.heap.size) := ⟨_, rfl⟩
  have hloose : ∀ (W : World) (r : Int × DM), Fr (fun k => ok k ∧ k < w.heap.size) w W → (Calls Try.prog 31 #[dptr d, .func (.func 38) #[] #[bptr w.heap.size, bptr (w.heap.size + 1)], .func (.func 34) #[] #[]] W fun e w' => e = .returned (.int .i64 r.1) ∧ Left W d r.2 (fun k => ok k ∧ k < w.heap.size) w') → Calls Try.prog 31 #[dptr d, .func (.func 38) #[] #[bptr w.heap.size, bptr (w.heap.size + 1)], .func (.func 34) #[] #[]] W fun e w' => e = .returned (.int .i64 r.1) ∧ Left w d r.2 ok w' :=
    fun W r hW hc => hc.mono fun e w' ⟨he, hL⟩ => ⟨he, hL.loose hW⟩
  refine hloose _ (delM M (nm s)) ((((Fr.refl _ w).alloc _).alloc _).drewN _) ?_
  clear hloose
  have hbd : Box (((w.alloc (.cells #[dptr d] 34)).alloc (.cells #[.string s] 9)).drewN n) (fun k => ok k ∧ k < w.heap.size) w.heap.size (dptr d) 34 := ⟨by show (((w.heap.push _).push _))[_]? = _; exact lies (fresh _ _ (rfl)) _, fun hk => by have := hk.2; omega⟩
  have hbn : Box (((w.alloc (.cells #[dptr d] 34)).alloc (.cells #[.string s] 9)).drewN n) (fun k => ok k ∧ k < w.heap.size) (w.heap.size + 1) (.string s) 9 := ⟨by show (((w.heap.push _).push _))[_]? = _; exact fresh _ _ (by simp only [Array.size_push]), fun hk => by have := hk.2; omega⟩
  have hD : DiskAt (((w.alloc (.cells #[dptr d] 34)).alloc (.cells #[.string s] 9)).drewN n) d M (fun k => ok k ∧ k < w.heap.size) := (((hT.alloc _).alloc _)).drewN n
  rw [← hokS] at hbd hbn hD ⊢
  clear hT
  generalize hWW : ((w.alloc (.cells #[dptr d] 34)).alloc (.cells #[.string s] 9)).drewN n = W0 at *
  clear hWW
  unfold delM
  cases hx : M.fs (nm s) with
  | some f => exact stroke_any hD Try.func38 rfl rfl (fun W hW hDW => del_some hDW (hbd.fr' hW (fun _ hk => .inl hk)) (hbn.fr' hW (fun _ hk => .inl hk)) hs hx) Try.func34 rfl rfl (fun _ W ok' _ _ hDW => nothing_any hDW) hfit.st0 hfit.st1
  | none => exact stroke_any hD Try.func38 rfl rfl (fun W hW hDW => del_none hDW (hbd.fr' hW (fun _ hk => .inl hk)) (hbn.fr' hW (fun _ hk => .inl hk)) hs hx) Try.func34 rfl rfl (fun _ W ok' _ _ hDW => nothing_any hDW) hfit.st0 hfit.st1
end Go.Proofs.Ytgpniaplpibhfaa

/-
  A pager's marks: maps.Clone of its written pages.
-/
import Derived.Test.YtmdpgjdepflbmaaGreatCD
import Derived.Test.YtmdpgjdepflbmaaGreatKeys
import Derived.Test.YtmdpgjdepflbmaaGreatCF
import Derived.Test.YtmdpgjdepflbmaaGreatFacts
import Derived.ChangeOld
import Derived.ShutString
namespace Go.Proofs.YtmdpgjdepflbmaaGreat
open Go.RowKit Go.Maps Go.Proofs.YtmdpgjdepflbmaaGreatW.PrintWords Go.Proofs.YtmdpgjdepflbmaaGreatW.PrintLast Go.Proofs.YtmdpgjdepflbmaaGreatW.PrintMore
open Go.Proofs.YtmdpgjdepflbmaaGreat.PPagerFolds
set_option linter.unusedVariables false
set_option linter.unusedSimpArgs false

theorem clone_own {w : World} {ok : Nat → Prop} {b : Nat} {own : Own} (h : OwnAt w ok b own) :
    Calls Tryz.prog 62 #[.map (some b)] w fun e w' => e = .returned (.map (some w.heap.size)) ∧ OwnAt w' (fun k => ok k ∨ k = w.heap.size) w.heap.size own ∧ Below w.heap.size w w' := by
  obtain ⟨ho, f, sz, ⟨⟨n, D, hm, hD⟩, hf⟩, h2, h3⟩ := h
  refine (AnyW.maps_Clone_owns Tryz.cloneM _ _ b n D w hm).mono ?_
  rintro e w' ⟨rfl, h4, _, hb⟩
  refine ⟨rfl, ⟨.inr rfl, f, sz, ⟨⟨n, D, h4, hD⟩, hf⟩, h2, fun x v hx => ?_⟩, hb⟩
  obtain ⟨a, c, bs, d, e, g⟩ := h3 x v hx
  exact ⟨a, c, bs, d, e, (g.step (fun k hk hl => hb.block k hl)).mono (fun k hk => .inl hk)⟩




theorem OwnAt.other {w w' : World} {ok ok' : Nat → Prop} {b p : Nat} {own : Own} {cs : Array Value} (h5 : OwnAt w ok b own) (hp : w.heap[p]? = some (.cells cs 113 (0, 0))) (hm : ∀ k, ok k → k < w.heap.size → k ≠ p → w'.heap[k]? = w.heap[k]?) (hok : ∀ k, ok k → ok' k) : OwnAt w' ok' b own := by
  obtain ⟨ho1, f, sz, hS, hn, hs⟩ := h5
  have hbp : b ≠ p := by
    obtain ⟨o', ho', hne'⟩ := hS.isMap
    rintro rfl
    rw [hp] at ho'
    exact hne' _ _ (Option.some.inj ho').symm
  refine ⟨hok _ ho1, f, sz, hS.move (hm b ho1 hS.lt hbp), hn, fun x v hx => ?_⟩
  obtain ⟨a1, a2, bs', a3, a4, a5⟩ := hs x v hx
  exact ⟨a1, a2, bs', a3, a4, a5.same (fun k hk => hm k (a5.1 k hk) (a5.lt hk) (a5.ne hp (fun cs e => by injection e with _ e2; cases e2) hk)) (fun k hk => hok k (a5.1 k hk))⟩
/-- written pages stand where blocks that are no cells of another type than bytes' stand -/
theorem OwnAt.fine {w w' : World} {ok ok' : Nat → Prop} {b : Nat} {own : Own} (h5 : OwnAt w ok b own) (hm : ∀ k, ok k → k < w.heap.size → (∀ cs t, w.heap[k]? = some (.cells cs t (0, 0)) → t = 5) → w'.heap[k]? = w.heap[k]?) (hok : ∀ k, ok k → ok' k) : OwnAt w' ok' b own := by
  obtain ⟨ho1, f, sz, hS, hn, hs⟩ := h5
  refine ⟨hok _ ho1, f, sz, hS.move (hm b ho1 hS.lt (fun cs t h => ?_)), hn, fun x v hx => ?_⟩
  · obtain ⟨o', ho', hne'⟩ := hS.isMap
    rw [h] at ho'
    exact absurd (Option.some.inj ho').symm (hne' _ _)
  · obtain ⟨a1, a2, bs', a3, a4, a5⟩ := hs x v hx
    refine ⟨a1, a2, bs', a3, a4, a5.same (fun k hk => hm k (a5.1 k hk) (a5.lt hk) (fun cs t h => ?_)) (fun k hk => hok k (a5.1 k hk))⟩
    obtain ⟨cs', hc⟩ := a5.block hk
    rw [h] at hc
    injection hc with hc
    injection hc
theorem mkCells_snoc (m : Mk) (b : Nat) : ∀ (ms : List Mk) (bs : List Nat), bs.length = ms.length → mkCells (ms ++ [m]) (bs ++ [b]) = mkCells ms bs ++ [.int .i64 m.n, .map (some b), .int .i64 m.count]
  | [], [], _ => rfl
  | m' :: ms, b' :: bs, h => by
    simp only [List.cons_append, mkCells]
    rw [mkCells_snoc m b ms bs (by simpa using h)]
theorem infoMk : (Tryz.prog.info? 123).map (fun i => (i.zero, i.size, i.bytes)) = some (some (.agg #[.int .i64 0, .map none, .int .i64 0]), 3, 24) := by kernel_rfl
set_option maxRecDepth 100000 in
theorem mark_row {w : World} {X : PG} {ok : Nat → Prop} {bo : Nat} {vw vm : Value} (h : PRep w X ok bo vw vm) (hi : X.inn = true) (hd : X.dead = false) (hn0 : 0 ≤ X.next) (hn : X.next < 1000000) (hml : X.marks.length ≤ 100000) :
    Calls Tryz.prog 32 #[dp X.p] w fun e w' => e = .returned (.tuple #[.int .i64 (X.next + 1), .int .i64 0]) ∧ ∃ v4, PRep w' { X with next := X.next + 1, marks := X.marks ++ [⟨X.next + 1, X.own, X.count⟩] } (fun k => ok k ∨ (w.heap.size ≤ k ∧ k < w'.heap.size)) bo vw v4 ∧ Fr ok w w' := by
  have HA := Aside0.mk (ask_any ⟨bo, vw, vm, h⟩)
  have c11' := h.cell 11
  have f11' := h.frozen 11
  have hp := h.hp
  have hplt' := h.lt
  have HO := h.own hi
  rw [hi, if_pos rfl] at hp
  obtain ⟨p, hpe⟩ : ∃ p, p = X.p := ⟨_, rfl⟩
  obtain ⟨nx, hnx⟩ : ∃ nx, nx = X.next := ⟨_, rfl⟩
  obtain ⟨ct, hct⟩ : ∃ ct, ct = X.count := ⟨_, rfl⟩
  have hE : askE X = 0 := by unfold askE; rw [hd, hi]; rfl
  rw [hE] at HA
  rw [← hpe, ← hnx, ← hct] at hp
  rw [← hpe] at HA c11' f11' hplt' ⊢
  rw [← hnx] at c11' hn0 hn ⊢
  obtain ⟨w1, hw1⟩ : ∃ w1, w1 = w.setCell ⟨p, 11, none⟩ (.int .i64 (nx + 1)) := ⟨_, rfl⟩
  have hp1 : w1.heap[p]? = some (.cells #[dp X.d, .int .i64 X.mode, dp X.l, .int .i64 X.c, .bool X.dead, .bool true, .bool X.wrote, vw, .map (some bo), .int .i64 ct, vm, .int .i64 (nx + 1), .int .i64 X.sure] 113 (0, 0)) := by rw [hw1]; exact (md_set (cs := [_, _, _, _, _, _, _, _, _, _, _, _, _]) hp 11 (.int .i64 (nx + 1))).1
  have c10 := cell_of_row w1 p 10 _ _ (0, 0) hp1
  have c11 := cell_of_row w1 p 11 _ _ (0, 0) hp1
  have c8 := cell_of_row w1 p 8 _ _ (0, 0) hp1
  have c9 := cell_of_row w1 p 9 _ _ (0, 0) hp1
  replace c10 : w1.drew.cell? ⟨p, 10, none⟩ = some vm := c10
  replace c11 : w1.drew.cell? ⟨p, 11, none⟩ = some (.int .i64 (nx + 1)) := c11
  replace c8 : w1.drew.cell? ⟨p, 8, none⟩ = some (.map (some bo)) := c8
  replace c9 : w1.drew.cell? ⟨p, 9, none⟩ = some (.int .i64 ct) := c9
  have hplt : p < w1.drew.heap.size := heap_lt (o := _) (w := w1.drew) hp1
  have hO1 : OwnAt w1.drew ok bo X.own := by
    have hO1 : OwnAt w1 ok bo X.own := HO.other hp (fun k _ _ hk => by rw [hw1]; exact Below.heap_setCell _ _ _ _ hk) (fun _ h => h)
    exact hO1.move (fun _ _ _ => rfl)
  have HCl := Aside0.mk (clone_own hO1)
  obtain ⟨hvok, bs, hbl, hown, hms⟩ := h.marks
  have hvp : ∀ k, vm.ownBlock = some k → k ≠ p := fun k hk e => by
    obtain ⟨cs, hcs⟩ := own_typed hown k hk
    rw [e, hp] at hcs
    injection hcs with hcs
    injection hcs with _ hcs
    exact absurd hcs (by decide)
  have hown1 : w1.ownsRow 0 123 3 vm X.marks.length (mkCells X.marks bs) := own_at_heap hown (fun k hk => by rw [hw1]; exact Below.heap_setCell _ _ _ _ (hvp k hk))
  have HAp : Aside0 (∀ w2, Below w1.drew.heap.size w1.drew w2 → ∃ v1 w4, (Builtin.append_ #[111, 111] 111 #[vm, .slice (some ⟨w2.heap.size, 0, none⟩) 1 1]).run Tryz.prog (w2.alloc (.cells #[.int .i64 (nx + 1), .map (some w1.heap.size), .int .i64 ct] 123)) = .ok v1 w4 ∧ w4.ownsRow 0 123 3 v1 (X.marks.length + 1) (mkCells X.marks bs ++ [.int .i64 (nx + 1), .map (some w1.heap.size), .int .i64 ct]) ∧ (w2.alloc (.cells #[.int .i64 (nx + 1), .map (some w1.heap.size), .int .i64 ct] 123)).grownBy w4 vm.ownBlock ∧ (v1.ownBlock = vm.ownBlock ∨ v1.ownBlock = some (w2.heap.size + 1))) := ⟨fun w2 hb => by
    have hown3 : (w2.alloc (.cells #[.int .i64 (nx + 1), .map (some w1.heap.size), .int .i64 ct] 123)).ownsRow 0 123 3 vm X.marks.length (mkCells X.marks bs) := own_at_heap hown1 (fun k hk => by
      have hkl : k < w1.drew.heap.size := own_lt hown1 k hk
      rw [Below.heap_alloc w2 _ k (Nat.lt_of_lt_of_le hkl hb.size)]
      exact hb.block k hkl)
    obtain ⟨i0, hi0, hz⟩ := Option.map_eq_some_iff.1 infoMk
    simp only [Prod.mk.injEq] at hz
    obtain ⟨v', w', h1, h2, h3, _, h5⟩ := run_append_own_at (P := Tryz.prog) (w2.alloc (.cells #[.int .i64 (nx + 1), .map (some w1.heap.size), .int .i64 ct] 123)) 0 111 111 123 i0 _ 3 24 Tryz.underlying111 hi0 hz.1 hz.2.1 hz.2.2 rfl (by decide) vm X.marks.length (mkCells X.marks bs) hown3 ⟨w2.heap.size, 0, none⟩ 1 1 [.int .i64 (nx + 1), .map (some w1.heap.size), .int .i64 ct] rfl (fun j u hu => World.news_of_block (heap_alloc_new w2 _) j u hu) (by simp [Value.oneCell']) (by simp only [maxLen]; omega) (by omega) (Nat.zero_le _)
    exact ⟨v', w', h1, h2, h3, by simpa using h5⟩⟩
  have HVP := Aside0.mk hvp
  have HBS := Aside0.mk (And.intro hbl (And.intro hms (And.intro hvok (And.intro hown (And.intro hi (And.intro hd hp))))))
  clear hbl hms hvok hown hown1
  have HX := Aside0.mk (And.intro hp1 (And.intro h (And.intro hpe (And.intro hnx hct))))
  have HW1 := Aside0.mk hw1
  clear hp hplt' HO h hp1 hO1 hi hd hE hpe hnx hct
  go_enter Tryz.func32, Tryz.ntmps32
  go_wp2_with (go_at_call 53; refine (HA.out).mono ?_; rintro e w' ⟨rfl, rfl⟩)
  rw [← hw1]
  refine start_ (n := 24) (S := fun w' => w'.cell? ⟨p, 10, none⟩ = some vm ∧ w'.cell? ⟨p, 11, none⟩ = some (.int .i64 (nx + 1)) ∧ w'.cell? ⟨p, 8, none⟩ = some (.map (some bo)) ∧ w'.cell? ⟨p, 9, none⟩ = some (.int .i64 ct)) (ds := [23]) #[false, false, false, false, false, false, false, false, false, false, false, false, false, false, false, false, false, false, false, false, false, false, false, false] (by kernel_rfl) rfl rfl ⟨c10, c11, c8, c9⟩ (fun hHeld => ?_)
  refine pure_ (i := 0) (N := some 17) (v := ?_) (a' := ?_) #[true, false, false, false, false, false, false, false, false, false, false, false, false, false, false, false, false, false, false, false, false, false, false, false] rfl rfl (by kernel_rfl) (fun _ _ _ h => h) (Or.inl ⟨by rfl, ?_⟩) ?_ ?_
  rotate_left
  · intro w'
    go_simp
    with_reducible rfl
  rotate_left
  · simp only [Act.put, List.setIfInBounds_toArray, List.set_cons_zero, List.set_cons_succ, i64_w, i32_w]
    rfl
  refine pure_ (i := 1) (N := some 18) (v := ?_) (a' := ?_) #[true, true, false, false, false, false, false, false, false, false, false, false, false, false, false, false, false, false, false, false, false, false, false, false] rfl rfl (by kernel_rfl) (fun _ _ _ h => h) (Or.inl ⟨by rfl, ?_⟩) ?_ ?_
  rotate_left
  · intro w'
    go_simp
    with_reducible rfl
  rotate_left
  · simp only [Act.put, List.setIfInBounds_toArray, List.set_cons_zero, List.set_cons_succ, i64_w, i32_w]
    rfl
  refine pure_ (i := 2) (N := some 19) (v := ?_) (a' := ?_) #[true, true, true, false, false, false, false, false, false, false, false, false, false, false, false, false, false, false, false, false, false, false, false, false] rfl rfl (by kernel_rfl) (fun _ _ _ h => h) (Or.inl ⟨by rfl, ?_⟩) ?_ ?_
  rotate_left
  · intro w'
    go_simp
    with_reducible rfl
  rotate_left
  · simp only [Act.put, List.setIfInBounds_toArray, List.set_cons_zero, List.set_cons_succ, i64_w, i32_w]
    rfl
  refine pure_ (i := 3) (N := some 20) (v := ?_) (a' := ?_) #[true, true, true, true, false, false, false, false, false, false, false, false, false, false, false, false, false, false, false, false, false, false, false, false] rfl rfl (by kernel_rfl) (fun _ _ _ h => h) (Or.inl ⟨by rfl, ?_⟩) ?_ ?_
  rotate_left
  · intro w'
    go_simp
    with_reducible rfl
  rotate_left
  · simp only [Act.put, List.setIfInBounds_toArray, List.set_cons_zero, List.set_cons_succ, i64_w, i32_w]
    rfl
  refine take_ (i := 4) (N := some 21) (v := ?_) (a' := ?_) #[true, true, true, true, true, false, false, false, false, false, false, false, false, false, false, false, false, false, false, false, false, false, false, false] rfl rfl (by kernel_rfl) (fun _ _ _ h => h) (Or.inl ⟨by rfl, ?_⟩) hHeld ?_ ?_
  rotate_left
  · rintro w' ⟨s0, s1, s2, s3⟩
    go_simp
    with_reducible rfl
  rotate_left
  · simp only [Act.put, List.setIfInBounds_toArray, List.set_cons_zero, List.set_cons_succ, i64_w, i32_w]
    rfl
  refine pure_ (i := 5) (N := some 22) (v := ?_) (a' := ?_) #[true, true, true, true, true, true, false, false, false, false, false, false, false, false, false, false, false, false, false, false, false, false, false, false] rfl rfl (by kernel_rfl) (fun _ _ _ h => h) (Or.inl ⟨by rfl, ?_⟩) ?_ ?_
  rotate_left
  · intro w'
    go_simp
    with_reducible rfl
  rotate_left
  · simp only [Act.put, List.setIfInBounds_toArray, List.set_cons_zero, List.set_cons_succ, i64_w, i32_w]
    rfl
  refine pure_ (i := 6) (N := some 23) (v := ?_) (a' := ?_) #[true, true, true, true, true, true, true, false, false, false, false, false, false, false, false, false, false, false, false, false, false, false, false, false] rfl rfl (by kernel_rfl) (fun _ _ _ h => h) (Or.inl ⟨by rfl, ?_⟩) ?_ ?_
  rotate_left
  · intro w'
    go_simp
    with_reducible rfl
  rotate_left
  · simp only [Act.put, List.setIfInBounds_toArray, List.set_cons_zero, List.set_cons_succ, i64_w, i32_w]
    rfl
  refine pure_ (i := 7) (N := some 24) (v := ?_) (a' := ?_) #[true, true, true, true, true, true, true, true, false, false, false, false, false, false, false, false, false, false, false, false, false, false, false, false] rfl rfl (by kernel_rfl) (fun _ _ _ h => h) (Or.inl ⟨by rfl, ?_⟩) ?_ ?_
  rotate_left
  · intro w'
    go_simp
    with_reducible rfl
  rotate_left
  · simp only [Act.put, List.setIfInBounds_toArray, List.set_cons_zero, List.set_cons_succ, i64_w, i32_w]
    rfl
  refine take_ (i := 8) (N := some 25) (v := ?_) (a' := ?_) #[true, true, true, true, true, true, true, true, true, false, false, false, false, false, false, false, false, false, false, false, false, false, false, false] rfl rfl (by kernel_rfl) (fun _ _ _ h => h) (Or.inl ⟨by rfl, ?_⟩) hHeld ?_ ?_
  rotate_left
  · rintro w' ⟨s0, s1, s2, s3⟩
    go_simp
    with_reducible rfl
  rotate_left
  · simp only [Act.put, List.setIfInBounds_toArray, List.set_cons_zero, List.set_cons_succ, i64_w, i32_w]
    rfl
  refine pure_ (i := 9) (N := some 26) (v := ?_) (a' := ?_) #[true, true, true, true, true, true, true, true, true, true, false, false, false, false, false, false, false, false, false, false, false, false, false, false] rfl rfl (by kernel_rfl) (fun _ _ _ h => h) (Or.inl ⟨by rfl, ?_⟩) ?_ ?_
  rotate_left
  · intro w'
    go_simp
    with_reducible rfl
  rotate_left
  · simp only [Act.put, List.setIfInBounds_toArray, List.set_cons_zero, List.set_cons_succ, i64_w, i32_w]
    rfl
  refine pure_ (i := 10) (N := some 27) (v := ?_) (a' := ?_) #[true, true, true, true, true, true, true, true, true, true, true, false, false, false, false, false, false, false, false, false, false, false, false, false] rfl rfl (by kernel_rfl) (fun _ _ _ h => h) (Or.inl ⟨by rfl, ?_⟩) ?_ ?_
  rotate_left
  · intro w'
    go_simp
    with_reducible rfl
  rotate_left
  · simp only [Act.put, List.setIfInBounds_toArray, List.set_cons_zero, List.set_cons_succ, i64_w, i32_w]
    rfl
  refine pure_ (i := 11) (N := some 28) (v := ?_) (a' := ?_) #[true, true, true, true, true, true, true, true, true, true, true, true, false, false, false, false, false, false, false, false, false, false, false, false] rfl rfl (by kernel_rfl) (fun _ _ _ h => h) (Or.inl ⟨by rfl, ?_⟩) ?_ ?_
  rotate_left
  · intro w'
    go_simp
    with_reducible rfl
  rotate_left
  · simp only [Act.put, List.setIfInBounds_toArray, List.set_cons_zero, List.set_cons_succ, i64_w, i32_w]
    rfl
  refine take_ (i := 12) (N := some 29) (v := ?_) (a' := ?_) #[true, true, true, true, true, true, true, true, true, true, true, true, true, false, false, false, false, false, false, false, false, false, false, false] rfl rfl (by kernel_rfl) (fun _ _ _ h => h) (Or.inl ⟨by rfl, ?_⟩) hHeld ?_ ?_
  rotate_left
  · rintro w' ⟨s0, s1, s2, s3⟩
    go_simp
    with_reducible rfl
  rotate_left
  · simp only [Act.put, List.setIfInBounds_toArray, List.set_cons_zero, List.set_cons_succ, i64_w, i32_w]
    rfl
  refine pure_ (i := 14) (N := some 31) (v := ?_) (a' := ?_) #[true, true, true, true, true, true, true, true, true, true, true, true, true, false, true, false, false, false, false, false, false, false, false, false] rfl rfl (by kernel_rfl) (fun _ _ _ h => h) (Or.inl ⟨by rfl, ?_⟩) ?_ ?_
  rotate_left
  · intro w'
    go_simp
    with_reducible rfl
  rotate_left
  · simp only [Act.put, List.setIfInBounds_toArray, List.set_cons_zero, List.set_cons_succ, i64_w, i32_w]
    rfl
  refine pure_ (i := 15) (N := some 32) (v := ?_) (a' := ?_) #[true, true, true, true, true, true, true, true, true, true, true, true, true, false, true, true, false, false, false, false, false, false, false, false] rfl rfl (by kernel_rfl) (fun _ _ _ h => h) (Or.inl ⟨by rfl, ?_⟩) ?_ ?_
  rotate_left
  · intro w'
    go_simp
    with_reducible rfl
  rotate_left
  · simp only [Act.put, List.setIfInBounds_toArray, List.set_cons_zero, List.set_cons_succ, i64_w, i32_w]
    rfl
  refine pure_ (i := 16) (N := some 33) (v := ?_) (a' := ?_) #[true, true, true, true, true, true, true, true, true, true, true, true, true, false, true, true, true, false, false, false, false, false, false, false] rfl rfl (by kernel_rfl) (fun _ _ _ h => h) (Or.inl ⟨by rfl, ?_⟩) ?_ ?_
  rotate_left
  · intro w'
    go_simp
    with_reducible rfl
  rotate_left
  · simp only [Act.put, List.setIfInBounds_toArray, List.set_cons_zero, List.set_cons_succ, i64_w, i32_w]
    rfl
  refine take_ (i := 17) (N := some 34) (v := ?_) (a' := ?_) #[true, true, true, true, true, true, true, true, true, true, true, true, true, false, true, true, true, true, false, false, false, false, false, false] rfl rfl (by kernel_rfl) (fun _ _ _ h => h) (Or.inl ⟨by rfl, ?_⟩) hHeld ?_ ?_
  rotate_left
  · rintro w' ⟨s0, s1, s2, s3⟩
    go_simp
    with_reducible rfl
  rotate_left
  · simp only [Act.put, List.setIfInBounds_toArray, List.set_cons_zero, List.set_cons_succ, i64_w, i32_w]
    rfl
  refine one_ (i := 13) (N := some 30) #[true, true, true, true, true, true, true, true, true, true, true, true, true, true, true, true, true, true, false, false, false, false, false, false] rfl rfl (by kernel_rfl) (by decide) (fun K hK => ?_)
  refine goes_ Tryz.func62 (by kernel_rfl) rfl #[.map (some bo)] (by rfl) rfl rfl (by simp only [List.map_toArray, List.map_cons, List.map_nil]; rfl) ?_
  refine HCl.out.mono ?_
  rintro e w2 ⟨rfl, hO2, hb2⟩
  have x10 := (hb2.cell (p := ⟨p, 10, none⟩) hplt).trans c10
  have x11 := (hb2.cell (p := ⟨p, 11, none⟩) hplt).trans c11
  have x8 := (hb2.cell (p := ⟨p, 8, none⟩) hplt).trans c8
  have x9 := (hb2.cell (p := ⟨p, 9, none⟩) hplt).trans c9
  have H2 := Aside0.mk (And.intro hO2 hb2)
  clear hO2 hb2
  refine ⟨_, rfl, ?_⟩
  refine hK.out _ _ ⟨x10, x11, x8, x9⟩ (fun hHeld => ?_)
  clear hK K
  refine norm_ (a' := ?_) ?_ ?_
  rotate_left
  · show Act.put _ (some 30) _ = _
    simp only [Act.put, List.setIfInBounds_toArray, List.set_cons_zero, List.set_cons_succ, i64_w, i32_w]
    rfl
  refine pure_ (i := 18) (N := some 35) (v := ?_) (a' := ?_) #[true, true, true, true, true, true, true, true, true, true, true, true, true, true, true, true, true, true, true, false, false, false, false, false] rfl rfl (by kernel_rfl) (fun _ _ _ h => h) (Or.inl ⟨by rfl, ?_⟩) ?_ ?_
  rotate_left
  · intro w'
    go_simp
    with_reducible rfl
  rotate_left
  · simp only [Act.put, List.setIfInBounds_toArray, List.set_cons_zero, List.set_cons_succ, i64_w, i32_w]
    rfl
  obtain ⟨v1, w4, ha, hown4, hg4, hat4⟩ := HAp.out w2 H2.out.2
  obtain ⟨A4, n4, c4, rfl⟩ : ∃ A4 n4 c4, v1 = .slice A4 n4 c4 := by
    rcases hown4.2 with ⟨h1, _⟩ | ⟨g, cap, cur, h1, _⟩
    · exact ⟨_, _, _, h1⟩
    · exact ⟨_, _, _, h1⟩
  have hp2 := (H2.out.2.block p hplt).trans (show w1.drew.heap[p]? = _ from HX.out.1)
  have hp3 := (Below.heap_alloc w2 (.cells #[.int .i64 (nx + 1), .map (some w1.heap.size), .int .i64 ct] 123) p (heap_lt hp2)).trans hp2
  have hp4 := (hg4.block p (heap_lt hp3) (fun e => HVP.out p e.symm rfl)).trans hp3
  have z10 : w4.cell? ⟨p, 10, none⟩ = some vm := cell_of_row w4 p 10 _ _ (0, 0) hp4
  have z11 : w4.cell? ⟨p, 11, none⟩ = some (.int .i64 (nx + 1)) := cell_of_row w4 p 11 _ _ (0, 0) hp4
  have z8 : w4.cell? ⟨p, 8, none⟩ = some (.map (some bo)) := cell_of_row w4 p 8 _ _ (0, 0) hp4
  have z9 : w4.cell? ⟨p, 9, none⟩ = some (.int .i64 ct) := cell_of_row w4 p 9 _ _ (0, 0) hp4
  have zf : w4.frozen? ⟨p, 10, none⟩ = false := frozen_of_cells hp4 10
  have y10 : (w2.alloc (.cells #[.int .i64 (nx + 1), .map (some w1.heap.size), .int .i64 ct] 123)).cell? ⟨p, 10, none⟩ = some vm := cell_of_row _ p 10 _ _ (0, 0) hp3
  have y11 : (w2.alloc (.cells #[.int .i64 (nx + 1), .map (some w1.heap.size), .int .i64 ct] 123)).cell? ⟨p, 11, none⟩ = some (.int .i64 (nx + 1)) := cell_of_row _ p 11 _ _ (0, 0) hp3
  have y8 : (w2.alloc (.cells #[.int .i64 (nx + 1), .map (some w1.heap.size), .int .i64 ct] 123)).cell? ⟨p, 8, none⟩ = some (.map (some bo)) := cell_of_row _ p 8 _ _ (0, 0) hp3
  have y9 : (w2.alloc (.cells #[.int .i64 (nx + 1), .map (some w1.heap.size), .int .i64 ct] 123)).cell? ⟨p, 9, none⟩ = some (.int .i64 ct) := cell_of_row _ p 9 _ _ (0, 0) hp3
  have z11s : (w4.setCell ⟨p, 10, none⟩ (.slice A4 n4 c4)).cell? ⟨p, 11, none⟩ = some (.int .i64 (nx + 1)) := cell_of_row _ p 11 _ _ (0, 0) (md_set (cs := [_, _, _, _, _, _, _, _, _, _, _, _, _]) hp4 10 (.slice A4 n4 c4)).1
  have H4 := Aside0.mk (And.intro hp4 (And.intro hown4 (And.intro hg4 hat4)))
  clear hp2 hp3 hp4 hown4 hg4 hat4
  refine one_ (i := 19) (N := some 36) #[true, true, true, true, true, true, true, true, true, true, true, true, true, true, true, true, true, true, true, true, false, false, false, false] rfl rfl (by kernel_rfl) (by decide) (fun K hK => ?_)
  refine value_ (v := .slice (some ⟨w2.heap.size, 0, none⟩) 1 1) (w1 := w2.alloc (.cells #[.int .i64 (nx + 1), .map (some w1.heap.size), .int .i64 ct] 123)) (by rfl) rfl ?_ ?_
  · go_simp
  refine hK.out _ _ ⟨y10, y11, y8, y9⟩ (fun hHeld => ?_)
  clear hK K
  refine norm_ (a' := ?_) ?_ ?_
  rotate_left
  · show Act.put _ (some 36) _ = _
    simp only [Act.put, List.setIfInBounds_toArray, List.set_cons_zero, List.set_cons_succ, i64_w, i32_w]
    rfl
  refine one_ (i := 20) (N := some 37) #[true, true, true, true, true, true, true, true, true, true, true, true, true, true, true, true, true, true, true, true, true, false, false, false] rfl rfl (by kernel_rfl) (by decide) (fun K hK => ?_)
  refine value_ (v := .slice A4 n4 c4) (w1 := w4) (by rfl) rfl ?_ ?_
  · exact app_exec (.tmp 21) (.tmp 36) 111 rfl _ _ rfl rfl ha
  refine hK.out _ _ ⟨z10, z11, z8, z9⟩ (fun hHeld => ?_)
  clear hK K
  refine norm_ (a' := ?_) ?_ ?_
  rotate_left
  · show Act.put _ (some 37) _ = _
    simp only [Act.put, List.setIfInBounds_toArray, List.set_cons_zero, List.set_cons_succ, i64_w, i32_w]
    rfl
  refine pure_ (i := 21) (N := some 38) (v := ?_) (a' := ?_) #[true, true, true, true, true, true, true, true, true, true, true, true, true, true, true, true, true, true, true, true, true, true, false, false] rfl rfl (by kernel_rfl) (fun _ _ _ h => h) (Or.inl ⟨by rfl, ?_⟩) ?_ ?_
  rotate_left
  · intro w'
    go_simp
    with_reducible rfl
  rotate_left
  · simp only [Act.put, List.setIfInBounds_toArray, List.set_cons_zero, List.set_cons_succ, i64_w, i32_w]
    rfl
  refine pure_ (i := 22) (N := some 39) (v := ?_) (a' := ?_) #[true, true, true, true, true, true, true, true, true, true, true, true, true, true, true, true, true, true, true, true, true, true, true, false] rfl rfl (by kernel_rfl) (fun _ _ _ h => h) (Or.inl ⟨by rfl, ?_⟩) ?_ ?_
  rotate_left
  · intro w'
    go_simp
    with_reducible rfl
  rotate_left
  · simp only [Act.put, List.setIfInBounds_toArray, List.set_cons_zero, List.set_cons_succ, i64_w, i32_w]
    rfl
  refine last_ (i := 23) (N := none) #[true, true, true, true, true, true, true, true, true, true, true, true, true, true, true, true, true, true, true, true, true, true, true, true] rfl rfl (by kernel_rfl) (by decide) (fun K hK => ?_)
  refine skip_ (w1 := ?_) (by rfl) rfl ?_ ?_
  rotate_left
  · go_simp
    rfl
  refine hK.out _ _ ?_
  clear hK K
  refine done_ (by kernel_rfl) ?_
  go_wp2
  go_ret2
  obtain ⟨hbl, hms, hvok, hown, hi, hd, hp⟩ := HBS.out
  obtain ⟨hp1, h, hpe, hnx, hct⟩ := HX.out
  obtain ⟨hO2, hb2⟩ := H2.out
  obtain ⟨hp4, hown4, hg4, hat4⟩ := H4.out
  have hs1 : w1.heap.size = w.heap.size := by rw [HW1.out]; simp [World.setCell]
  have hs2 : w1.heap.size ≤ w2.heap.size := hb2.size
  have hs4 : w2.heap.size + 1 ≤ w4.heap.size := by have := hg4.size; simpa using this
  have hsF : (w4.setCell ⟨p, 10, none⟩ (.slice A4 n4 c4)).heap.size = w4.heap.size := by simp [World.setCell]
  have hfar : ∀ k, k < w2.heap.size → k ≠ p → vm.ownBlock ≠ some k → (w4.setCell ⟨p, 10, none⟩ (.slice A4 n4 c4)).heap[k]? = w2.heap[k]? := fun k hk hne hv => by
    rw [Below.heap_setCell _ _ _ _ hne, hg4.block k (by simp; omega) (fun e => hv e.symm), Below.heap_alloc w2 _ k hk]
  have hfar1 : ∀ k, k < w.heap.size → k ≠ p → vm.ownBlock ≠ some k → (w4.setCell ⟨p, 10, none⟩ (.slice A4 n4 c4)).heap[k]? = w.heap[k]? := fun k hk hne hv => by
    rw [hfar k (by omega) hne hv, hb2.block k (by show k < w1.heap.size; omega)]
    show w1.heap[k]? = _
    rw [HW1.out]
    exact Below.heap_setCell _ _ _ _ hne
  have hty : ∀ k, (∀ cs t, w.heap[k]? = some (.cells cs t (0, 0)) → t = 5) → k ≠ p ∧ vm.ownBlock ≠ some k := fun k hk => ⟨fun e => by
      rw [e] at hk
      exact absurd (hk _ _ hp) (by decide), fun e => by
      obtain ⟨cs, hcs⟩ := own_typed hown k e
      exact absurd (hk _ _ hcs) (by decide)⟩
  have hokp := h.okp
  have hplt := h.lt
  rw [← hpe] at hokp hplt
  refine ⟨rfl, .slice A4 n4 c4, ⟨?_, .inl hokp, ?_, fun _ => ?_, ?_⟩, ?_⟩
  rotate_right
  · exact ⟨hg4.os.trans (hb2.os.trans (by rw [HW1.out]; rfl)), hg4.tape.trans (hb2.tape.trans (by rw [HW1.out]; rfl)), hg4.output.trans (hb2.output.trans (by rw [HW1.out]; rfl)), by omega, fun k hk hn => hfar1 k hk (fun e => hn (e ▸ hokp)) (fun e => hn (hvok k e))⟩
  · have := (md_set (cs := [_, _, _, _, _, _, _, _, _, _, _, _, _]) hp4 10 (.slice A4 n4 c4)).1
    simp only [hi, if_pos, ← hpe, ← hnx, ← hct]
    exact this
  · refine h.was.same (fun k hk => ?_) (fun k hk => .inl (h.was.1 k hk))
    obtain ⟨cs, hc⟩ := h.was.block hk
    have h5 := hty k (fun cs' t h' => by rw [hc] at h'; injection h' with h'; injection h' with _ h'; exact h'.symm)
    exact hfar1 k (h.was.lt hk) h5.1 h5.2
  · exact (h.own hi).fine (fun k _ hl ht => hfar1 k hl (hty k ht).1 (hty k ht).2) (fun k hk => .inl hk)
  · refine ⟨fun k hk => ?_, bs ++ [w1.heap.size], by simp [hbl], ?_, fun i b m hb hm => ?_⟩
    · rcases hat4 with h' | h'
      · exact .inl (hvok k (by rw [← h', hk]))
      · have hk0 := own_lt hown4 k hk
        rw [h'] at hk
        injection hk with hk
        exact .inr ⟨by omega, by rw [hsF]; exact hk0⟩
    · rw [List.length_append, List.length_singleton]
      have := mkCells_snoc ⟨nx + 1, X.own, X.count⟩ w1.heap.size X.marks bs hbl
      rw [this]
      rw [hct] at hown4
      refine own_at_heap hown4 (fun k hk => Below.heap_setCell _ _ _ _ (fun e => ?_))
      obtain ⟨cs, hcs⟩ := own_typed hown4 k hk
      rw [e, hp4] at hcs
      injection hcs with hcs
      injection hcs with _ hcs
      exact absurd hcs (by decide)
    · by_cases hi2 : i < X.marks.length
      · rw [List.getElem?_append_left (by omega)] at hb
        rw [List.getElem?_append_left hi2] at hm
        obtain ⟨h6, h7⟩ := hms i b m hb hm
        exact ⟨h6.fine (fun k _ hl ht => hfar1 k hl (hty k ht).1 (hty k ht).2) (fun k hk => .inl hk), h7⟩
      · rw [List.getElem?_append_right (by omega)] at hb hm
        have hi3 : i = X.marks.length := by
          have := (List.getElem?_eq_some_iff.1 hm).1
          simp at this
          omega
        subst hi3
        rw [hbl, Nat.sub_self] at hb
        rw [Nat.sub_self] at hm
        obtain rfl : w1.heap.size = b := by simpa using hb
        obtain rfl : (⟨nx + 1, X.own, X.count⟩ : Mk) = m := by simpa using hm
        refine ⟨hO2.fine (fun k hk hl ht => ?_) (fun k hk => hk.elim .inl (fun e => .inr ⟨by rw [e]; show w.heap.size ≤ w1.heap.size; omega, by rw [e, hsF]; show w1.heap.size < w4.heap.size; omega⟩)), by have := (h.own hi).lt; omega⟩
        refine hfar k hl (fun e => ?_) (fun e => ?_)
        · have hp2 := (hb2.block p (by show p < w1.heap.size; omega)).trans (show w1.drew.heap[p]? = _ from hp1)
          rw [e] at ht
          exact absurd (ht _ _ hp2) (by decide)
        · obtain ⟨cs, hcs⟩ := own_typed hown k e
          have hkl := own_lt hown k e
          have h9 : w2.heap[k]? = w.heap[k]? := by
            rw [hb2.block k (by show k < w1.heap.size; omega)]
            show w1.heap[k]? = _
            rw [HW1.out]
            exact Below.heap_setCell _ _ _ _ (HVP.out k e)
          exact absurd (ht _ _ (h9.trans hcs)) (by decide)

theorem s_mark {w : World} {X : PG} {M : DM} {ok : Nat → Prop} (h : Sys w X M ok) (hd : X.dead = false) (hi : X.inn = true) (hn0 : 0 ≤ X.next) (hn : X.next < 1000000) (hml : X.marks.length ≤ 100000) :
    Calls Tryz.prog 32 #[dp X.p] w fun e w' => e = .returned (.tuple #[.int .i64 (X.next + 1), .int .i64 0]) ∧ Sys w' { X with next := X.next + 1, marks := X.marks ++ [⟨X.next + 1, X.own, X.count⟩] } M (Grow w ok w') ∧ Fr ok w w' := by
  obtain ⟨okP, okD, x, v, ⟨bo, vw, vm, hP⟩, hD, hT, hL, h5, h6, h7, hc, hv0, hv1, hv2⟩ := h
  refine (mark_row hP hi hd hn0 hn hml).mono ?_
  rintro e w' ⟨rfl, v4, hP', hFr⟩
  have hs := hFr.size
  have hF := hFr.block
  refine ⟨rfl, ⟨_, okD, x, v, ⟨bo, vw, v4, hP'⟩, hD.move (fun k hk hlt => hF k hlt (fun h => (h5 k h).2.2.1 hk)), (hF _ hT.lt (fun h => (h5 _ h).2.1 rfl)).trans hT, hL, fun k hk => ?_, fun k hk => ⟨.inl (h6 k hk).1, (h6 k hk).2.1, Nat.lt_of_lt_of_le (h6 k hk).2.2 hs⟩, .inl h7, hc, hv0, hv1, hv2⟩, hFr.wide (fun k _ hk => (h5 k hk).1)⟩
  rcases hk with hk | hk
  · exact ⟨.inl (h5 k hk).1, (h5 k hk).2.1, (h5 k hk).2.2.1, Nat.lt_of_lt_of_le (h5 k hk).2.2.2 hs⟩
  · refine ⟨.inr hk, fun e => ?_, fun hk2 => ?_, hk.2⟩
    · have := hT.lt
      rw [e] at hk
      exact absurd this (by have := hk.1; show ¬ X.l < _; exact Nat.not_lt.2 this)
    · have := (h6 k hk2).2.2
      omega
theorem f_mark {w : World} {g : Nat} {B : PG} {M : DM} {V : Int → Bytes} {cnt : Int} {ok : Nat → Prop} (h : FAt w g B M V cnt ok) (hn0 : 0 ≤ B.next) (hn : B.next < 1000000) (hml : B.marks.length ≤ 100000) :
    Calls Tryz.prog 32 #[dp B.p] w fun e w' => e = .returned (.tuple #[.int .i64 (B.next + 1), .int .i64 0]) ∧ ∃ m : Mk, m.n = B.next + 1 ∧ (∀ x, (m.own x).getD (B.page x) = V x) ∧ m.count = cnt ∧ FLeft w g { B with marks := B.marks ++ [m], next := B.next + 1 } M V cnt ok w' := by
  obtain ⟨X, ok1, rfl, rfl, rfl, hi, hd, hw, hS, hg, h1, h2⟩ := h
  refine (s_mark hS hd hi hn0 hn hml).mono ?_
  rintro e w' ⟨rfl, hS', hF⟩
  refine ⟨rfl, ⟨X.next + 1, X.own, X.count⟩, rfl, fun x => rfl, rfl, ⟨{ X with next := X.next + 1, marks := X.marks ++ [⟨X.next + 1, X.own, X.count⟩] }, _, rfl, rfl, rfl, hi, hd, hw, hS', (hF.block g (heap_lt hg) (fun h => (h1 g h).2 rfl)).trans hg, fun k hk => ?_, .inl h2⟩, hF.wide (fun k _ hk => (h1 k hk).1)⟩
  rcases hk with hk | hk
  · exact ⟨.inl (h1 k hk).1, (h1 k hk).2⟩
  · exact ⟨.inr hk, fun e => by have := heap_lt hg; omega⟩
end Go.Proofs.YtmdpgjdepflbmaaGreat

/-
  A pager's transaction ended, or brought back to a mark.
-/
namespace Go.Proofs.YtmdpgjdepflbmaaGreat
open Go.RowKit Go.Maps Go.Proofs.YtmdpgjdepflbmaaGreatW.PrintWords Go.Proofs.YtmdpgjdepflbmaaGreatW.PrintLast Go.Proofs.YtmdpgjdepflbmaaGreatW.PrintMore
open Go.Proofs.YtmdpgjdepflbmaaGreat.PPagerFolds
set_option linter.unusedVariables false
set_option linter.unusedSimpArgs false

/-- a pager whose transaction has ended -/
def PG.ended (X : PG) : PG := { X with inn := false, wrote := false, was := [], own := fun _ => none, count := 0, marks := [] }
set_option maxRecDepth 100000 in
theorem end_any {w : World} {X : PG} {ok : Nat → Prop} {x : Nat → Int} (h : PgAt w X ok) (ht : Tab 108 w X.l x) (hl : ¬ ok X.l) :
    Calls Tryz.prog 59 #[dp X.p] w fun e w' => e = .returned (.tuple #[]) ∧ PLeft w X.ended (lX x X.c 0) ok w' := by
  obtain ⟨bo, vw, vm, h⟩ := h
  have hp := h.hp
  have hplt := h.lt
  obtain ⟨p, hpe⟩ : ∃ p, p = X.p := ⟨_, rfl⟩
  rw [← hpe] at hp hplt ⊢
  obtain ⟨l, hle⟩ : ∃ l, l = X.l := ⟨_, rfl⟩
  rw [← hle] at hp ht hl
  have hpl : l ≠ p := fun e => hl (by rw [e, hpe]; exact h.okp)
  obtain ⟨W, hW⟩ : ∃ W, W = (((((w.setCell ⟨p, 5, none⟩ (.bool false)).setCell ⟨p, 6, none⟩ (.bool false)).setCell ⟨p, 7, none⟩ (.slice none 0 0)).setCell ⟨p, 8, none⟩ (.map none)).setCell ⟨p, 9, none⟩ (.int .i64 0)).setCell ⟨p, 10, none⟩ (.slice none 0 0) := ⟨_, rfl⟩
  have hpW : W.heap[p]? = some (.cells #[dp X.d, .int .i64 X.mode, dp l, .int .i64 X.c, .bool X.dead, .bool false, .bool false, .slice none 0 0, .map none, .int .i64 0, .slice none 0 0, .int .i64 X.next, .int .i64 X.sure] 113 (0, 0)) := by
    rw [hW]
    exact (md_set (cs := [_, _, _, _, _, _, _, _, _, _, _, _, _]) (md_set (cs := [_, _, _, _, _, _, _, _, _, _, _, _, _]) (md_set (cs := [_, _, _, _, _, _, _, _, _, _, _, _, _]) (md_set (cs := [_, _, _, _, _, _, _, _, _, _, _, _, _]) (md_set (cs := [_, _, _, _, _, _, _, _, _, _, _, _, _]) (md_set (cs := [_, _, _, _, _, _, _, _, _, _, _, _, _]) hp 5 (.bool false)).1 6 (.bool false)).1 7 (.slice none 0 0)).1 8 (.map none)).1 9 (.int .i64 0)).1 10 (.slice none 0 0)).1
  have hO : Only p w W := by rw [hW]; exact ((((((Only.refl p w).set_ 5 _).set_ 6 _).set_ 7 _).set_ 8 _).set_ 9 _).set_ 10 _
  have htW : Tab 108 W l x := (hO.block l hpl).trans ht
  have HL := Aside0.mk (lower_all l x X.c 0 W.drew htW.drew)
  have c5 := cell_of_row w p 5 _ _ (0, 0) hp
  have c6 := cell_of_row w p 6 _ _ (0, 0) hp
  have c7 := cell_of_row w p 7 _ _ (0, 0) hp
  have c8 := cell_of_row w p 8 _ _ (0, 0) hp
  have c9 := cell_of_row w p 9 _ _ (0, 0) hp
  have c10 := cell_of_row w p 10 _ _ (0, 0) hp
  have e5 := frozen_of_cells hp 5
  have e6 := frozen_of_cells hp 6
  have e7 := frozen_of_cells hp 7
  have e8 := frozen_of_cells hp 8
  have e9 := frozen_of_cells hp 9
  have e10 := frozen_of_cells hp 10
  have d2 : W.cell? ⟨p, 2, none⟩ = some (dp l) := cell_of_row W p 2 _ _ (0, 0) hpW
  have d3 : W.cell? ⟨p, 3, none⟩ = some (.int .i64 X.c) := cell_of_row W p 3 _ _ (0, 0) hpW
  have HX := Aside0.mk (And.intro h (And.intro hpe (And.intro hle (And.intro hpW (And.intro hO (And.intro hpl (And.intro hp (And.intro hl hplt))))))))
  have HW := Aside0.mk hW
  clear h hpe hle hpW hO hpl hp hl ht htW hW
  go_enter Tryz.func59, Tryz.ntmps59
  go_wp2
  rw [← HW.out]
  clear c5 c6 c7 c8 c9 c10 e5 e6 e7 e8 e9 e10
  go_still_tail 8, (by kernel_rfl)
  go_wp2_with (go_at_call 67; refine (HL.out).mono ?_; rintro e w1 ⟨rfl, ht1, ho1⟩; have H1 := Aside0.mk (And.intro ht1 ho1); clear ht1 ho1)
  go_end0
  obtain ⟨h, hpe, hle, hpW, hO, hpl, hp, hl, hplt⟩ := HX.out
  obtain ⟨ht1, ho1⟩ := H1.out
  have hs : w1.heap.size = w.heap.size := ho1.size.trans hO.size
  have k1 : ∀ k, k ≠ p → k ≠ l → w1.heap[k]? = w.heap[k]? := fun k hk hkl => (ho1.block k hkl).trans (hO.block k hk)
  refine ⟨rfl, ⟨bo, .slice none 0 0, .slice none 0 0, ?_, .inl h.okp, RB.nil _ _, (fun e => by cases e), ⟨fun k hk => by simp [Value.ownBlock] at hk, [], rfl, own_nil _ _ _ _, fun i b m e => by simp at e⟩⟩, ?_, ?_⟩
  · show w1.heap[X.p]? = some (.cells #[dp X.d, .int .i64 X.mode, dp X.l, .int .i64 X.c, .bool X.dead, .bool false, .bool false, .slice none 0 0, .map none, .int .i64 0, .slice none 0 0, .int .i64 X.next, .int .i64 X.sure] _ _)
    rw [← hpe, ← hle, ho1.block p (Ne.symm hpl)]
    exact hpW
  · show Tab _ w1 X.l _
    rw [← hle]
    exact ht1
  · refine ⟨ho1.os.trans hO.os, ho1.tape.trans hO.tape, ho1.output.trans hO.output, by omega, fun k hk hn => k1 k (fun e => hn (.inl (by rw [e, hpe]; exact h.okp))) (fun e => hn (.inr (by rw [e, hle]; rfl)))⟩

/-- a transaction is rolled back -/
theorem s_roll {w : World} {X : PG} {M : DM} {ok : Nat → Prop} (h : Sys w X M ok) (hd : X.dead = false) (hi : X.inn = true) :
    Calls Tryz.prog 27 #[dp X.p] w fun e w' => e = .returned (.int .i64 0) ∧ SLeft w X.ended M ok w' := by
  have HA := Aside0.mk (ask_any h.pg)
  have hE : askE X = 0 := by unfold askE; rw [hd, hi]; rfl
  rw [hE] at HA
  have h0 := h
  obtain ⟨okP, okD, x, v, hP, hD, hT, hL, h5, h6, h7, hc, hv0, hv1, hv2⟩ := h
  have HE := Aside0.mk (end_any hP hT (fun hk => (h5 _ hk).2.1 rfl))
  have HX := Aside0.mk h0
  have HL := Aside0.mk (And.intro hP (And.intro hD (And.intro hT (And.intro hL (And.intro h5 (And.intro h6 (And.intro h7 (And.intro hc (And.intro hv1 hi)))))))))
  clear h0 hP hD hT hL h5 h6 h7 hc hv0 hv1 hv2 hd hi hE
  obtain ⟨p, hp⟩ : ∃ p, p = X.p := ⟨_, rfl⟩
  rw [← hp] at HA HE ⊢
  have HP := Aside0.mk hp
  clear hp
  go_enter Tryz.func27, Tryz.ntmps27
  go_wp2_with (first
    | (go_at_call 53; refine (HA.out).mono ?_; rintro e w' ⟨rfl, rfl⟩)
    | (go_at_call 59; refine (HE.out).mono ?_; rintro e w1 ⟨rfl, hl1⟩; have H1 := Aside0.mk hl1; clear hl1))
  go_ret
  obtain ⟨hP', hT', hF⟩ := H1.out
  obtain ⟨hP, hD, hT, hL, h5, h6, h7, hc, hv1, hi⟩ := HL.out
  have hv := hv1 hi
  have hlo := hL.lower (by omega)
  rw [← hc] at hlo
  refine ⟨rfl, ⟨_, okD, _, 0, hP', hD.move (fun k hk hlt => hF.block k hlt (fun h => h.elim (fun h => (h5 k h).2.2.1 hk) (fun h => (h6 k hk).2.1 h))), hT', hlo, fun k hk => ?_, fun k hk => ⟨.inl (h6 k hk).1, (h6 k hk).2.1, Nat.lt_of_lt_of_le (h6 k hk).2.2 hF.size⟩, .inl h7, hc, fun _ => rfl, (fun h => by cases h), (fun h => by cases h)⟩, hF.wide (fun k _ hk => hk.elim (fun h => (h5 k h).1) (fun h => h ▸ h7))⟩
  rcases hk with hk | hk
  · exact ⟨.inl (h5 k hk).1, (h5 k hk).2.1, (h5 k hk).2.2.1, Nat.lt_of_lt_of_le (h5 k hk).2.2.2 hF.size⟩
  · refine ⟨.inr hk, fun e => ?_, fun hk2 => ?_, hk.2⟩
    · have := hT.lt
      rw [e] at hk
      exact absurd this (by have := hk.1; show ¬ X.l < _; exact Nat.not_lt.2 this)
    · have := (h6 k hk2).2.2
      omega

/-! ### a file of pages outside a transaction -/
theorem gown_out {w : World} {g : Nat} {X : PG} {ok : Nat → Prop} (h : PgAt w X ok) (hg : w.heap[g]? = some (.cells #[dp X.p] 137 (0, 0))) (ha : askE X = 11) :
    Calls Tryz.prog 79 #[dp g] w fun e w' => e = .returned (.tuple #[.slice none 0 0, .int .i64 11]) ∧ w = w' := by
  have c0 := cell_of_row w g 0 _ _ (0, 0) hg
  have HR := pread_ask h 0 (by rw [ha]; decide)
  rw [ha] at HR
  replace HR := Aside0.mk HR
  clear h hg ha
  go_enter Tryz.func79, Tryz.ntmps79
  go_wp2_with (go_at_call 23; refine (HR.out).mono ?_; rintro e w' ⟨rfl, rfl⟩)
  go_ret2
  exact ⟨rfl, rfl⟩
theorem gheldl_out {w : World} {g : Nat} {X : PG} {ok : Nat → Prop} (h : PgAt w X ok) (hg : w.heap[g]? = some (.cells #[dp X.p] 137 (0, 0))) (ha : askE X = 11) :
    Calls Tryz.prog 40 #[dp g] w fun e w' => e = .returned (.tuple #[.slice none 0 0, .int .i64 11]) ∧ w = w' := by
  have HR := Aside0.mk (gown_out h hg ha)
  clear h hg ha
  go_enter Tryz.func40, Tryz.ntmps40
  go_wp2_with (go_at_call 79; refine (HR.out).mono ?_; rintro e w' ⟨rfl, rfl⟩)
  go_ret2
  exact ⟨rfl, rfl⟩

/-! ### back to a mark -/
theorem mkCells_get : ∀ (ms : List Mk) (bs : List Nat) (i : Nat) (m : Mk) (b : Nat), ms[i]? = some m → bs[i]? = some b → (mkCells ms bs)[i * 3]? = some (.int .i64 m.n) ∧ (mkCells ms bs)[i * 3 + 1]? = some (.map (some b)) ∧ (mkCells ms bs)[i * 3 + 2]? = some (.int .i64 m.count)
  | [], _, _, _, _, h, _ => by simp at h
  | _ :: _, [], _, _, _, _, h => by simp at h
  | a :: ms, c :: bs, 0, m, b, h1, h2 => by
    simp at h1 h2
    subst h1 h2
    exact ⟨rfl, rfl, rfl⟩
  | a :: ms, c :: bs, i + 1, m, b, h1, h2 => by
    have := mkCells_get ms bs i m b (by simpa using h1) (by simpa using h2)
    simp only [mkCells]
    rw [show (i + 1) * 3 = i * 3 + 3 by omega, show i * 3 + 3 + 1 = (i * 3 + 1) + 3 by omega, show i * 3 + 3 + 2 = (i * 3 + 2) + 3 by omega]
    simpa using this
theorem mkCells_take : ∀ (ms : List Mk) (bs : List Nat) (n : Nat), (mkCells ms bs).take (n * 3) = mkCells (ms.take n) (bs.take n)
  | _, _, 0 => by simp [mkCells]
  | [], bs, n + 1 => by simp [mkCells]
  | a :: ms, [], n + 1 => by simp [mkCells]
  | a :: ms, c :: bs, n + 1 => by
    simp only [mkCells, List.take_succ_cons]
    rw [show (n + 1) * 3 = n * 3 + 1 + 1 + 1 by omega]
    simp only [List.take_succ_cons]
    rw [mkCells_take ms bs n]
/-- the closure that asks a mark's number -/
theorem isMk_any {w : World} {bx : Nat} {m n c : Int} {vb : Value} (hb : w.heap[bx]? = some (.cells #[.int .i64 m] 3 (0, 0))) :
    Calls Tryz.prog 61 #[.agg #[.int .i64 n, vb, .int .i64 c], .pointer (some ⟨bx, 0, none⟩)] w fun e w' => e = .returned (.bool (n == m)) ∧ w' = w.alloc (.cells #[.int .i64 n, vb, .int .i64 c] 123) := by
  have hc := cell_of_row w bx 0 _ _ (0, 0) hb
  have hlt := heap_lt hb
  have hc' : (w.alloc (.cells #[.int .i64 n, vb, .int .i64 c] 123)).cell? ⟨bx, 0, none⟩ = some (.int .i64 m) := cell_of_row _ bx 0 _ _ (0, 0) ((Below.heap_alloc w _ bx hlt).trans hb)
  clear hb
  go_enter Tryz.func61, Tryz.ntmps61
  go_wp2
  go_ret
  exact ⟨rfl, rfl⟩

/-- the first mark of a number -/
def IdxOf (ms : List Mk) (m r : Int) : Prop := (r = -1 ∧ ∀ (j : Nat) k, ms[j]? = some k → k.n ≠ m) ∨ ∃ (i : Nat) (k : Mk), r = i ∧ ms[i]? = some k ∧ k.n = m ∧ ∀ (j : Nat), j < i → ∀ k, ms[j]? = some k → k.n ≠ m
set_option maxRecDepth 100000 in
theorem idx_any {w : World} {ms : List Mk} {bs : List Nat} {v : Value} {bx : Nat} {m : Int} (hrow : w.ownsRow 0 123 3 v ms.length (mkCells ms bs)) (hbl : bs.length = ms.length) (hb : w.heap[bx]? = some (.cells #[.int .i64 m] 3 (0, 0))) (hlen : ms.length ≤ 1000000) :
    Calls Tryz.prog 60 #[v, .func (.func 61) #[] #[.pointer (some ⟨bx, 0, none⟩)]] w fun e w' => ∃ r : Int, e = .returned (.int .i64 r) ∧ IdxOf ms m r ∧ Below w.heap.size w w' := by
  obtain ⟨A, cap, rfl⟩ : ∃ A cap, v = .slice A ms.length cap := by
    rcases hrow.2 with ⟨rfl, h0⟩ | ⟨g, cap, cur, rfl, _⟩
    · exact ⟨none, 0, by rw [h0]⟩
    · exact ⟨_, _, rfl⟩
  obtain ⟨n, hn⟩ : ∃ n, n = ms.length := ⟨_, rfl⟩
  have HR := Aside0.mk (And.intro hrow (And.intro hbl (And.intro hb hn)))
  rw [← hn] at hlen ⊢
  clear hrow hbl hb hn
  go_enter Tryz.func60, Tryz.ntmps60
  go_wp2
  go_loopw [5, 8] (fun _ v8 wr => ∃ k : Nat, v8 = .int .i64 k ∧ k ≤ n ∧ Aside0 (Below w.heap.size w wr ∧ ∀ (j : Nat), j < k → ∀ x, ms[j]? = some x → x.n ≠ m)) (fun _ v8 _ => n - (intOf v8).toNat)
  case atStart => exact ⟨0, rfl, by omega, Below.refl _ _, fun j hj => by omega⟩
  case round =>
    obtain ⟨k, rfl, hk, HI⟩ := hrel
    by_cases hlt : k < n
    · obtain ⟨hrow, hbl, hb, hn⟩ := HR.out
      have hk2 : k < ms.length := by omega
      obtain ⟨x, hx⟩ : ∃ x, ms[k]? = some x := ⟨_, List.getElem?_eq_getElem hk2⟩
      obtain ⟨b, hbk⟩ : ∃ b, bs[k]? = some b := ⟨_, List.getElem?_eq_getElem (by omega)⟩
      obtain ⟨a0, a1, a2⟩ := mkCells_get ms bs k x b hx hbk
      obtain ⟨g, hg⟩ : ∃ g, A = some ⟨g, 0, none⟩ := by
        rcases hrow.2 with ⟨h1, h0⟩ | ⟨g, cap, cur, h1, _⟩
        · omega
        · injection h1 with h1; exact ⟨g, h1⟩
      subst hg
      have hcell : ∀ j u, (mkCells ms bs)[j]? = some u → wr.cell? ⟨g, j, none⟩ = some u := fun j u hu => by
        have h1 := hrow.cells (g := g) rfl j u hu
        have hadd : (⟨g, 0, none⟩ : Addr).add j = ⟨g, j, none⟩ := by unfold Addr.add; split <;> simp_all
        rw [hadd] at h1
        exact (HI.out.1.cell (p := ⟨g, j, none⟩) (own_lt hrow g rfl)).trans h1
      have c0 := hcell _ _ a0
      have c1 := hcell _ _ a1
      have c2 := hcell _ _ a2
      obtain ⟨xn, hxn⟩ : ∃ xn, xn = x.n := ⟨_, rfl⟩
      obtain ⟨xc, hxc⟩ : ∃ xc, xc = x.count := ⟨_, rfl⟩
      rw [← hxn] at c0
      rw [← hxc] at c2
      have HC := isMk_any (w := wr) (m := m) (n := xn) (c := xc) (vb := .map (some b)) ((HI.out.1.block bx (heap_lt hb)).trans hb)
      have HX := Aside0.mk (And.intro hx hxn)
      by_cases hq : xn = m
      · have q1 : (xn == m) = true := by simp [hq]
        rw [q1] at HC
        have HC := Aside0.mk HC
        have HQ := Aside0.mk hq
        clear hq q1 hrow hbl hb hn hx hbk a0 a1 a2 hcell hxn hxc hk2
        go_wp2_with (go_at_call 61; refine HC.out.mono ?_; rintro e w2 ⟨rfl, hw2⟩; have H2 := Aside0.mk hw2; clear hw2)
        go_ret
        refine ⟨_, rfl, .inr ⟨k, x, rfl, HX.out.1, by rw [← HX.out.2]; exact HQ.out, HI.out.2⟩, ?_⟩
        rw [H2.out]
        exact HI.out.1.alloc HI.out.1.size _
      · have q1 : (xn == m) = false := by simp [hq]
        rw [q1] at HC
        have HC := Aside0.mk HC
        have HQ := Aside0.mk hq
        clear hq q1 hrow hbl hb hn hx hbk a0 a1 a2 hcell hxn hxc hk2
        go_wp2_with (go_at_call 61; refine HC.out.mono ?_; rintro e w2 ⟨rfl, hw2⟩; have H2 := Aside0.mk hw2; clear hw2)
        go_roundw
        case rel =>
          refine ⟨k + 1, by go_num, by omega, by rw [H2.out]; exact HI.out.1.alloc HI.out.1.size _, fun j hj y hy => ?_⟩
          by_cases e : j = k
          · subst e
            rw [HX.out.1] at hy
            obtain rfl := Option.some.inj hy
            rw [← HX.out.2]; exact HQ.out
          · exact HI.out.2 j (by omega) y hy
        case measure => simp [intOf]; omega
    · go_wp2
      go_ret
      refine ⟨_, rfl, .inl ⟨rfl, fun j x hx => HI.out.2 j ?_ x hx⟩, HI.out.1⟩
      have := (List.getElem?_eq_some_iff.1 hx).1
      have := HR.out.2.2.2
      omega

theorem MkAt.lt {w : World} {ok : Nat → Prop} {bo : Nat} {v : Value} {ms : List Mk} (h : MkAt w ok bo v ms) : ∀ k, v.ownBlock = some k → k < w.heap.size := by
  obtain ⟨_, bs, _, hr, _⟩ := h
  exact own_lt hr
/-- what Back leaves of the marks -/
theorem own_take {w : World} {base n size cap g : Nat} {e : TypeId} {xs : List Value} (h : w.ownsRow base e size (.slice (some ⟨g, 0, none⟩) n cap) n xs) (k : Nat) (hk : k ≤ n) : w.ownsRow base e size (.slice (some ⟨g, 0, none⟩) k cap) k (xs.take (k * size)) := by
  obtain ⟨h1, h2⟩ := h
  have hkn : k * size ≤ n * size := Nat.mul_le_mul_right _ hk
  refine ⟨by rw [List.length_take]; omega, ?_⟩
  rcases h2 with ⟨h3, _⟩ | ⟨g', cap', cur, h3, a, b, c, d, f, t⟩
  · cases h3
  · injection h3 with e1 e2 e3
    subst e3
    refine .inr ⟨g', cap, cur, by rw [e1], a, b, by omega, d, f, ?_⟩
    rw [← t, List.take_take, Nat.min_eq_left hkn]
set_option maxHeartbeats 1000000 in
set_option maxRecDepth 100000 in
theorem back_row {w : World} {X : PG} {ok : Nat → Prop} {bo : Nat} {vw vm : Value} (h : PRep w X ok bo vw vm) (hok : ∀ k, ok k → k < w.heap.size) (hi : X.inn = true) (hd : X.dead = false) (hml : X.marks.length ≤ 100000) {m : Int} {i : Nat} {k : Mk} (hk : X.marks[i]? = some k) (hkn : k.n = m) (hfirst : ∀ (j : Nat), j < i → ∀ x, X.marks[j]? = some x → x.n ≠ m) :
    Calls Tryz.prog 31 #[dp X.p, .int .i64 m] w fun e w' => e = .returned (.int .i64 0) ∧ ∃ b' v4, PRep w' { X with own := k.own, count := k.count, marks := X.marks.take (i + 1) } (fun j => ok j ∨ (w.heap.size ≤ j ∧ j < w'.heap.size)) b' vw v4 ∧ Fr ok w w' := by
  obtain ⟨bx, hbx⟩ : ∃ bx, bx = w.heap.size := ⟨_, rfl⟩
  obtain ⟨W, hW⟩ : ∃ W, W = w.alloc (.cells #[.int .i64 m] 3) := ⟨_, rfl⟩
  have hbW : Below w.heap.size w W := by rw [hW]; exact (Below.refl _ _).alloc (Nat.le_refl _) _
  have hsW : W.heap.size = w.heap.size + 1 := by rw [hW]; simp
  have hW0 : W.heap[bx]? = some (.cells #[.int .i64 m] 3 (0, 0)) := by rw [hW, hbx]; exact heap_alloc_new w _
  have hPW : PRep W X ok bo vw vm := h.move (fun j _ hj => hbW.block j hj)
  have HA := ask_any (w := W) (X := X) ⟨bo, vw, vm, hPW⟩
  have hE : askE X = 0 := by unfold askE; rw [hd, hi]; rfl
  rw [hE] at HA
  obtain ⟨hvok, bs, hbl, hown, hms⟩ := hPW.marks
  have hil : i < X.marks.length := (List.getElem?_eq_some_iff.1 hk).1
  obtain ⟨g, cap, hvm⟩ : ∃ g cap, vm = .slice (some ⟨g, 0, none⟩) X.marks.length cap := by
    rcases hown.2 with ⟨_, h0⟩ | ⟨g, cap, cur, h1, _⟩
    · omega
    · exact ⟨g, cap, h1⟩
  subst hvm
  obtain ⟨b, hbk⟩ : ∃ b, bs[i]? = some b := ⟨_, List.getElem?_eq_getElem (by omega)⟩
  obtain ⟨hob, hbne⟩ := hms i b k hbk hk
  have HI := Aside0.mk (idx_any (v := .slice (some ⟨g, 0, none⟩) X.marks.length cap) hown hbl hW0 (by omega))
  have hp := hPW.hp
  rw [hi, if_pos rfl] at hp
  obtain ⟨n, hn⟩ : ∃ n, n = X.marks.length := ⟨_, rfl⟩
  rw [← hn] at HI hp hil
  have hgcap : n ≤ cap := by
    rcases hown.2 with ⟨h1, _⟩ | ⟨g', cap', cur, h1, _, _, h3, _⟩
    · cases h1
    · injection h1 with _ _ h1; omega
  obtain ⟨p, hpe⟩ : ∃ p, p = X.p := ⟨_, rfl⟩
  rw [← hpe] at HA hp ⊢
  have HA := Aside0.mk HA
  have c10 := cell_of_row W p 10 _ _ (0, 0) hp
  have hgp : g ≠ p := fun e => by
    obtain ⟨cs, hcs⟩ := own_typed hown g rfl
    rw [e, hp] at hcs
    injection hcs with hcs
    injection hcs with _ hcs
    exact absurd hcs (by decide)
  have hgl := own_lt hown g rfl
  obtain ⟨a0, a1, a2⟩ := mkCells_get X.marks bs i k b hk hbk
  have hcell : ∀ j u, (mkCells X.marks bs)[j]? = some u → W.cell? ⟨g, j, none⟩ = some u := fun j u hu => by
    have h1 := hown.cells (g := g) rfl j u hu
    have hadd : (⟨g, 0, none⟩ : Addr).add j = ⟨g, j, none⟩ := by unfold Addr.add; split <;> simp_all
    rwa [hadd] at h1
  have b1 := hcell _ _ a1
  have b2 := hcell _ _ a2
  obtain ⟨kc, hkc⟩ : ∃ kc, kc = k.count := ⟨_, rfl⟩
  rw [← hkc] at b2
  have hplt : p < W.heap.size := heap_lt hp
  have hokp : ok p := by rw [hpe]; exact h.okp
  have HX := Aside0.mk (And.intro hk (And.intro hkn (And.intro hfirst (And.intro hn (And.intro hpe (And.intro hkc (And.intro hbk (And.intro hbl (And.intro hown (And.intro hms (And.intro hp (And.intro hob (And.intro hvok (And.intro hi hd))))))))))))))
  have HW := Aside0.mk (And.intro hW (And.intro hbW (And.intro hsW (And.intro hbx (And.intro hPW (And.intro h hok))))))
  have HC := Aside0.mk (And.intro c10 (And.intro b1 b2))
  have HG := Aside0.mk (And.intro hgp (And.intro hgl (And.intro hplt (And.intro hokp hbne))))
  have HIL := Aside0.mk hil
  have q0 : decide ((i : Int) < 0) = false := by simp
  have q1 : (i : Int) + 1 ≤ cap := by omega
  have q2 : (0 : Int) ≤ i := by omega
  have q3 : (cap : Int) ≤ 9223372036854775807 := by
    rcases hown.2 with ⟨h1, _⟩ | ⟨g', cap', cur, h1, _, _, _, h3, _⟩
    · cases h1
    · injection h1 with _ _ h1; unfold maxLen at h3; omega
  clear hk hkn hfirst hn hpe hkc hbk hbl hown hms hp hob hvok hi hd hE hW hbW hsW hW0 hPW h hcell a0 a1 a2 hgp hgl hplt hokp hok hbne hml hgcap hil
  go_enter Tryz.func31, Tryz.ntmps31
  go_wp2_with (first
    | (go_at_call 53; rw [← HW.out.1]; refine (HA.out).mono ?_; rintro e w' ⟨rfl, rfl⟩)
    | fail)
  rw [← HW.out.2.2.2.1]
  refine HI.out.mono ?_
  rintro e w2 ⟨r, rfl, hr, hb2⟩
  obtain rfl : r = (i : Int) := by
    obtain ⟨hk, hkn, hfirst, _⟩ := HX.out
    rcases hr with ⟨_, hr⟩ | ⟨i', k', rfl, hk', hn', hf'⟩
    · exact absurd hkn (hr i k hk)
    · rcases Nat.lt_trichotomy i' i with h1 | h1 | h1
      · exact absurd hn' (hfirst i' h1 k' hk')
      · rw [h1]
      · exact absurd hkn (hf' i h1 k hk)
  clear hr
  have c10 : w2.cell? ⟨p, 10, none⟩ = some (.slice (some ⟨g, 0, none⟩) n cap) := (hb2.cell (p := ⟨p, 10, none⟩) HG.out.2.2.1).trans HC.out.1
  have hp2 := (hb2.block p HG.out.2.2.1).trans HX.out.2.2.2.2.2.2.2.2.2.2.1
  have f10 := frozen_of_cells hp2 10
  have H2 := Aside0.mk (And.intro hb2 hp2)
  clear hb2 hp2
  obtain ⟨w3, hw3⟩ : ∃ w3, w3 = w2.setCell ⟨p, 10, none⟩ (.slice (some ⟨g, 0, none⟩) (i + 1) cap) := ⟨_, rfl⟩
  have hp3 := (md_set (cs := [_, _, _, _, _, _, _, _, _, _, _, _, _]) H2.out.2 10 (.slice (some ⟨g, 0, none⟩) (i + 1) cap)).1
  rw [← hw3] at hp3
  have hO3 : Only p w2 w3 := by rw [hw3]; exact Only.set1 _ _ _ _
  have H3 := Aside0.mk (And.intro hw3 (And.intro hp3 hO3))
  clear hw3 hp3 hO3
  go_wp2
  rw [← H3.out.1]
  obtain ⟨n1, hn1⟩ : ∃ n1, n1 = i + 1 := ⟨_, rfl⟩
  have c10 : w3.cell? ⟨p, 10, none⟩ = some (.slice (some ⟨g, 0, none⟩) n1 cap) := by rw [hn1]; exact cell_of_row w3 p 10 _ _ (0, 0) H3.out.2.1
  have q4 : (i : Int) < n1 := by omega
  have HN1 := Aside0.mk hn1
  clear hn1
  have d1 : w3.cell? ⟨g, i * 3 + 1, none⟩ = some (.map (some b)) := by
    rw [World.cell?_of_block (w := w2) (a := ⟨g, i * 3 + 1, none⟩) (H3.out.2.2.block g HG.out.1)]
    exact (H2.out.1.cell (p := ⟨g, i * 3 + 1, none⟩) HG.out.2.1).trans HC.out.2.1
  have d2 : w3.cell? ⟨g, i * 3 + 2, none⟩ = some (.int .i64 kc) := by
    rw [World.cell?_of_block (w := w2) (a := ⟨g, i * 3 + 2, none⟩) (H3.out.2.2.block g HG.out.1)]
    exact (H2.out.1.cell (p := ⟨g, i * 3 + 2, none⟩) HG.out.2.1).trans HC.out.2.2
  have hO3 : OwnAt w3 ok b k.own := (HX.out.2.2.2.2.2.2.2.2.2.2.2.1.move (fun j _ hj => H2.out.1.block j hj)).other H2.out.2 (fun j _ _ hj => H3.out.2.2.block j hj) (fun _ h => h)
  have HCl := Aside0.mk (fun W (hW : Below w3.heap.size w3 W) => clone_own (hO3.move (fun j _ hj => hW.block j hj)))
  have hp3 : p < w3.heap.size := heap_lt H3.out.2.1
  have hg3 : g < w3.heap.size := by have := HG.out.2.1; have := H2.out.1.size; have := H3.out.2.2.size; omega
  have HL := Aside0.mk (And.intro hp3 hg3)
  clear hO3 hp3 hg3
  go_region_held3 (fun w' => w'.cell? ⟨p, 10, none⟩ = some (.slice (some ⟨g, 0, none⟩) n1 cap) ∧ w'.cell? ⟨g, i * 3 + 1, none⟩ = some (.map (some b)) ∧ w'.cell? ⟨g, i * 3 + 2, none⟩ = some (.int .i64 kc)) (first | go_keep | assumption)
    (first
      | (go_at_call 62; refine (HCl.out _ (by first | exact pw_below_drewN (Below.refl _ _) _ | exact below_drew (Below.refl _ _) | exact Below.refl _ _)).mono ?_; rintro e w4 ⟨rfl, hO4, hb4⟩
         have x10 : w4.cell? ⟨p, 10, none⟩ = some (.slice (some ⟨g, 0, none⟩) n1 cap) := (hb4.cell (p := ⟨p, 10, none⟩) HL.out.1).trans c10
         have x1 : w4.cell? ⟨g, i * 3 + 1, none⟩ = some (.map (some b)) := (hb4.cell (p := ⟨g, i * 3 + 1, none⟩) HL.out.2).trans d1
         have x2 : w4.cell? ⟨g, i * 3 + 2, none⟩ = some (.int .i64 kc) := (hb4.cell (p := ⟨g, i * 3 + 2, none⟩) HL.out.2).trans d2
         have hp4 := (hb4.block p HL.out.1).trans (show (_ : World).heap[p]? = _ from H3.out.2.1)
         have z8 := cell_of_row w4 p 8 _ _ (0, 0) hp4
         have z9 := cell_of_row w4 p 9 _ _ (0, 0) hp4
         have f8 := frozen_of_cells hp4 8
         have f9 := frozen_of_cells hp4 9
         have hp5 := (md_set (cs := [_, _, _, _, _, _, _, _, _, _, _, _, _]) hp4 8 (.map (some w3.heap.size))).1
         have hp6 := (md_set (cs := [_, _, _, _, _, _, _, _, _, _, _, _, _]) hp5 9 (.int .i64 kc)).1
         have y10 : (w4.setCell ⟨p, 8, none⟩ (.map (some w3.heap.size))).cell? ⟨p, 10, none⟩ = some (.slice (some ⟨g, 0, none⟩) n1 cap) := by rw [HN1.out]; exact cell_of_row _ p 10 _ _ (0, 0) hp5
         have y1 : (w4.setCell ⟨p, 8, none⟩ (.map (some w3.heap.size))).cell? ⟨g, i * 3 + 1, none⟩ = some (.map (some b)) := (World.cell?_of_block (w := w4) (a := ⟨g, i * 3 + 1, none⟩) (Below.heap_setCell _ _ _ _ HG.out.1)).trans x1
         have y2 : (w4.setCell ⟨p, 8, none⟩ (.map (some w3.heap.size))).cell? ⟨g, i * 3 + 2, none⟩ = some (.int .i64 kc) := (World.cell?_of_block (w := w4) (a := ⟨g, i * 3 + 2, none⟩) (Below.heap_setCell _ _ _ _ HG.out.1)).trans x2
         have u10 : ((w4.setCell ⟨p, 8, none⟩ (.map (some w3.heap.size))).setCell ⟨p, 9, none⟩ (.int .i64 kc)).cell? ⟨p, 10, none⟩ = some (.slice (some ⟨g, 0, none⟩) n1 cap) := by rw [HN1.out]; exact cell_of_row _ p 10 _ _ (0, 0) hp6
         have u1 : ((w4.setCell ⟨p, 8, none⟩ (.map (some w3.heap.size))).setCell ⟨p, 9, none⟩ (.int .i64 kc)).cell? ⟨g, i * 3 + 1, none⟩ = some (.map (some b)) := (World.cell?_of_block (w := _) (a := ⟨g, i * 3 + 1, none⟩) (Below.heap_setCell _ _ _ _ HG.out.1)).trans y1
         have u2 : ((w4.setCell ⟨p, 8, none⟩ (.map (some w3.heap.size))).setCell ⟨p, 9, none⟩ (.int .i64 kc)).cell? ⟨g, i * 3 + 2, none⟩ = some (.int .i64 kc) := (World.cell?_of_block (w := _) (a := ⟨g, i * 3 + 2, none⟩) (Below.heap_setCell _ _ _ _ HG.out.1)).trans y2
         clear hp5 hp6
         have H4 := Aside0.mk (And.intro hO4 (And.intro hb4 hp4))
         clear hO4 hb4 hp4))
  go_wp2
  go_ret
  obtain ⟨hk, hkn, hfirst, hn, hpe, hkc, hbk, hbl, hown, hms, hp, hob, hvok, hi, hd⟩ := HX.out
  obtain ⟨hW, hbW, hsW, hbx, hPW, h, hok⟩ := HW.out
  obtain ⟨hgp, hgl, hplt, hokp, hbne⟩ := HG.out
  obtain ⟨hb2, hp2⟩ := H2.out
  obtain ⟨hw3, hp3, hO3⟩ := H3.out
  obtain ⟨hO4, hb4', hp4⟩ := H4.out
  have hb4 : Below w3.heap.size w3 w4 := ⟨hb4'.os, hb4'.tape, hb4'.output, hb4'.size, hb4'.block⟩
  replace hO4 : OwnAt w4 (fun j => ok j ∨ j = w3.heap.size) w3.heap.size k.own := hO4
  have hn1 := HN1.out
  have hil := HIL.out
  have s2 := hb2.size
  have s3 : w3.heap.size = w2.heap.size := hO3.size
  have s4 : w3.heap.size ≤ w4.heap.size := hb4.size
  obtain ⟨W5, hW5⟩ : ∃ W5, W5 = (w4.setCell ⟨p, 8, none⟩ (.map (some w3.heap.size))).setCell ⟨p, 9, none⟩ (.int .i64 kc) := ⟨_, rfl⟩
  have hO5 : Only p w4 W5 := by rw [hW5]; exact ((Only.refl p w4).set_ 8 _).set_ 9 _
  have hp5 := (md_set (cs := [_, _, _, _, _, _, _, _, _, _, _, _, _]) (md_set (cs := [_, _, _, _, _, _, _, _, _, _, _, _, _]) hp4 8 (.map (some w3.heap.size))).1 9 (.int .i64 kc)).1
  rw [← hW5] at hp5 ⊢
  have s5 : W5.heap.size = w4.heap.size := hO5.size
  have k2 : ∀ j, j < w2.heap.size → j ≠ p → W5.heap[j]? = w2.heap[j]? := fun j hj hjp => (hO5.block j hjp).trans ((hb4.block j (by omega)).trans (hO3.block j hjp))
  have kW : ∀ j, j < W.heap.size → j ≠ p → W5.heap[j]? = W.heap[j]? := fun j hj hjp => (k2 j (by omega) hjp).trans (hb2.block j hj)
  have kw : ∀ j, j < w.heap.size → j ≠ p → W5.heap[j]? = w.heap[j]? := fun j hj hjp => (kW j (by omega) hjp).trans (hbW.block j hj)
  refine ⟨rfl, w3.heap.size, .slice (some ⟨g, 0, none⟩) (i + 1) cap, ⟨?_, .inl (show ok p from hokp), ?_, fun _ => ?_, ?_⟩, ?_⟩
  · show W5.heap[p]? = some (.cells #[dp X.d, .int .i64 X.mode, dp X.l, .int .i64 X.c, .bool X.dead, .bool X.inn, .bool X.wrote, vw, .map (if X.inn then some w3.heap.size else none), .int .i64 k.count, .slice (some ⟨g, 0, none⟩) (i + 1) cap, .int .i64 X.next, .int .i64 X.sure] _ _)
    rw [hi, if_pos rfl, ← hkc]
    exact hp5
  · exact h.was.same (fun j hj => kw j (h.was.lt hj) (h.was.ne (hpe ▸ h.hp) (fun cs e => by injection e with _ e2; cases e2) hj)) (fun j hj => .inl (h.was.1 j hj))
  · exact (hO4.other hp4 (fun j _ _ hj => hO5.block j hj) (fun _ h => h)).mono (fun j hj => hj.elim .inl (fun e => .inr ⟨by omega, by have := hO4.lt; omega⟩))
  · refine ⟨fun j hj => .inl (hvok j (by simpa [Value.ownBlock] using hj)), bs.take (i + 1), by rw [List.length_take, List.length_take, hbl], ?_, fun j b' m' h1 h2 => ?_⟩
    · rw [List.length_take, Nat.min_eq_left (by omega), ← mkCells_take]
      have := own_take (hn ▸ hown) (i + 1) (by rw [hn]; omega)
      refine own_at_heap this (fun j hj => ?_)
      obtain rfl : g = j := by simpa [Value.ownBlock] using hj
      exact kW g hgl hgp
    · rw [List.getElem?_take] at h1 h2
      split at h1
      · rw [if_pos ‹_›] at h2
        obtain ⟨h3, h4⟩ := hms j b' m' h1 h2
        have h5 : OwnAt w2 ok b' m'.own := h3.move (fun j _ hj => hb2.block j hj)
        exact ⟨h5.other hp2 (fun j _ hj hjp => k2 j hj hjp) (fun _ h => .inl h), by have := h5.lt; omega⟩
      · cases h1
  · exact ⟨hO5.os.trans (hb4.os.trans (hO3.os.trans (hb2.os.trans hbW.os))), hO5.tape.trans (hb4.tape.trans (hO3.tape.trans (hb2.tape.trans hbW.tape))), hO5.output.trans (hb4.output.trans (hO3.output.trans (hb2.output.trans hbW.output))), by omega, fun j hj hjn => kw j hj (fun e => hjn (e ▸ hokp))⟩

theorem s_back {w : World} {X : PG} {M : DM} {ok : Nat → Prop} (h : Sys w X M ok) (hd : X.dead = false) (hi : X.inn = true) (hml : X.marks.length ≤ 100000) {m : Int} {i : Nat} {k : Mk} (hk : X.marks[i]? = some k) (hkn : k.n = m) (hfirst : ∀ (j : Nat), j < i → ∀ x, X.marks[j]? = some x → x.n ≠ m) :
    Calls Tryz.prog 31 #[dp X.p, .int .i64 m] w fun e w' => e = .returned (.int .i64 0) ∧ SLeft w { X with own := k.own, count := k.count, marks := X.marks.take (i + 1) } M ok w' := by
  obtain ⟨okP, okD, x, v, ⟨bo, vw, vm, hP⟩, hD, hT, hL, h5, h6, h7, hc, hv0, hv1, hv2⟩ := h
  refine (back_row hP (fun k hk => (h5 k hk).2.2.2) hi hd hml hk hkn hfirst).mono ?_
  rintro e w' ⟨rfl, b', v4, hP', hFr⟩
  have hs := hFr.size
  have hF := hFr.block
  refine ⟨rfl, ⟨_, okD, x, v, ⟨b', vw, v4, hP'⟩, hD.move (fun k hk hlt => hF k hlt (fun h => (h5 k h).2.2.1 hk)), (hF _ hT.lt (fun h => (h5 _ h).2.1 rfl)).trans hT, hL, fun k hk => ?_, fun k hk => ⟨.inl (h6 k hk).1, (h6 k hk).2.1, Nat.lt_of_lt_of_le (h6 k hk).2.2 hs⟩, .inl h7, hc, hv0, hv1, hv2⟩, hFr.wide (fun k _ hk => (h5 k hk).1)⟩
  rcases hk with hk | hk
  · exact ⟨.inl (h5 k hk).1, (h5 k hk).2.1, (h5 k hk).2.2.1, Nat.lt_of_lt_of_le (h5 k hk).2.2.2 hs⟩
  · refine ⟨.inr hk, fun e => ?_, fun hk2 => ?_, hk.2⟩
    · have := hT.lt
      rw [e] at hk
      exact absurd this (by have := hk.1; show ¬ X.l < _; exact Nat.not_lt.2 this)
    · have := (h6 k hk2).2.2
      omega
/-- a file of pages is brought back to a mark -/
theorem f_back {w : World} {g : Nat} {B : PG} {M : DM} {V : Int → Bytes} {cnt : Int} {ok : Nat → Prop} (h : FAt w g B M V cnt ok) (hml : B.marks.length ≤ 100000) {m : Int} {i : Nat} {k : Mk} (hk : B.marks[i]? = some k) (hkn : k.n = m) (hfirst : ∀ (j : Nat), j < i → ∀ x, B.marks[j]? = some x → x.n ≠ m) {V' : Int → Bytes} (hV : ∀ x, (k.own x).getD (B.page x) = V' x) :
    Calls Tryz.prog 31 #[dp B.p, .int .i64 m] w fun e w' => e = .returned (.int .i64 0) ∧ FLeft w g { B with marks := B.marks.take (i + 1) } M V' k.count ok w' := by
  obtain ⟨X, ok1, rfl, rfl, rfl, hi, hd, hw, hS, hg, h1, h2⟩ := h
  refine (s_back hS hd hi hml hk hkn hfirst).mono ?_
  rintro e w' ⟨rfl, hS', hF⟩
  refine ⟨rfl, ⟨{ X with own := k.own, count := k.count, marks := X.marks.take (i + 1) }, _, rfl, ?_, rfl, hi, hd, hw, hS', (hF.block g (heap_lt hg) (fun h => (h1 g h).2 rfl)).trans hg, fun k hk => ?_, .inl h2⟩, hF.wide (fun k _ hk => (h1 k hk).1)⟩
  · funext x
    exact hV x
  · rcases hk with hk | hk
    · exact ⟨.inl (h1 k hk).1, (h1 k hk).2⟩
    · exact ⟨.inr hk, fun e => by have := heap_lt hg; omega⟩
end Go.Proofs.YtmdpgjdepflbmaaGreat

/-
  PagesBack: what marks, going back and a second model leave of a file of pages and its model.
-/
namespace Go.Proofs.YtmdpgjdepflbmaaGreat
open Go.RowKit Go.Maps Go.Proofs.YtmdpgjdepflbmaaGreatW.PrintWords Go.Proofs.YtmdpgjdepflbmaaGreatW.PrintLast Go.Proofs.YtmdpgjdepflbmaaGreatW.PrintMore
open Go.Proofs.YtmdpgjdepflbmaaGreat.PPagerFolds
set_option linter.unusedVariables false
set_option linter.unusedSimpArgs false

section
variable {w wr w' : World} {g : Nat} {B B' : PG} {V : Int → Bytes} {cnt : Int} {ok : Nat → Prop} {mb : Nat} {hv tv : Value} {L : List Int} {T : List (Nat × Nat)} {R : List Int} {N : Nat}
/-- the first model -/
theorem MS.start {p d l : Nat} (h : FS w wr g (B0 p d l) M0 V0 0 ok) : MS w (wr.alloc (.cells #[.slice none 0 0, .slice none 0 0, .int .i64 0, .int .i64 0, .int .i64 0, .int .i64 0, .int .i64 0, .int .i64 0, .int .i64 0, .int .i64 0] 85)) g (B0 p d l) V0 0 ok wr.heap.size (.slice none 0 0) (.slice none 0 0) [] [] (List.replicate 8 0) 0 := by
  have hb : Below wr.heap.size wr (wr.alloc (.cells #[.slice none 0 0, .slice none 0 0, .int .i64 0, .int .i64 0, .int .i64 0, .int .i64 0, .int .i64 0, .int .i64 0, .int .i64 0, .int .i64 0] 85)) := (Below.refl _ _).alloc (Nat.le_refl _) _
  refine ⟨h.step hb, ⟨⟨heap_alloc_new wr _, rfl, Kd.R_nil _ _ _ _ _, Kd.R_nil _ _ _ _ _, rfl⟩, ⟨h.below.size, fun hk => Nat.lt_irrefl _ (h.lt _ hk)⟩, fun j p t h1 => by simp at h1⟩, List.Pairwise.nil, fun m => ?_, fun i hi => ?_, ?_, Nat.le_refl _, ?_⟩
  · rw [V0_zero]; simp [zero_none]
  · rw [V0_zero, zeros, zero_word, List.getElem?_replicate, if_pos hi]
  · rw [V0_zero, zero_top]; simp
  · rw [V0_zero, zero_top]; omega
/-- the pager's marks have turned -/
theorem MS.marked (h : MS w wr g B V cnt ok mb hv tv L T R N) (hL : FLeft wr g B' M0 V cnt ok w') : MS w w' g B' V cnt (Grow wr ok w') mb hv tv L T R N ∧ AF mb wr ok tv w' (Grow wr ok w') tv := by
  have hb := h.fs.below.size
  refine ⟨⟨⟨hL.1, fun k hk => hk.elim (h.fs.fresh k) (fun h => by omega), h.fs.good, h.fs.below.trans (hL.2.below h.fs.fresh hb), fun k hk => hk.elim (fun h' => Nat.lt_of_lt_of_le (h.fs.lt k h') hL.2.size) (fun h => h.2)⟩, h.mm.move hL.2.size (fun k hk hn _ => hL.2.block k hk hn) (fun k hk => hk.elim .inl (fun h => .inr h.1)), h.srt, h.held, h.root, h.top, h.len, h.cb⟩, AF.fr hL.2⟩
/-- a second model of the same -/
theorem MS.dup (h : MS w wr g B V cnt ok mb hv tv L T R N) (hN : N ≤ 1000) {wr' : World} (hb : Below wr.heap.size wr wr') :
    ∃ A n c w2, (Builtin.append_ #[32, 32] 32 #[.slice (some ⟨wr'.heap.size, 0, none⟩) 0 0, tv]).run Tryz.prog (wr'.alloc (.cells #[] 48)) = .ok (.slice A n c) w2 ∧ Below wr'.heap.size wr' w2 ∧ (∀ k, (Value.slice A n c).ownBlock = some k → wr'.heap.size ≤ k) ∧
      MS w (w2.alloc (.cells (hv :: .slice A n c :: R.map (Value.int .i64)).toArray 85)) g B V cnt ok w2.heap.size hv (.slice A n c) L T R N := by
  have f0 : wr'.grownBy (wr'.alloc (.cells #[] 48)) none := World.grownBy_alloc wr' _ none
  have hs := hb.size
  obtain ⟨Bt, dt, tve, hD, hd⟩ := R_rowk h.mm.md.text
  have t0 : KT.R 48 (wr'.alloc (.cells #[] 48)) 0 (fun k => wr'.heap.size ≤ k) (.slice (some ⟨wr'.heap.size, 0, none⟩) 0 0) [] := R_emptyk 48 wr' 0 _ (Nat.zero_le _) (Nat.le_refl _)
  have htl := h.mm.md.tl
  obtain ⟨A, n, c, w2, e1, Q1, F1, _⟩ := app_grow f0 32 48 _ 24 Tryz.underlying32 info35t rfl (by decide) _ [] T Bt T.length dt t0 (C_grown (Kd.C_below hD hb) f0) (by have := h.len; simp; omega)
  have hB2 : Below wr'.heap.size wr' w2 := ⟨F1.os, F1.tape, F1.output, F1.size, fun k hk => F1.block k hk (by simp)⟩
  have hs2 := hB2.size
  have hb2 : Below wr.heap.size wr w2 := hb.trans (hB2.mono hs)
  have hM2 := h.step hb2
  have hb3 : Below w2.heap.size w2 (w2.alloc (.cells (hv :: .slice A n c :: R.map (Value.int .i64)).toArray 85)) := (Below.refl _ _).alloc (Nat.le_refl _) _
  have hM3 := hM2.step hb3
  have hw := h.fs.below.size
  have hfresh : ∀ k, wr.heap.size ≤ k → ¬ ok k := fun k hk ho => by have := h.fs.lt k ho; omega
  refine ⟨A, n, c, w2, by rw [tve]; exact e1, hB2, fun k hk => Q1.1 k hk, ⟨hM3.fs, ⟨⟨heap_alloc_new w2 _, h.mm.md.rl, hM3.mm.md.held, ?_, htl⟩, ⟨by omega, hfresh _ (by omega)⟩, hM3.mm.text⟩, h.srt, h.held, h.root, h.top, h.len, h.cb⟩⟩
  rw [List.nil_append] at Q1
  exact Kd.R_mono (Kd.R_step Q1 (fun j _ hj => Below.heap_alloc _ _ j hj)) (fun k hk => ⟨by omega, hfresh k (by omega)⟩)
/-- a model stays as it was while its copy goes on -/
theorem MS.stays (h : MS w wr g B V cnt ok mb hv tv L T R N) {xb : Nat} {W3 : World} (hb : Below wr.heap.size wr W3) (hx : wr.heap.size ≤ xb) {tvx : Value} (htx : ∀ k, tvx.ownBlock = some k → wr.heap.size ≤ k) {W4 : World} {ok4 : Nat → Prop} {tv4 : Value} (hA : AF xb W3 ok tvx W4 ok4 tv4) : MM w W4 ok4 mb hv tv L T R V := by
  have hs := hb.size
  refine h.mm.move (Nat.le_trans hs hA.size) (fun k hk hn _ => ?_) (fun k hk => (hA.oks k hk).imp id (fun h => by omega))
  rw [hA.block k (by omega) hn (by omega) (fun e => by have := htx k e; omega)]
  exact hb.block k hk
/-- a file of pages that is brought back, its first model beside -/
theorem MS.back (h : MS w wr g B V cnt ok mb hv tv L T R N) {B' : PG} {W4 W5 : World} {V4 : Int → Bytes} {cnt4 : Int} {ok4 : Nat → Prop} (hF : FS w W4 g B' M0 V4 cnt4 ok4) (hM : MM w W4 ok4 mb hv tv L T R V) {B2 : PG} (hL : FLeft W4 g B2 M0 V cnt ok4 W5) : MS w W5 g B2 V cnt (Grow W4 ok4 W5) mb hv tv L T R N := by
  have hb := hF.below.size
  exact ⟨⟨hL.1, fun k hk => hk.elim (hF.fresh k) (fun h => by omega), h.fs.good, hF.below.trans (hL.2.below hF.fresh hb), fun k hk => hk.elim (fun h' => Nat.lt_of_lt_of_le (hF.lt k h') hL.2.size) (fun h => h.2)⟩, hM.move hL.2.size (fun k hk hn _ => hL.2.block k hk hn) (fun k hk => hk.elim .inl (fun h => .inr h.1)), h.srt, h.held, h.root, h.top, h.len, h.cb⟩
end
end Go.Proofs.YtmdpgjdepflbmaaGreat

/-
  PagesBack: the law's walk.
-/
namespace Go.Proofs.YtmdpgjdepflbmaaGreat
open Go.RowKit Go.Maps Go.Proofs.YtmdpgjdepflbmaaGreatW.PrintWords Go.Proofs.YtmdpgjdepflbmaaGreatW.PrintLast Go.Proofs.YtmdpgjdepflbmaaGreatW.PrintMore
open Go.Proofs.YtmdpgjdepflbmaaGreat.PPagerFolds
set_option linter.unusedVariables false
set_option linter.unusedSimpArgs false

theorem list8 {l : List Int} (h : l.length = 8) : ∃ r0 r1 r2 r3 r4 r5 r6 r7, l = [r0, r1, r2, r3, r4, r5, r6, r7] := by
  match l, h with
  | [a, b, c, d, e, f, g, i], _ => exact ⟨a, b, c, d, e, f, g, i, rfl⟩
/-- the first loop's relation -/
def BA (w : World) (g mb : Nat) (B : PG) (k : Nat) (wr : World) : Prop := ∃ V cnt ok hv tv L T R, MS w wr g B V cnt ok mb hv tv L T R k
/-- the second loop's relation -/
def BB (w : World) (g xb : Nat) (B : PG) (W3 : World) (ok3 : Nat → Prop) (tv3 : Value) (N : Nat) (wr : World) : Prop := ∃ V cnt ok hv tv L T R, MS w wr g B V cnt ok xb hv tv L T R N ∧ AF xb W3 ok3 tv3 wr ok tv
set_option maxHeartbeats 4000000 in
set_option maxRecDepth 100000 in
theorem back_any (A : Option Addr) (len cap : Nat) (D C L0 : Nat → Int) (w : World) (hl0 : len ≤ 9223372036854775807) (hA : Acts w A len D C L0) :
    Calls Tryz.prog 10 #[.slice A len cap] w fun e w' => e = .returned (.bool true) ∧ Below w.heap.size w w' := by
  have HS := Aside0.mk (fs_start w)
  have HA := Aside0.mk hA
  clear hA
  go_enter Tryz.func10, Tryz.ntmps10
  go_wp2_with fail
  refine (HS.out).mono ?_
  rintro e w1 ⟨g, p, d, l, ok0, rfl, hF⟩
  have H1 := Aside0.mk (MS.start hF)
  obtain ⟨mb, hmb⟩ : ∃ mb, mb = w1.heap.size := ⟨_, rfl⟩
  obtain ⟨W1, hW1⟩ : ∃ W1, W1 = w1.alloc (.cells #[.slice none 0 0, .slice none 0 0, .int .i64 0, .int .i64 0, .int .i64 0, .int .i64 0, .int .i64 0, .int .i64 0, .int .i64 0, .int .i64 0] 85) := ⟨_, rfl⟩
  rw [← hmb, ← hW1] at H1
  obtain ⟨nn, hnn⟩ : ∃ nn : Nat, nn = len / 2 := ⟨_, rfl⟩
  have hq : (len : Int) / 2 = (nn : Int) := by omega
  have HN := Aside0.mk hnn
  have hnl : nn ≤ len := by omega
  have hnb : (nn : Int) ≤ 4611686018427387904 := by omega
  clear hF HS hnn
  have HW := Aside0.mk (And.intro hmb hW1)
  go_wp2
  rw [← hmb, ← hW1]
  clear hq hmb hW1
  go_loopw [7] (fun v7 wr => ∃ k : Nat, v7 = .int .i64 k ∧ k ≤ nn ∧ k ≤ 60 ∧ Aside0 (BA w g mb (B0 p d l) k wr)) (fun v7 _ => nn - (intOf v7).toNat)
  case atStart => exact ⟨0, rfl, by omega, by omega, ⟨_, _, _, _, _, _, _, _, H1.out⟩⟩
  case round =>
    clear H1 HW
    obtain ⟨k, rfl, hk, hk60, HI⟩ := hrel
    by_cases h1 : k < nn ∧ k < 60
    · obtain ⟨h1, h2⟩ := h1
      obtain ⟨b, off, rfl, hbw, hcells⟩ := HA.out (by omega)
      obtain ⟨V, cnt, ok, hv, tv, L, T, R, hM⟩ := HI.out
      obtain ⟨hc0, hc1, hc2⟩ := hcells k (by omega)
      have hbl := hM.fs.below
      have c0 : wr.cell? ⟨b, off + k * 3, none⟩ = some (.int .i64 (D k)) := (hbl.cell (p := ⟨b, off + k * 3, none⟩) hbw).trans hc0
      have c1 : wr.cell? ⟨b, off + k * 3 + 1, none⟩ = some (.int .i64 (C k)) := (hbl.cell (p := ⟨b, off + k * 3 + 1, none⟩) hbw).trans hc1
      have c2 : wr.cell? ⟨b, off + k * 3 + 2, none⟩ = some (.int .i64 (L0 k)) := (hbl.cell (p := ⟨b, off + k * 3 + 2, none⟩) hbw).trans hc2
      have HAct := Aside0.mk (act_any hM (by omega) (D k) (C k) (L0 k))
      have q1 : k < len := by omega
      clear hcells hc0 hc1 hc2 hM hbl hbw HI
      generalize D k = dk at *
      generalize C k = ck at *
      generalize L0 k = lk at *
      go_wp2_with (go_at_call 38; refine HAct.out.mono ?_; rintro e w2 ⟨rfl, hr⟩; have H2 := Aside0.mk hr; clear hr)
      go_roundw
      case rel =>
        obtain ⟨V', cnt', ok', hv', tv', L', T', R', hM, _⟩ := H2.out
        exact ⟨k + 1, by go_num, by omega, by omega, ⟨V', cnt', ok', hv', tv', L', T', R', hM⟩⟩
      case measure => simp [intOf]; omega
    · rcases (show nn ≤ k ∨ (k < nn ∧ 60 ≤ k) by omega) with h2 | h2
      all_goals
        (try have q60 : decide ((k : Int) < 60) = false := by simp; omega)
        clear h1
        obtain ⟨V, cnt, ok, hv, tv, L, T, R, hM⟩ := HI.out
        obtain ⟨Ah, nh, ch, rfl⟩ : ∃ A n c, hv = .slice A n c := by obtain ⟨A', c', e, _, _⟩ := R_rowk hM.mm.md.held; exact ⟨_, _, _, e⟩
        have hMk := f_mark hM.fs.fat (show (0 : Int) ≤ 0 by omega) (show (0 : Int) < 1000000 by omega) (show ([] : List Mk).length ≤ 100000 by simp)
        rw [show (B0 p d l).next + 1 = 1 from rfl, show (B0 p d l).p = p from rfl] at hMk
        have HMk := Aside0.mk hMk
        have HMS := Aside0.mk hM
        clear hMk hM HI
        go_wp2_with (first
          | (go_at_call 32; refine HMk.out.mono ?_; rintro e wa ⟨rfl, mk, hmn, hmo, hmc, hML⟩
             obtain ⟨B1, hB1, hML⟩ : ∃ B1 : PG, (B1.p = p ∧ B1.marks = [mk] ∧ ∀ x, B1.page x = (B0 p d l).page x) ∧ FLeft wr g B1 M0 V cnt ok wa := (by refine ⟨_, ?_, hML⟩; exact ⟨rfl, rfl, fun _ => rfl⟩)
             have HK := Aside0.mk (And.intro hmn (And.intro hmo (And.intro hmc hB1)))
             obtain ⟨okA, hMa⟩ : ∃ okA, MS w wa g B1 V cnt okA mb (.slice Ah nh ch) tv L T R k := ⟨_, (HMS.out.marked hML).1⟩
             have HMA := Aside0.mk hMa
             obtain ⟨r0, r1, r2, r3, r4, r5, r6, r7, hR⟩ := list8 hMa.mm.md.rl
             have hp0 := hMa.mm.md.blk
             rw [hR] at hp0
             replace hp0 : wa.heap[mb]? = some (.cells #[.slice Ah nh ch, tv, .int .i64 r0, .int .i64 r1, .int .i64 r2, .int .i64 r3, .int .i64 r4, .int .i64 r5, .int .i64 r6, .int .i64 r7] 85 (0, 0)) := hp0
             have HP0 := Aside0.mk (And.intro hR hp0)
             (try clear hML)
             clear hmn hmo hmc hMa hR hp0 hB1
             (try clear hML))
          | (go_at_call 39; refine (num13_any _ _).mono ?_; rintro e w' ⟨rfl, rfl⟩))
        have hbd : Below wa.heap.size wa wa.drew := below_drew (Below.refl _ _)
        obtain ⟨Ax, nx, cx, w2, hrun, hb2, hvx, hMX⟩ := HMA.out.dup (by omega) hbd
        rw [HP0.out.1] at hMX
        replace hrun : (Builtin.append_ #[32, 32] 32 #[.slice (some ⟨wa.heap.size, 0, none⟩) 0 0, tv]).run Tryz.prog (wa.drew.alloc (.cells #[] 48)) = .ok (.slice Ax nx cx) w2 := hrun
        have hp0 : wa.drew.heap[mb]? = _ := HP0.out.2
        have hmbl : mb < wa.drew.heap.size := heap_lt hp0
        have hp1 := (Below.heap_alloc wa.drew (.cells #[] 48) mb hmbl).trans hp0
        have hp2 := (hb2.block mb hmbl).trans hp0
        have hp3 := (Below.heap_alloc w2 (.cells #[.slice Ah nh ch, .slice Ax nx cx, .int .i64 r0, .int .i64 r1, .int .i64 r2, .int .i64 r3, .int .i64 r4, .int .i64 r5, .int .i64 r6, .int .i64 r7] 85) mb (heap_lt hp2)).trans hp2
        have c0 : (wa.drew).cell? ⟨mb, 0, none⟩ = some (.slice Ah nh ch) := cell_of_row _ mb 0 _ _ (0, 0) hp0
        have c1 : (wa.drew).cell? ⟨mb, 1, none⟩ = some (tv) := cell_of_row _ mb 1 _ _ (0, 0) hp0
        have c2 : (wa.drew).cell? ⟨mb, 2, none⟩ = some (.int .i64 r0) := cell_of_row _ mb 2 _ _ (0, 0) hp0
        have c3 : (wa.drew).cell? ⟨mb, 3, none⟩ = some (.int .i64 r1) := cell_of_row _ mb 3 _ _ (0, 0) hp0
        have c4 : (wa.drew).cell? ⟨mb, 4, none⟩ = some (.int .i64 r2) := cell_of_row _ mb 4 _ _ (0, 0) hp0
        have c5 : (wa.drew).cell? ⟨mb, 5, none⟩ = some (.int .i64 r3) := cell_of_row _ mb 5 _ _ (0, 0) hp0
        have c6 : (wa.drew).cell? ⟨mb, 6, none⟩ = some (.int .i64 r4) := cell_of_row _ mb 6 _ _ (0, 0) hp0
        have c7 : (wa.drew).cell? ⟨mb, 7, none⟩ = some (.int .i64 r5) := cell_of_row _ mb 7 _ _ (0, 0) hp0
        have c8 : (wa.drew).cell? ⟨mb, 8, none⟩ = some (.int .i64 r6) := cell_of_row _ mb 8 _ _ (0, 0) hp0
        have c9 : (wa.drew).cell? ⟨mb, 9, none⟩ = some (.int .i64 r7) := cell_of_row _ mb 9 _ _ (0, 0) hp0
        have x0 : (wa.drew.alloc (.cells #[] 48)).cell? ⟨mb, 0, none⟩ = some (.slice Ah nh ch) := cell_of_row _ mb 0 _ _ (0, 0) hp1
        have x1 : (wa.drew.alloc (.cells #[] 48)).cell? ⟨mb, 1, none⟩ = some (tv) := cell_of_row _ mb 1 _ _ (0, 0) hp1
        have x2 : (wa.drew.alloc (.cells #[] 48)).cell? ⟨mb, 2, none⟩ = some (.int .i64 r0) := cell_of_row _ mb 2 _ _ (0, 0) hp1
        have x3 : (wa.drew.alloc (.cells #[] 48)).cell? ⟨mb, 3, none⟩ = some (.int .i64 r1) := cell_of_row _ mb 3 _ _ (0, 0) hp1
        have x4 : (wa.drew.alloc (.cells #[] 48)).cell? ⟨mb, 4, none⟩ = some (.int .i64 r2) := cell_of_row _ mb 4 _ _ (0, 0) hp1
        have x5 : (wa.drew.alloc (.cells #[] 48)).cell? ⟨mb, 5, none⟩ = some (.int .i64 r3) := cell_of_row _ mb 5 _ _ (0, 0) hp1
        have x6 : (wa.drew.alloc (.cells #[] 48)).cell? ⟨mb, 6, none⟩ = some (.int .i64 r4) := cell_of_row _ mb 6 _ _ (0, 0) hp1
        have x7 : (wa.drew.alloc (.cells #[] 48)).cell? ⟨mb, 7, none⟩ = some (.int .i64 r5) := cell_of_row _ mb 7 _ _ (0, 0) hp1
        have x8 : (wa.drew.alloc (.cells #[] 48)).cell? ⟨mb, 8, none⟩ = some (.int .i64 r6) := cell_of_row _ mb 8 _ _ (0, 0) hp1
        have x9 : (wa.drew.alloc (.cells #[] 48)).cell? ⟨mb, 9, none⟩ = some (.int .i64 r7) := cell_of_row _ mb 9 _ _ (0, 0) hp1
        have y0 : (w2).cell? ⟨mb, 0, none⟩ = some (.slice Ah nh ch) := cell_of_row _ mb 0 _ _ (0, 0) hp2
        have y1 : (w2).cell? ⟨mb, 1, none⟩ = some (tv) := cell_of_row _ mb 1 _ _ (0, 0) hp2
        have y2 : (w2).cell? ⟨mb, 2, none⟩ = some (.int .i64 r0) := cell_of_row _ mb 2 _ _ (0, 0) hp2
        have y3 : (w2).cell? ⟨mb, 3, none⟩ = some (.int .i64 r1) := cell_of_row _ mb 3 _ _ (0, 0) hp2
        have y4 : (w2).cell? ⟨mb, 4, none⟩ = some (.int .i64 r2) := cell_of_row _ mb 4 _ _ (0, 0) hp2
        have y5 : (w2).cell? ⟨mb, 5, none⟩ = some (.int .i64 r3) := cell_of_row _ mb 5 _ _ (0, 0) hp2
        have y6 : (w2).cell? ⟨mb, 6, none⟩ = some (.int .i64 r4) := cell_of_row _ mb 6 _ _ (0, 0) hp2
        have y7 : (w2).cell? ⟨mb, 7, none⟩ = some (.int .i64 r5) := cell_of_row _ mb 7 _ _ (0, 0) hp2
        have y8 : (w2).cell? ⟨mb, 8, none⟩ = some (.int .i64 r6) := cell_of_row _ mb 8 _ _ (0, 0) hp2
        have y9 : (w2).cell? ⟨mb, 9, none⟩ = some (.int .i64 r7) := cell_of_row _ mb 9 _ _ (0, 0) hp2
        have z0 : (w2.alloc (.cells #[.slice Ah nh ch, .slice Ax nx cx, .int .i64 r0, .int .i64 r1, .int .i64 r2, .int .i64 r3, .int .i64 r4, .int .i64 r5, .int .i64 r6, .int .i64 r7] 85)).cell? ⟨mb, 0, none⟩ = some (.slice Ah nh ch) := cell_of_row _ mb 0 _ _ (0, 0) hp3
        have z1 : (w2.alloc (.cells #[.slice Ah nh ch, .slice Ax nx cx, .int .i64 r0, .int .i64 r1, .int .i64 r2, .int .i64 r3, .int .i64 r4, .int .i64 r5, .int .i64 r6, .int .i64 r7] 85)).cell? ⟨mb, 1, none⟩ = some (tv) := cell_of_row _ mb 1 _ _ (0, 0) hp3
        have z2 : (w2.alloc (.cells #[.slice Ah nh ch, .slice Ax nx cx, .int .i64 r0, .int .i64 r1, .int .i64 r2, .int .i64 r3, .int .i64 r4, .int .i64 r5, .int .i64 r6, .int .i64 r7] 85)).cell? ⟨mb, 2, none⟩ = some (.int .i64 r0) := cell_of_row _ mb 2 _ _ (0, 0) hp3
        have z3 : (w2.alloc (.cells #[.slice Ah nh ch, .slice Ax nx cx, .int .i64 r0, .int .i64 r1, .int .i64 r2, .int .i64 r3, .int .i64 r4, .int .i64 r5, .int .i64 r6, .int .i64 r7] 85)).cell? ⟨mb, 3, none⟩ = some (.int .i64 r1) := cell_of_row _ mb 3 _ _ (0, 0) hp3
        have z4 : (w2.alloc (.cells #[.slice Ah nh ch, .slice Ax nx cx, .int .i64 r0, .int .i64 r1, .int .i64 r2, .int .i64 r3, .int .i64 r4, .int .i64 r5, .int .i64 r6, .int .i64 r7] 85)).cell? ⟨mb, 4, none⟩ = some (.int .i64 r2) := cell_of_row _ mb 4 _ _ (0, 0) hp3
        have z5 : (w2.alloc (.cells #[.slice Ah nh ch, .slice Ax nx cx, .int .i64 r0, .int .i64 r1, .int .i64 r2, .int .i64 r3, .int .i64 r4, .int .i64 r5, .int .i64 r6, .int .i64 r7] 85)).cell? ⟨mb, 5, none⟩ = some (.int .i64 r3) := cell_of_row _ mb 5 _ _ (0, 0) hp3
        have z6 : (w2.alloc (.cells #[.slice Ah nh ch, .slice Ax nx cx, .int .i64 r0, .int .i64 r1, .int .i64 r2, .int .i64 r3, .int .i64 r4, .int .i64 r5, .int .i64 r6, .int .i64 r7] 85)).cell? ⟨mb, 6, none⟩ = some (.int .i64 r4) := cell_of_row _ mb 6 _ _ (0, 0) hp3
        have z7 : (w2.alloc (.cells #[.slice Ah nh ch, .slice Ax nx cx, .int .i64 r0, .int .i64 r1, .int .i64 r2, .int .i64 r3, .int .i64 r4, .int .i64 r5, .int .i64 r6, .int .i64 r7] 85)).cell? ⟨mb, 7, none⟩ = some (.int .i64 r5) := cell_of_row _ mb 7 _ _ (0, 0) hp3
        have z8 : (w2.alloc (.cells #[.slice Ah nh ch, .slice Ax nx cx, .int .i64 r0, .int .i64 r1, .int .i64 r2, .int .i64 r3, .int .i64 r4, .int .i64 r5, .int .i64 r6, .int .i64 r7] 85)).cell? ⟨mb, 8, none⟩ = some (.int .i64 r6) := cell_of_row _ mb 8 _ _ (0, 0) hp3
        have z9 : (w2.alloc (.cells #[.slice Ah nh ch, .slice Ax nx cx, .int .i64 r0, .int .i64 r1, .int .i64 r2, .int .i64 r3, .int .i64 r4, .int .i64 r5, .int .i64 r6, .int .i64 r7] 85)).cell? ⟨mb, 9, none⟩ = some (.int .i64 r7) := cell_of_row _ mb 9 _ _ (0, 0) hp3
        have HX := Aside0.mk (And.intro hb2 (And.intro hvx hMX))
        have HD := Aside0.mk hmbl
        clear hbd hb2 hvx hMX hp0 hp1 hp2 hp3 hmbl
        refine start_ (n := 17) (S := fun w' => w'.cell? ⟨mb, 0, none⟩ = some (.slice Ah nh ch) ∧ w'.cell? ⟨mb, 1, none⟩ = some (tv) ∧ w'.cell? ⟨mb, 2, none⟩ = some (.int .i64 r0) ∧ w'.cell? ⟨mb, 3, none⟩ = some (.int .i64 r1) ∧ w'.cell? ⟨mb, 4, none⟩ = some (.int .i64 r2) ∧ w'.cell? ⟨mb, 5, none⟩ = some (.int .i64 r3) ∧ w'.cell? ⟨mb, 6, none⟩ = some (.int .i64 r4) ∧ w'.cell? ⟨mb, 7, none⟩ = some (.int .i64 r5) ∧ w'.cell? ⟨mb, 8, none⟩ = some (.int .i64 r6) ∧ w'.cell? ⟨mb, 9, none⟩ = some (.int .i64 r7)) (ds := []) #[false, false, false, false, false, false, false, false, false, false, false, false, false, false, false, false, false] (by kernel_rfl) rfl rfl ⟨c0, c1, c2, c3, c4, c5, c6, c7, c8, c9⟩ (fun hHeld => ?_)
        refine pure_ (i := 0) (N := some 54) (v := ?_) (a' := ?_) #[true, false, false, false, false, false, false, false, false, false, false, false, false, false, false, false, false] rfl rfl (by kernel_rfl) (fun _ _ _ h => h) (Or.inl ⟨by rfl, ?_⟩) ?_ ?_
        rotate_left
        · intro w'
          go_simp
          with_reducible rfl
        rotate_left
        · simp only [Act.put, List.setIfInBounds_toArray, List.set_cons_zero, List.set_cons_succ, i64_w, i32_w]
          rfl
        refine pure_ (i := 1) (N := some 55) (v := ?_) (a' := ?_) #[true, true, false, false, false, false, false, false, false, false, false, false, false, false, false, false, false] rfl rfl (by kernel_rfl) (fun _ _ _ h => h) (Or.inl ⟨by rfl, ?_⟩) ?_ ?_
        rotate_left
        · intro w'
          go_simp
          with_reducible rfl
        rotate_left
        · simp only [Act.put, List.setIfInBounds_toArray, List.set_cons_zero, List.set_cons_succ, i64_w, i32_w]
          rfl
        refine pure_ (i := 2) (N := some 56) (v := ?_) (a' := ?_) #[true, true, true, false, false, false, false, false, false, false, false, false, false, false, false, false, false] rfl rfl (by kernel_rfl) (fun _ _ _ h => h) (Or.inl ⟨by rfl, ?_⟩) ?_ ?_
        rotate_left
        · intro w'
          go_simp
          with_reducible rfl
        rotate_left
        · simp only [Act.put, List.setIfInBounds_toArray, List.set_cons_zero, List.set_cons_succ, i64_w, i32_w]
          rfl
        refine take_ (i := 3) (N := some 57) (v := ?_) (a' := ?_) #[true, true, true, true, false, false, false, false, false, false, false, false, false, false, false, false, false] rfl rfl (by kernel_rfl) (fun _ _ _ h => h) (Or.inl ⟨by rfl, ?_⟩) hHeld ?_ ?_
        rotate_left
        · rintro w' ⟨s0, s1, s2, s3, s4, s5, s6, s7, s8, s9⟩
          go_simp
          with_reducible rfl
        rotate_left
        · simp only [Act.put, List.setIfInBounds_toArray, List.set_cons_zero, List.set_cons_succ, i64_w, i32_w]
          rfl
        refine pure_ (i := 5) (N := some 59) (v := ?_) (a' := ?_) #[true, true, true, true, false, true, false, false, false, false, false, false, false, false, false, false, false] rfl rfl (by kernel_rfl) (fun _ _ _ h => h) (Or.inl ⟨by rfl, ?_⟩) ?_ ?_
        rotate_left
        · intro w'
          go_simp
          with_reducible rfl
        rotate_left
        · simp only [Act.put, List.setIfInBounds_toArray, List.set_cons_zero, List.set_cons_succ, i64_w, i32_w]
          rfl
        refine pure_ (i := 6) (N := some 60) (v := ?_) (a' := ?_) #[true, true, true, true, false, true, true, false, false, false, false, false, false, false, false, false, false] rfl rfl (by kernel_rfl) (fun _ _ _ h => h) (Or.inl ⟨by rfl, ?_⟩) ?_ ?_
        rotate_left
        · intro w'
          go_simp
          with_reducible rfl
        rotate_left
        · simp only [Act.put, List.setIfInBounds_toArray, List.set_cons_zero, List.set_cons_succ, i64_w, i32_w]
          rfl
        refine pure_ (i := 7) (N := some 61) (v := ?_) (a' := ?_) #[true, true, true, true, false, true, true, true, false, false, false, false, false, false, false, false, false] rfl rfl (by kernel_rfl) (fun _ _ _ h => h) (Or.inl ⟨by rfl, ?_⟩) ?_ ?_
        rotate_left
        · intro w'
          go_simp
          with_reducible rfl
        rotate_left
        · simp only [Act.put, List.setIfInBounds_toArray, List.set_cons_zero, List.set_cons_succ, i64_w, i32_w]
          rfl
        refine take_ (i := 8) (N := some 62) (v := ?_) (a' := ?_) #[true, true, true, true, false, true, true, true, true, false, false, false, false, false, false, false, false] rfl rfl (by kernel_rfl) (fun _ _ _ h => h) (Or.inl ⟨by rfl, ?_⟩) hHeld ?_ ?_
        rotate_left
        · rintro w' ⟨s0, s1, s2, s3, s4, s5, s6, s7, s8, s9⟩
          go_simp
          with_reducible rfl
        rotate_left
        · simp only [Act.put, List.setIfInBounds_toArray, List.set_cons_zero, List.set_cons_succ, i64_w, i32_w]
          rfl
        refine pure_ (i := 10) (N := some 64) (v := ?_) (a' := ?_) #[true, true, true, true, false, true, true, true, true, false, true, false, false, false, false, false, false] rfl rfl (by kernel_rfl) (fun _ _ _ h => h) (Or.inl ⟨by rfl, ?_⟩) ?_ ?_
        rotate_left
        · intro w'
          go_simp
          with_reducible rfl
        rotate_left
        · simp only [Act.put, List.setIfInBounds_toArray, List.set_cons_zero, List.set_cons_succ, i64_w, i32_w]
          rfl
        refine pure_ (i := 11) (N := some 65) (v := ?_) (a' := ?_) #[true, true, true, true, false, true, true, true, true, false, true, true, false, false, false, false, false] rfl rfl (by kernel_rfl) (fun _ _ _ h => h) (Or.inl ⟨by rfl, ?_⟩) ?_ ?_
        rotate_left
        · intro w'
          go_simp
          with_reducible rfl
        rotate_left
        · simp only [Act.put, List.setIfInBounds_toArray, List.set_cons_zero, List.set_cons_succ, i64_w, i32_w]
          rfl
        refine pure_ (i := 12) (N := some 66) (v := ?_) (a' := ?_) #[true, true, true, true, false, true, true, true, true, false, true, true, true, false, false, false, false] rfl rfl (by kernel_rfl) (fun _ _ _ h => h) (Or.inl ⟨by rfl, ?_⟩) ?_ ?_
        rotate_left
        · intro w'
          go_simp
          with_reducible rfl
        rotate_left
        · simp only [Act.put, List.setIfInBounds_toArray, List.set_cons_zero, List.set_cons_succ, i64_w, i32_w]
          rfl
        refine take_ (i := 13) (N := some 67) (v := ?_) (a' := ?_) #[true, true, true, true, false, true, true, true, true, false, true, true, true, true, false, false, false] rfl rfl (by kernel_rfl) (fun _ _ _ h => h) (Or.inl ⟨by rfl, ?_⟩) hHeld ?_ ?_
        rotate_left
        · rintro w' ⟨s0, s1, s2, s3, s4, s5, s6, s7, s8, s9⟩
          go_simp
          with_reducible rfl
        rotate_left
        · simp only [Act.put, List.setIfInBounds_toArray, List.set_cons_zero, List.set_cons_succ, i64_w, i32_w]
          rfl
        refine one_ (i := 4) (N := some 58) #[true, true, true, true, true, true, true, true, true, false, true, true, true, true, false, false, false] rfl rfl (by kernel_rfl) (by decide) (fun K hK => ?_)
        refine value_ (v := .slice (some ⟨wa.heap.size, 0, none⟩) 0 0) (w1 := wa.drew.alloc (.cells #[] 48)) (by rfl) rfl ?_ ?_
        · go_simp
        refine hK.out _ _ ⟨x0, x1, x2, x3, x4, x5, x6, x7, x8, x9⟩ (fun hHeld => ?_)
        clear hK K
        refine norm_ (a' := ?_) ?_ ?_
        rotate_left
        · show Act.put _ (some 58) _ = _
          simp only [Act.put, List.setIfInBounds_toArray, List.set_cons_zero, List.set_cons_succ, i64_w, i32_w]
          rfl
        refine one_ (i := 9) (N := some 63) #[true, true, true, true, true, true, true, true, true, true, true, true, true, true, false, false, false] rfl rfl (by kernel_rfl) (by decide) (fun K hK => ?_)
        refine value_ (v := .slice Ax nx cx) (w1 := w2) (by rfl) rfl ?_ ?_
        · exact app_exec (.tmp 58) (.tmp 62) 32 rfl _ _ rfl rfl hrun
        refine hK.out _ _ ⟨y0, y1, y2, y3, y4, y5, y6, y7, y8, y9⟩ (fun hHeld => ?_)
        clear hK K
        refine norm_ (a' := ?_) ?_ ?_
        rotate_left
        · show Act.put _ (some 63) _ = _
          simp only [Act.put, List.setIfInBounds_toArray, List.set_cons_zero, List.set_cons_succ, i64_w, i32_w]
          rfl
        refine pure_ (i := 14) (N := some 68) (v := ?_) (a' := ?_) #[true, true, true, true, true, true, true, true, true, true, true, true, true, true, true, false, false] rfl rfl (by kernel_rfl) (fun _ _ _ h => h) (Or.inl ⟨by rfl, ?_⟩) ?_ ?_
        rotate_left
        · intro w'
          go_simp
          with_reducible rfl
        rotate_left
        · simp only [Act.put, List.setIfInBounds_toArray, List.set_cons_zero, List.set_cons_succ, i64_w, i32_w]
          rfl
        refine one_ (i := 15) (N := some 69) #[true, true, true, true, true, true, true, true, true, true, true, true, true, true, true, true, false] rfl rfl (by kernel_rfl) (by decide) (fun K hK => ?_)
        refine value_ (v := .pointer (some ⟨w2.heap.size, 0, none⟩)) (w1 := w2.alloc (.cells #[.slice Ah nh ch, .slice Ax nx cx, .int .i64 r0, .int .i64 r1, .int .i64 r2, .int .i64 r3, .int .i64 r4, .int .i64 r5, .int .i64 r6, .int .i64 r7] 85)) (by rfl) rfl ?_ ?_
        · go_simp
        refine hK.out _ _ ⟨z0, z1, z2, z3, z4, z5, z6, z7, z8, z9⟩ (fun hHeld => ?_)
        clear hK K
        refine norm_ (a' := ?_) ?_ ?_
        rotate_left
        · show Act.put _ (some 69) _ = _
          simp only [Act.put, List.setIfInBounds_toArray, List.set_cons_zero, List.set_cons_succ, i64_w, i32_w]
          rfl
        refine pure_ (i := 16) (N := some 10) (v := ?_) (a' := ?_) #[true, true, true, true, true, true, true, true, true, true, true, true, true, true, true, true, true] rfl rfl (by kernel_rfl) (fun _ _ _ h => h) (Or.inl ⟨by rfl, ?_⟩) ?_ ?_
        rotate_left
        · intro w'
          go_simp
          with_reducible rfl
        rotate_left
        · simp only [Act.put, List.setIfInBounds_toArray, List.set_cons_zero, List.set_cons_succ, i64_w, i32_w]
          rfl
        refine done_ (by kernel_rfl) ?_
        go_wp2
        obtain ⟨W3, hW3⟩ : ∃ W3, W3 = w2.alloc (.cells #[.slice Ah nh ch, .slice Ax nx cx, .int .i64 r0, .int .i64 r1, .int .i64 r2, .int .i64 r3, .int .i64 r4, .int .i64 r5, .int .i64 r6, .int .i64 r7] 85) := ⟨_, rfl⟩
        obtain ⟨xb, hxb⟩ : ∃ xb, xb = w2.heap.size := ⟨_, rfl⟩
        have hMX : MS w W3 g B1 V cnt okA xb (.slice Ah nh ch) (.slice Ax nx cx) L T [r0, r1, r2, r3, r4, r5, r6, r7] k := by rw [hW3, hxb]; exact HX.out.2.2
        have hbW3 : Below wa.heap.size wa W3 := by
          rw [hW3]
          have h1 : Below wa.heap.size wa w2 := ⟨HX.out.1.os, HX.out.1.tape, HX.out.1.output, HX.out.1.size, HX.out.1.block⟩
          exact h1.alloc h1.size _
        have hxa : wa.heap.size ≤ xb := by rw [hxb]; exact HX.out.1.size
        have HMX := Aside0.mk (And.intro hMX (And.intro hbW3 (And.intro hxa HX.out.2.1)))
        rw [← hW3, ← hxb]
        clear hW3 hxb hMX hbW3 hxa HX c0 c1 c2 c3 c4 c5 c6 c7 c8 c9 x0 x1 x2 x3 x4 x5 x6 x7 x8 x9 y0 y1 y2 y3 y4 y5 y6 y7 y8 y9 z0 z1 z2 z3 z4 z5 z6 z7 z8 z9 hrun HMk HD
        (try clear hHeld)
        (try clear hHeld)
        (try clear hHeld)
        (try clear hHeld)
        go_loopw [11] (fun v11 wr => ∃ j : Nat, v11 = .int .i64 j ∧ nn ≤ j ∧ j ≤ len ∧ j ≤ nn + 60 ∧ Aside0 (BB w g xb B1 W3 okA (.slice Ax nx cx) (k + (j - nn)) wr)) (fun v11 _ => len - (intOf v11).toNat)
        case atStart => exact ⟨nn, rfl, by omega, by omega, by omega, ⟨_, _, _, _, _, _, _, _, by rw [Nat.sub_self]; exact HMX.out.1, AF.below (Below.refl _ _)⟩⟩
        case round =>
          obtain ⟨j, rfl, hj0, hj1, hj2, HI⟩ := hrel
          by_cases h1 : j < len ∧ j < nn + 60
          · obtain ⟨h1, h3⟩ := h1
            obtain ⟨b, off, rfl, hbw, hcells⟩ := HA.out (by omega)
            obtain ⟨V4, cnt4, ok4, hv4, tv4, L4, T4, R4, hM, hAF⟩ := HI.out
            obtain ⟨hc0, hc1, hc2⟩ := hcells j (by omega)
            have hbl := hM.fs.below
            have c0 : wr.cell? ⟨b, off + j * 3, none⟩ = some (.int .i64 (D j)) := (hbl.cell (p := ⟨b, off + j * 3, none⟩) hbw).trans hc0
            have c1 : wr.cell? ⟨b, off + j * 3 + 1, none⟩ = some (.int .i64 (C j)) := (hbl.cell (p := ⟨b, off + j * 3 + 1, none⟩) hbw).trans hc1
            have c2 : wr.cell? ⟨b, off + j * 3 + 2, none⟩ = some (.int .i64 (L0 j)) := (hbl.cell (p := ⟨b, off + j * 3 + 2, none⟩) hbw).trans hc2
            have HAct := Aside0.mk (act_any hM (by omega) (D j) (C j) (L0 j))
            have HAF := Aside0.mk hAF
            have q1 : j < len := by omega
            clear hcells hc0 hc1 hc2 hM hbl hbw HI hAF
            generalize D j = dk at *
            generalize C j = ck at *
            generalize L0 j = lk at *
            go_wp2_with (go_at_call 38; refine HAct.out.mono ?_; rintro e w4 ⟨rfl, hr⟩; have H2 := Aside0.mk hr; clear hr)
            go_roundw
            case rel =>
              obtain ⟨V', cnt', ok', hv', tv', L', T', R', hM, hA2⟩ := H2.out
              exact ⟨j + 1, by go_num, by omega, by omega, by omega, ⟨V', cnt', ok', hv', tv', L', T', R', by rw [show k + (j + 1 - nn) = k + (j - nn) + 1 by omega]; exact hM, HAF.out.trans hA2⟩⟩
            case measure => simp [intOf]; omega
          · rcases (show len ≤ j ∨ (j < len ∧ nn + 60 ≤ j) by omega) with h3 | h3
            all_goals
              (try have q61 : decide ((j : Int) < (nn : Int) + 60) = false := by simp; omega)
              clear h1
              obtain ⟨V4, cnt4, ok4, hv4, tv4, L4, T4, R4, hM4, hAF⟩ := HI.out
              have hmm := HMA.out.stays HMX.out.2.1 HMX.out.2.2.1 HMX.out.2.2.2 hAF
              obtain ⟨hmn, hmo, hmc, hB1p, hB1m, hB1g⟩ := HK.out
              have hBk := f_back (m := 1) (i := 0) (k := mk) (V' := V) hM4.fs.fat (by rw [hB1m]; simp) (by rw [hB1m]; rfl) hmn (fun j hj => absurd hj (Nat.not_lt_zero _)) (fun x => by rw [hB1g]; exact hmo x)
              rw [hmc, hB1p] at hBk
              have HBk := Aside0.mk hBk
              have HM4 := Aside0.mk (And.intro hM4 hmm)
              clear hBk hM4 hmm hAF hmn hmo hmc hB1p hB1m hB1g HI
              go_wp2_with (first
                | (go_at_call 31; refine HBk.out.mono ?_; rintro e w5 ⟨rfl, hL5⟩
                   obtain ⟨B2, ok5, hB2p, hM5⟩ : ∃ (B2 : PG) (ok5 : Nat → Prop), B2.p = p ∧ MS w w5 g B2 V cnt ok5 mb (.slice Ah nh ch) tv L T R k := (by refine ⟨_, _, ?_, HMA.out.back HM4.out.1.fs HM4.out.2 hL5⟩; rfl)
                   have HM5 := Aside0.mk hM5
                   have HB2 := Aside0.mk hB2p
                   have HHl := Aside0.mk (fs_held hM5.fs hM5.srt (fun x => (hM5.held x).symm))
                   clear hL5 hM5 hB2p)
                | (go_at_call 40; refine HHl.out.mono ?_; rintro e w6 ⟨v6, rfl, hv6, hb6⟩
                   obtain ⟨A6, c6, rfl, hC6, hc6⟩ := R_row hv6
                   have hM6 := HM5.out.step hb6
                   have d0 : w6.cell? ⟨mb, 0, none⟩ = some (.slice Ah nh ch) := hM6.mm.md.c0
                   obtain ⟨hCh, hch, hnh⟩ := C_of_rowk hM6.mm.md.held
                   have HQ := eqnumbers_any hC6 hc6 hCh hch (by have := hM6.len; omega)
                   rw [decide_eq_true rfl] at HQ
                   replace HQ := Aside0.mk HQ
                   have HM6 := Aside0.mk (And.intro hM6 hnh)
                   clear hv6 hb6 hC6 hc6 hM6 hCh hch hnh)
                | (go_at_call 41; refine HQ.out.mono ?_; rintro e w' ⟨rfl, m6, rfl⟩)
                | (go_at_call 39; refine (num13_any _ _).mono ?_; rintro e w' ⟨rfl, rfl⟩))
              have hnh60 : nh ≤ 60 := by have := HM6.out.1.len; have := HM6.out.2; omega
              go_loopw [13] (fun v13 wr => ∃ i : Nat, v13 = .int .i64 i ∧ i ≤ nh ∧ Aside0 (MS w wr g B2 V cnt ok5 mb (.slice Ah nh ch) tv L T R k)) (fun v13 _ => nh - (intOf v13).toNat)
              case atStart => exact ⟨0, rfl, by omega, ⟨HM6.out.1.step (pw_below_drewN (Below.refl _ _) m6)⟩⟩
              case round =>
                obtain ⟨i, rfl, hi, HI⟩ := hrel
                have hnh := HM6.out.2
                by_cases h5 : i < nh
                · have hM := HI.out
                  have hil : i < L.length := by omega
                  obtain ⟨x, hx⟩ : ∃ x, L[i]? = some x := ⟨_, List.getElem?_eq_getElem hil⟩
                  obtain ⟨gh, ch', he, _, _, _⟩ := Kd.R_form hM.mm.md.held (by omega)
                  injection he with he1 he2 he3
                  subst he1
                  have c0 : wr.cell? ⟨mb, 0, none⟩ = some (.slice (some ⟨gh, 0, none⟩) nh ch) := hM.mm.md.c0
                  have hcx := irow_cell hM.mm.md.held i h5
                  have hrx : rd L (i : Int) = x := by simp [rd, List.getD_eq_getElem?_getD, hx]
                  rw [hrx] at hcx
                  have HR := Aside0.mk (fs_read hM.fs x ((hM.held x).2 (List.mem_of_getElem? hx)))
                  have HX := Aside0.mk hx
                  have HHN := Aside0.mk hnh
                  clear hM hx hrx he2 he3 hil hnh
                  go_wp2_with (first
                    | (go_at_call 42; refine HR.out.mono ?_; rintro e w7 ⟨v7, rfl, hv7, hb7⟩
                       have hM7 := HI.out.step hb7
                       obtain ⟨hVl, tb, tc, t, rfl, hT, hct, hCt, ht2⟩ := hM7.textcell HX.out
                       obtain ⟨A7, c7, rfl⟩ := Kd.R_slice hv7
                       rw [hVl] at hv7 ⊢
                       obtain ⟨hC7, hc7, _⟩ := C_of_row hv7
                       have c1 : w7.cell? ⟨mb, 1, none⟩ = some (.slice (some ⟨tb, 0, none⟩) L.length tc) := hM7.mm.md.c1
                       rw [HHN.out] at c1
                       have HE := eqbytes_any hC7 hc7 hCt ht2 (by omega)
                       rw [decide_eq_true rfl] at HE
                       replace HE := Aside0.mk HE
                       have H7 := Aside0.mk (And.intro hM7 hT)
                       clear hM7 hVl hT hCt ht2 hv7 hb7 hC7 hc7)
                    | (go_at_call 24; refine HE.out.mono ?_; rintro e w' ⟨rfl, m7, rfl⟩)
                    | (go_at_call 39; refine (num13_any _ _).mono ?_; rintro e w' ⟨rfl, rfl⟩))
                  go_roundw
                  case rel => exact ⟨i + 1, by go_num, by omega, ⟨H7.out.1.step (pw_below_drewN (Below.refl _ _) m7)⟩⟩
                  case measure => simp [intOf]; omega
                · have hM := HI.out
                  have c0 : wr.cell? ⟨mb, 0, none⟩ = some (.slice Ah nh ch) := hM.mm.md.c0
                  obtain ⟨X, ok1, hXB, _, _, hXi, hXd, _, hXS, hXg, hX1, hX2⟩ := hM.fs.fat
                  have hXp : X.p = p := by rw [← HB2.out, ← hXB]; rfl
                  have hRo := s_roll hXS hXd hXi
                  rw [hXp] at hRo
                  have HRo := Aside0.mk hRo
                  rw [← hXB] at hXg
                  have HXX := Aside0.mk (And.intro hM (And.intro hXd (And.intro hXg (And.intro hX1 (And.intro hX2 hXp)))))
                  clear hM hXB hXi hXd hXS hXg hX1 hX2 hXp hRo HI
                  go_wp2_with (first
                    | (go_at_call 27; refine HRo.out.mono ?_; rintro e w8 ⟨rfl, hS8, hF8⟩
                       have hg8 : w8.heap[g]? = some (.cells #[dp X.p] 137 (0, 0)) := (hF8.block g (heap_lt HXX.out.2.2.1) (fun h => (HXX.out.2.2.2.1 g h).2 rfl)).trans HXX.out.2.2.1
                       have HHo := Aside0.mk (gheldl_out hS8.pg hg8 (by unfold askE; rw [show X.ended.dead = X.dead from rfl, HXX.out.2.1]; rfl))
                       have H8 := Aside0.mk hF8
                       clear hS8 hF8 hg8)
                    | (go_at_call 40; refine HHo.out.mono ?_; rintro e w' ⟨rfl, rfl⟩)
                    | (go_at_call 43; refine (gnew_nil _).mono ?_; rintro e w' ⟨rfl, rfl⟩)
                    | (go_at_call 44; refine (wakes_any _).mono ?_; rintro e w9 ⟨rfl, hb9⟩; have H9 := Aside0.mk hb9; clear hb9)
                    | (go_at_call 39; refine (num13_any _ _).mono ?_; rintro e w' ⟨rfl, rfl⟩))
                  go_ret
                  have hM := HXX.out.1
                  have hb8 : Below w.heap.size w w8 := hM.fs.below.trans (H8.out.below (fun k hk => hM.fs.fresh k (HXX.out.2.2.2.1 k hk).1) hM.fs.below.size)
                  exact ⟨rfl, hb8.trans (H9.out.mono hb8.size)⟩
end Go.Proofs.YtmdpgjdepflbmaaGreat

/-
  PagesBack returns true for every list of acts and leaves its argument as it was; it asks no condition.
-/
namespace Go.Proofs.YtmdpgjdepflbmaaGreat.pagesBackP
open Go.ChangeShapes Go.WideShapes Go.ChangeAt Go.RowKit Go.Deep
set_option linter.unusedVariables false

theorem cellsE : Tryz.prog.cellsOf 87 = 3 := by kernel_rfl

section
variable {H : Type} {enc : TypeId × Value → H} {P : Program} {w : World} {base : Nat} {spare : Nat → Bool} {held : Bool}
theorem open_slice_fields {t e : TypeId} {fs : Array Field} {fuel : Nat} {cs : List Value} {x : DataW H × List MemPlace} (ht : P.underlying t = some (.slice e)) (he : P.underlying e = some (.struct fs))
    (hone : oneCellFields P fs = true) (hC : P.cellsOf e = fs.size) (h : DataW.trod enc P w base spare held fuel t cs = some x) :
    (cs = [.slice none 0 0] ∧ x = (.nil, [])) ∨
    ∃ (a : Addr) (len cap m : Nat) (D : Nat → DataW H) (Pl : Nat → List MemPlace), cs = [.slice (some a) len cap] ∧ base ≤ a.block ∧ len ≤ cap ∧ cap ≤ maxLen ∧ m = (if spare a.block then cap else len) ∧
      x = (.slice ((List.range len).map D) ((List.range (m - len)).map fun j => D (len + j)), MemPlace.row a (m * fs.size) ++ (List.range m).flatMap Pl) ∧
      ∀ i, i < m → ∃ (ys : List (DataW H × List MemPlace)) (n : Nat), D i = .agg (ys.map (·.1)) ∧ Pl i = ys.flatMap (·.2) ∧ ys.length = fs.size ∧
        ∀ (j : Nat) (f : Field), fs[j]? = some f → ∃ (v : Value) (y : DataW H × List MemPlace), w.cell? (a.add (i * fs.size + j)) = some v ∧ ys[j]? = some y ∧ DataW.trod enc P w base spare held n f.type [v] = some y := by
  rcases open_slice ht h with h0 | ⟨a, len, cap, m, n, D, Pl, hcs, hb, hl, hm, hmm, hx, hi⟩
  · exact .inl h0
  · refine .inr ⟨a, len, cap, m, D, Pl, hcs, hb, hl, hm, hmm, by rw [hC] at hx; exact hx, fun i him => ?_⟩
    obtain ⟨cs', hc, ht'⟩ := hi i him
    rw [hC] at hc
    obtain ⟨ys, n', hn', hy, hlen, hyl, hf⟩ := DataW.trod_struct he ht'
    obtain ⟨_, hcl, hat⟩ := World.cells?_some hc
    simp only [Prod.mk.injEq] at hy
    refine ⟨ys, n', hy.1, hy.2, hyl, fun j f hj => ?_⟩
    obtain ⟨ho, hk⟩ := hone_of hone j f hj
    have hjl : j < fs.size := (Array.getElem?_eq_some_iff.1 hj).1
    have hcell := hat j hjl
    have hv : cs'[j]? = some (cs'[j]'(by omega)) := List.getElem?_eq_getElem (by omega)
    have h1 := hf j f hj
    rw [ho, hk] at h1
    have hone' : (cs'.drop j).take 1 = [cs'[j]'(by omega)] := by
      rw [List.drop_eq_getElem_cons (by omega)]
      rfl
    rw [hone'] at h1
    have hys : ys[j]? = some (ys[j]'(by omega)) := List.getElem?_eq_getElem (by omega)
    refine ⟨_, _, ?_, hys, h1.trans hys⟩
    rw [← Go.Deep.add_add, hcell, hv]
end

theorem add_mid' (b o j : Nat) : (⟨b, o, none⟩ : Addr).add j = ⟨b, o + j, none⟩ := by unfold Addr.add; split <;> simp_all

set_option maxRecDepth 100000 in
theorem lifted (os : Os) (started : os.Started) (H : Type) (enc : TypeId × Value → H) :
    ReturnsInHanded {} Tryz.checked os 10 .any (Rows.pagesBackSpec.pre6 enc Tryz.prog Tryz.f10 Rows.pagesBackRow.domain false) (Rows.pagesBackSpec.post enc Tryz.prog Tryz.f10 false true false false) := by
  refine returnsInHanded_of_change (C := Tryz.checked) fact.own started (by kernel_rfl) Tryz.func10
    (ChangeSpec.witness6 (enc := enc) (C := Tryz.checked) false ⟨#[], #[.slice none 0 0], []⟩ 8 (by kernel_rfl) (by kernel_rfl) (by kernel_rfl) (by kernel_rfl)) ?_
  intro W base args ds gs before hval0 hW hcnd _
  have hval : ∀ (j : Nat) t v, Tryz.f10.params[j]? = some t → args[j]? = some v → Value.okWide Tryz.prog W .any base t v := hval0
  have hW' := hW
  obtain ⟨p, q, hA0, hV, rfl, hfz, hnd⟩ := hW
  have hA : DataW.TrodAll enc Tryz.prog W 0 (fun _ => true) true Tryz.f10.params.toList args.toList ds p := hA0
  rw [Tryz.params10] at hA hval
  obtain ⟨v0, vs0, d0, ds0, p0, q0, hargs, rfl, rfl, h0, r0⟩ := trodAll_cons hA
  obtain ⟨rfl, rfl, rfl⟩ := trodAll_nil r0
  obtain rfl : args = #[v0] := by cases args; simp_all
  obtain ⟨rfl, rfl⟩ := trodVars_none hV
  obtain ⟨a0, len0, cap0, rfl⟩ := okWide_slice Tryz.underlying78 (hval 0 78 v0 rfl rfl)
  have k0 := h0
  have lt0 : ∀ x ∈ p0, x.block < W.heap.size := by obtain ⟨m, hm⟩ := k0; exact DataW.trod_lt m _ _ _ hm
  obtain ⟨F0, F1, F2, hl0, w0⟩ : ∃ F0 F1 F2, len0 ≤ 9223372036854775807 ∧ Acts W a0 len0 F0 F1 F2 := by
    obtain ⟨fuel, hf⟩ := h0
    rcases open_slice_fields Tryz.underlying78 Tryz.underlying87 (by kernel_rfl) cellsE hf with ⟨hcs, _⟩ | ⟨x, l, c, m, D, Pl, hcs, _, hl, hm, hmm, hx, hi⟩
    · simp [Value.cells] at hcs
      obtain ⟨rfl, rfl, rfl⟩ := hcs
      exact ⟨fun _ => 0, fun _ => 0, fun _ => 0, by omega, fun h => absurd h (by omega)⟩
    · simp [Value.cells] at hcs
      obtain ⟨rfl, rfl, rfl⟩ := hcs
      have hm' : m = cap0 := by simpa using hmm
      subst hm'
      have key : ∀ i, i < len0 → ∃ t : Int × Int × Int, W.cell? (x.add (i * 3 + 0)) = some (.int .i64 t.1) ∧ W.cell? (x.add (i * 3 + 1)) = some (.int .i64 t.2.1) ∧ W.cell? (x.add (i * 3 + 2)) = some (.int .i64 t.2.2) := by
        intro i hi0
        obtain ⟨ys, n, _, _, _, hf⟩ := hi i (by omega)
        obtain ⟨v1, y1, hc1, _, ht1⟩ := hf 0 _ rfl
        obtain ⟨v2, y2, hc2, _, ht2⟩ := hf 1 _ rfl
        obtain ⟨v3, y3, hc3, _, ht3⟩ := hf 2 _ rfl
        obtain ⟨n1, e1, _, _⟩ := DataW.trod_int Tryz.underlying3 ht1
        obtain ⟨n2, e2, _, _⟩ := DataW.trod_int Tryz.underlying3 ht2
        obtain ⟨n3, e3, _, _⟩ := DataW.trod_int Tryz.underlying3 ht3
        simp at e1 e2 e3
        subst e1 e2 e3
        exact ⟨(n1, n2, n3), hc1, hc2, hc3⟩
      obtain ⟨T, hT⟩ : ∃ T : Nat → Int × Int × Int, ∀ i, i < len0 → W.cell? (x.add (i * 3 + 0)) = some (.int .i64 (T i).1) ∧ W.cell? (x.add (i * 3 + 1)) = some (.int .i64 (T i).2.1) ∧ W.cell? (x.add (i * 3 + 2)) = some (.int .i64 (T i).2.2) := by
        classical
        exact ⟨fun i => if h : i < len0 then (key i h).choose else (0, 0, 0), fun i h => by simp only [dif_pos h]; exact (key i h).choose_spec⟩
      refine ⟨fun i => (T i).1, fun i => (T i).2.1, fun i => (T i).2.2, by unfold maxLen at hm; omega, fun hpos => ?_⟩
      obtain ⟨b, off, spot⟩ := x
      have hspot : spot = none := by simpa [Addr.add] using World.cell?_spot (hT 0 hpos).1
      subst hspot
      refine ⟨b, off, rfl, ?_, fun i hi => ?_⟩
      · have h3 := (hT 0 hpos).1
        have h4 := World.block_lt_of_cell? _ _ h3
        rw [add_mid'] at h4
        exact h4
      · obtain ⟨h3, h4, h5⟩ := hT i hi
        rw [add_mid'] at h3 h4 h5
        exact ⟨h3, h4, h5⟩
  clear hA0 hval0
  refine (back_any a0 len0 cap0 F0 F1 F2 W hl0 w0).mono fun e W' ⟨he, bel⟩ => ?_
  subst he
  exact ⟨_, rfl, _, _, _, [], _, [], hW', trodAll_mk1 (shut_bool Tryz.underlying4 _), (trodAll_cons_mk (Below.trod fact.laid (by kernel_rfl) (of_decide_eq_true (by kernel_rfl)) k0 bel lt0) trodAll_mk0), rfl, bel.frame _, fun h => by cases h⟩

theorem c_wf : Rows.pagesBackRow.wf (OpenSpec.ofChange Rows.pagesBackSpec) = true := by kernel_rfl
theorem c_read : Tryz.f10.params.all (Tryz.prog.readableRec ·) = true := by kernel_rfl
theorem c_tie : namedTie Tryz.prog Rows.pagesBackRow.named Rows.pagesBackSpec.vars = true := by kernel_rfl
theorem c_st1 : (Rows.pagesBackRow.stops == []) = true := by kernel_rfl
theorem c_kn1 : (Rows.pagesBackRow.knobs == []) = true := by kernel_rfl
theorem c_inPlace : (Rows.pagesBackRow.inPlace == Tryz.prog.inPlace 10) = true := by kernel_rfl
theorem c_unfol : (Rows.pagesBackRow.unfollowed == Tryz.prog.unfollowed 10) = true := by kernel_rfl
theorem c_recur : (Rows.pagesBackRow.recurses == Tryz.prog.recurses 10) = true := by kernel_rfl
theorem c_named : (Rows.pagesBackRow.named == Tryz.prog.varsNamed 10) = true := by kernel_rfl
theorem c_maps : (Rows.pagesBackRow.maps == (Tryz.f10.params.toList ++ Rows.pagesBackSpec.plain.varTypes Tryz.prog).any (Tryz.prog.mapsRec ·)) = true := by kernel_rfl
theorem c_ifaces : (Rows.pagesBackRow.ifaces == (Tryz.f10.params.toList ++ Rows.pagesBackSpec.plain.varTypes Tryz.prog).any (Tryz.prog.ifacesRec ·)) = true := by kernel_rfl
theorem c_mapsOut : (Rows.pagesBackRow.mapsOut == (Tryz.prog.mapsAmong Tryz.f10.resultTypes.toList)) = true := by kernel_rfl
theorem c_loops : (Rows.pagesBackRow.loops == (Tryz.f10.params.toList ++ Rows.pagesBackSpec.plain.varTypes Tryz.prog).any (Tryz.prog.loopsFrom ·)) = true := by kernel_rfl
theorem c_wideK : (Rows.pagesBackRow.wideKeys == (Tryz.f10.params.toList ++ Rows.pagesBackSpec.plain.varTypes Tryz.prog ++ Tryz.f10.resultTypes.toList).any (Tryz.prog.wideKeysFrom ·)) = true := by kernel_rfl
theorem c_vars : Rows.pagesBackSpec.vars.all (Tryz.prog.varReadable ·) = true := by kernel_rfl
theorem c_res : Tryz.f10.resultTypes.all (fun t => Tryz.prog.readableRec t && decide (t < Tryz.prog.types.size)) = true := by kernel_rfl
theorem c_ifOut : (Rows.pagesBackRow.ifacesOut == Tryz.f10.resultTypes.toList.any (Tryz.prog.ifacesRec ·)) = true := by kernel_rfl
theorem c_loOut : (Rows.pagesBackRow.loopsOut == Tryz.f10.resultTypes.toList.any (Tryz.prog.loopsFrom ·)) = true := by kernel_rfl
theorem c_plain : (Rows.pagesBackRow.plainKeys == Tryz.prog.plainKeys) = true := by kernel_rfl
theorem c_short : Rows.pagesBackRow.shortTexts.isNone = true := by kernel_rfl
theorem c_lifts : (Rows.pagesBackRow.lifted == Tryz.prog.liftsFinal) = true := by kernel_rfl
theorem c_make : (Tryz.prog.make == some Rows.pagesBackRow.make) = true := by kernel_rfl
theorem c_kinds : (Rows.pagesBackRow.kinds == (if Rows.pagesBackRow.domain.isEmpty then [] else Tryz.f10.params.toList.map fun t => match Tryz.prog.underlying t with | some (.int k) => some k | _ => none)) = true := by kernel_rfl
theorem c_pinned : (Rows.pagesBackRow.pinned == Rows.pagesBackRow.pinnedBy) = true := by kernel_rfl
theorem c_veiled : (Rows.pagesBackRow.veiled == (Tryz.f10.params.toList ++ Rows.pagesBackSpec.plain.varTypes Tryz.prog ++ Tryz.f10.resultTypes.toList).any (Tryz.prog.veiledRec ·)) = true := by kernel_rfl
theorem c_vfits : Rows.pagesBackRow.veiledFits Tryz.prog Tryz.f10.params.toList (Tryz.f10.params.toList ++ Rows.pagesBackSpec.plain.varTypes Tryz.prog ++ Tryz.f10.resultTypes.toList) = true := by kernel_rfl
set_option maxRecDepth 100000 in
theorem closed : joinedFacts Tryz.prog 10 Tryz.f10 Rows.pagesBackSpec Rows.pagesBackRow = true := by
  unfold joinedFacts
  simp only [Bool.and_eq_true]
  exact ⟨⟨⟨⟨⟨⟨⟨⟨⟨⟨⟨⟨⟨⟨⟨⟨⟨⟨⟨⟨⟨⟨⟨⟨⟨⟨⟨⟨⟨⟨⟨c_wf, fact.laid⟩, fact.rowed⟩, c_read⟩, c_tie⟩, c_st1⟩, fact.stops⟩, c_kn1⟩, fact.stopKnobs⟩, c_inPlace⟩, c_unfol⟩, c_recur⟩, c_named⟩, c_maps⟩, c_ifaces⟩, c_mapsOut⟩, c_loops⟩, c_wideK⟩, c_vars⟩, c_res⟩, c_ifOut⟩, c_loOut⟩, c_plain⟩, c_short⟩, fact.heard⟩, fact.enter⟩, c_lifts⟩, c_make⟩, c_kinds⟩, c_pinned⟩, c_veiled⟩, c_vfits⟩
theorem h_named : Tryz.pinned.checked.prog.funcNamed Rows.pagesBackRow.func = some 10 := by kernel_rfl
theorem h_inst : Tryz.f10.isInstance Tryz.pinned.checked.prog Rows.pagesBackRow.origin Rows.pagesBackRow.targs := of_decide_eq_true (by kernel_rfl)
theorem h_wrap : Tryz.f10.isWrapper Tryz.pinned.checked.prog Rows.pagesBackRow.wrapper Rows.pagesBackRow.mainSum := by
  unfold Func.isWrapper; first | (rw [if_pos (by decide +kernel)]; kernel_rfl) | (rw [if_neg (by decide +kernel)]; exact ⟨rfl, rfl⟩)
set_option maxRecDepth 100000 in
theorem over : Rows.pagesBackRow.holds Tryz.pinned (OpenSpec.ofChange Rows.pagesBackSpec) :=
  OpenClaim.holds_of_wide 10 Tryz.f10 rfl rfl rfl rfl rfl rfl rfl ⟨rfl, rfl, rfl, rfl, rfl⟩ rfl rfl rfl rfl rfl h_named Tryz.func10 closed h_inst h_wrap
    (fun os started H enc _ => lifted os started H enc)

/-- the statement -/
theorem proved : Rows.PagesBackSaid := over
#print axioms proved
end Go.Proofs.YtmdpgjdepflbmaaGreat.pagesBackP

/-
  A pager's marks: maps.Clone of its written pages.
-/
import Derived.Test.YtmdpgjdepflbmaaGreatCD
import Derived.Test.YtmdpgjdepflbmaaGreatCKeys
namespace Go.Proofs.YtmdpgjdepflbmaaGreat
open Go.RowKit Go.Maps Go.Proofs.YtmdpgjdepflbmaaGreatW.PrintWords Go.Proofs.YtmdpgjdepflbmaaGreatW.PrintLast Go.Proofs.YtmdpgjdepflbmaaGreatW.PrintMore
open Go.Proofs.YtmdpgjdepflbmaaGreat.PPagerFolds
set_option linter.unusedVariables false
set_option linter.unusedSimpArgs false

theorem clone_own {w : World} {ok : Nat → Prop} {b : Nat} {own : Own} (h : OwnAt w ok b own) :
    Calls Tryz.prog 62 #[.map (some b)] w fun e w' => e = .returned (.map (some w.heap.size)) ∧ OwnAt w' (fun k => ok k ∨ k = w.heap.size) w.heap.size own ∧ Below w.heap.size w w' := by
  obtain ⟨ho, f, sz, ⟨⟨n, D, hm, hD⟩, hf⟩, h2, h3⟩ := h
  refine (AnyW.maps_Clone_owns Tryz.cloneM _ _ b n D w hm).mono ?_
  rintro e w' ⟨rfl, h4, _, hb⟩
  refine ⟨rfl, ⟨.inr rfl, f, sz, ⟨⟨n, D, h4, hD⟩, hf⟩, h2, fun x v hx => ?_⟩, hb⟩
  obtain ⟨a, c, bs, d, e, g⟩ := h3 x v hx
  exact ⟨a, c, bs, d, e, (g.step (fun k hk hl => hb.block k hl)).mono (fun k hk => .inl hk)⟩




theorem OwnAt.other {w w' : World} {ok ok' : Nat → Prop} {b p : Nat} {own : Own} {cs : Array Value} (h5 : OwnAt w ok b own) (hp : w.heap[p]? = some (.cells cs 113 (0, 0))) (hm : ∀ k, ok k → k < w.heap.size → k ≠ p → w'.heap[k]? = w.heap[k]?) (hok : ∀ k, ok k → ok' k) : OwnAt w' ok' b own := by
  obtain ⟨ho1, f, sz, hS, hn, hs⟩ := h5
  have hbp : b ≠ p := by
    obtain ⟨o', ho', hne'⟩ := hS.isMap
    rintro rfl
    rw [hp] at ho'
    exact hne' _ _ (Option.some.inj ho').symm
  refine ⟨hok _ ho1, f, sz, hS.move (hm b ho1 hS.lt hbp), hn, fun x v hx => ?_⟩
  obtain ⟨a1, a2, bs', a3, a4, a5⟩ := hs x v hx
  exact ⟨a1, a2, bs', a3, a4, a5.same (fun k hk => hm k (a5.1 k hk) (a5.lt hk) (a5.ne hp (fun cs e => by injection e with _ e2; cases e2) hk)) (fun k hk => hok k (a5.1 k hk))⟩
/-- written pages stand where blocks that are no cells of another type than bytes' stand -/
theorem OwnAt.fine {w w' : World} {ok ok' : Nat → Prop} {b : Nat} {own : Own} (h5 : OwnAt w ok b own) (hm : ∀ k, ok k → k < w.heap.size → (∀ cs t, w.heap[k]? = some (.cells cs t (0, 0)) → t = 5) → w'.heap[k]? = w.heap[k]?) (hok : ∀ k, ok k → ok' k) : OwnAt w' ok' b own := by
  obtain ⟨ho1, f, sz, hS, hn, hs⟩ := h5
  refine ⟨hok _ ho1, f, sz, hS.move (hm b ho1 hS.lt (fun cs t h => ?_)), hn, fun x v hx => ?_⟩
  · obtain ⟨o', ho', hne'⟩ := hS.isMap
    rw [h] at ho'
    exact absurd (Option.some.inj ho').symm (hne' _ _)
  · obtain ⟨a1, a2, bs', a3, a4, a5⟩ := hs x v hx
    refine ⟨a1, a2, bs', a3, a4, a5.same (fun k hk => hm k (a5.1 k hk) (a5.lt hk) (fun cs t h => ?_)) (fun k hk => hok k (a5.1 k hk))⟩
    obtain ⟨cs', hc⟩ := a5.block hk
    rw [h] at hc
    injection hc with hc
    injection hc
theorem mkCells_snoc (m : Mk) (b : Nat) : ∀ (ms : List Mk) (bs : List Nat), bs.length = ms.length → mkCells (ms ++ [m]) (bs ++ [b]) = mkCells ms bs ++ [.int .i64 m.n, .map (some b), .int .i64 m.count]
  | [], [], _ => rfl
  | m' :: ms, b' :: bs, h => by
    simp only [List.cons_append, mkCells]
    rw [mkCells_snoc m b ms bs (by simpa using h)]
theorem infoMk : (Tryz.prog.info? 123).map (fun i => (i.zero, i.size, i.bytes)) = some (some (.agg #[.int .i64 0, .map none, .int .i64 0]), 3, 24) := by kernel_rfl
set_option maxRecDepth 100000 in
theorem mark_row {w : World} {X : PG} {ok : Nat → Prop} {bo : Nat} {vw vm : Value} (h : PRep w X ok bo vw vm) (hi : X.inn = true) (hd : X.dead = false) (hn0 : 0 ≤ X.next) (hn : X.next < 1000000) (hml : X.marks.length ≤ 100000) :
    Calls Tryz.prog 32 #[dp X.p] w fun e w' => e = .returned (.tuple #[.int .i64 (X.next + 1), .int .i64 0]) ∧ ∃ v4, PRep w' { X with next := X.next + 1, marks := X.marks ++ [⟨X.next + 1, X.own, X.count⟩] } (fun k => ok k ∨ (w.heap.size ≤ k ∧ k < w'.heap.size)) bo vw v4 ∧ Fr ok w w' := by
  have HA := Aside0.mk (ask_any ⟨bo, vw, vm, h⟩)
  have c11' := h.cell 11
  have f11' := h.frozen 11
  have hp := h.hp
  have hplt' := h.lt
  have HO := h.own hi
  rw [hi, if_pos rfl] at hp
  obtain ⟨p, hpe⟩ : ∃ p, p = X.p := ⟨_, rfl⟩
  obtain ⟨nx, hnx⟩ : ∃ nx, nx = X.next := ⟨_, rfl⟩
  obtain ⟨ct, hct⟩ : ∃ ct, ct = X.count := ⟨_, rfl⟩
  have hE : askE X = 0 := by unfold askE; rw [hd, hi]; rfl
  rw [hE] at HA
  rw [← hpe, ← hnx, ← hct] at hp
  rw [← hpe] at HA c11' f11' hplt' ⊢
  rw [← hnx] at c11' hn0 hn ⊢
  obtain ⟨w1, hw1⟩ : ∃ w1, w1 = w.setCell ⟨p, 11, none⟩ (.int .i64 (nx + 1)) := ⟨_, rfl⟩
  have hp1 : w1.heap[p]? = some (.cells #[dp X.d, .int .i64 X.mode, dp X.l, .int .i64 X.c, .bool X.dead, .bool true, .bool X.wrote, vw, .map (some bo), .int .i64 ct, vm, .int .i64 (nx + 1), .int .i64 X.sure] 113 (0, 0)) := by rw [hw1]; exact (md_set (cs := [_, _, _, _, _, _, _, _, _, _, _, _, _]) hp 11 (.int .i64 (nx + 1))).1
  have c10 := cell_of_row w1 p 10 _ _ (0, 0) hp1
  have c11 := cell_of_row w1 p 11 _ _ (0, 0) hp1
  have c8 := cell_of_row w1 p 8 _ _ (0, 0) hp1
  have c9 := cell_of_row w1 p 9 _ _ (0, 0) hp1
  replace c10 : w1.drew.cell? ⟨p, 10, none⟩ = some vm := c10
  replace c11 : w1.drew.cell? ⟨p, 11, none⟩ = some (.int .i64 (nx + 1)) := c11
  replace c8 : w1.drew.cell? ⟨p, 8, none⟩ = some (.map (some bo)) := c8
  replace c9 : w1.drew.cell? ⟨p, 9, none⟩ = some (.int .i64 ct) := c9
  have hplt : p < w1.drew.heap.size := heap_lt (o := _) (w := w1.drew) hp1
  have hO1 : OwnAt w1.drew ok bo X.own := by
    have hO1 : OwnAt w1 ok bo X.own := HO.other hp (fun k _ _ hk => by rw [hw1]; exact Below.heap_setCell _ _ _ _ hk) (fun _ h => h)
    exact hO1.move (fun _ _ _ => rfl)
  have HCl := Aside0.mk (clone_own hO1)
  obtain ⟨hvok, bs, hbl, hown, hms⟩ := h.marks
  have hvp : ∀ k, vm.ownBlock = some k → k ≠ p := fun k hk e => by
    obtain ⟨cs, hcs⟩ := own_typed hown k hk
    rw [e, hp] at hcs
    injection hcs with hcs
    injection hcs with _ hcs
    exact absurd hcs (by decide)
  have hown1 : w1.ownsRow 0 123 3 vm X.marks.length (mkCells X.marks bs) := own_at_heap hown (fun k hk => by rw [hw1]; exact Below.heap_setCell _ _ _ _ (hvp k hk))
  have HAp : Aside0 (∀ w2, Below w1.drew.heap.size w1.drew w2 → ∃ v1 w4, (Builtin.append_ #[111, 111] 111 #[vm, .slice (some ⟨w2.heap.size, 0, none⟩) 1 1]).run Tryz.prog (w2.alloc (.cells #[.int .i64 (nx + 1), .map (some w1.heap.size), .int .i64 ct] 123)) = .ok v1 w4 ∧ w4.ownsRow 0 123 3 v1 (X.marks.length + 1) (mkCells X.marks bs ++ [.int .i64 (nx + 1), .map (some w1.heap.size), .int .i64 ct]) ∧ (w2.alloc (.cells #[.int .i64 (nx + 1), .map (some w1.heap.size), .int .i64 ct] 123)).grownBy w4 vm.ownBlock ∧ (v1.ownBlock = vm.ownBlock ∨ v1.ownBlock = some (w2.heap.size + 1))) := ⟨fun w2 hb => by
    have hown3 : (w2.alloc (.cells #[.int .i64 (nx + 1), .map (some w1.heap.size), .int .i64 ct] 123)).ownsRow 0 123 3 vm X.marks.length (mkCells X.marks bs) := own_at_heap hown1 (fun k hk => by
      have hkl : k < w1.drew.heap.size := own_lt hown1 k hk
      rw [Below.heap_alloc w2 _ k (Nat.lt_of_lt_of_le hkl hb.size)]
      exact hb.block k hkl)
    obtain ⟨i0, hi0, hz⟩ := Option.map_eq_some_iff.1 infoMk
    simp only [Prod.mk.injEq] at hz
    obtain ⟨v', w', h1, h2, h3, _, h5⟩ := run_append_own_at (P := Tryz.prog) (w2.alloc (.cells #[.int .i64 (nx + 1), .map (some w1.heap.size), .int .i64 ct] 123)) 0 111 111 123 i0 _ 3 24 Tryz.underlying111 hi0 hz.1 hz.2.1 hz.2.2 rfl (by decide) vm X.marks.length (mkCells X.marks bs) hown3 ⟨w2.heap.size, 0, none⟩ 1 1 [.int .i64 (nx + 1), .map (some w1.heap.size), .int .i64 ct] rfl (fun j u hu => World.news_of_block (heap_alloc_new w2 _) j u hu) (by simp [Value.oneCell']) (by simp only [maxLen]; omega) (by omega) (Nat.zero_le _)
    exact ⟨v', w', h1, h2, h3, by simpa using h5⟩⟩
  have HVP := Aside0.mk hvp
  have HBS := Aside0.mk (And.intro hbl (And.intro hms (And.intro hvok (And.intro hown (And.intro hi (And.intro hd hp))))))
  clear hbl hms hvok hown hown1
  have HX := Aside0.mk (And.intro hp1 (And.intro h (And.intro hpe (And.intro hnx hct))))
  have HW1 := Aside0.mk hw1
  clear hp hplt' HO h hp1 hO1 hi hd hE hpe hnx hct
  go_enter Tryz.func32, Tryz.ntmps32
  go_wp2_with (go_at_call 53; refine (HA.out).mono ?_; rintro e w' ⟨rfl, rfl⟩)
  rw [← hw1]
  refine start_ (n := 24) (S := fun w' => w'.cell? ⟨p, 10, none⟩ = some vm ∧ w'.cell? ⟨p, 11, none⟩ = some (.int .i64 (nx + 1)) ∧ w'.cell? ⟨p, 8, none⟩ = some (.map (some bo)) ∧ w'.cell? ⟨p, 9, none⟩ = some (.int .i64 ct)) (ds := [23]) #[false, false, false, false, false, false, false, false, false, false, false, false, false, false, false, false, false, false, false, false, false, false, false, false] (by kernel_rfl) rfl rfl ⟨c10, c11, c8, c9⟩ (fun hHeld => ?_)
  refine pure_ (i := 0) (N := some 17) (v := ?_) (a' := ?_) #[true, false, false, false, false, false, false, false, false, false, false, false, false, false, false, false, false, false, false, false, false, false, false, false] rfl rfl (by kernel_rfl) (fun _ _ _ h => h) (Or.inl ⟨by rfl, ?_⟩) ?_ ?_
  rotate_left
  · intro w'
    go_simp
    with_reducible rfl
  rotate_left
  · simp only [Act.put, List.setIfInBounds_toArray, List.set_cons_zero, List.set_cons_succ, i64_w, i32_w]
    rfl
  refine pure_ (i := 1) (N := some 18) (v := ?_) (a' := ?_) #[true, true, false, false, false, false, false, false, false, false, false, false, false, false, false, false, false, false, false, false, false, false, false, false] rfl rfl (by kernel_rfl) (fun _ _ _ h => h) (Or.inl ⟨by rfl, ?_⟩) ?_ ?_
  rotate_left
  · intro w'
    go_simp
    with_reducible rfl
  rotate_left
  · simp only [Act.put, List.setIfInBounds_toArray, List.set_cons_zero, List.set_cons_succ, i64_w, i32_w]
    rfl
  refine pure_ (i := 2) (N := some 19) (v := ?_) (a' := ?_) #[true, true, true, false, false, false, false, false, false, false, false, false, false, false, false, false, false, false, false, false, false, false, false, false] rfl rfl (by kernel_rfl) (fun _ _ _ h => h) (Or.inl ⟨by rfl, ?_⟩) ?_ ?_
  rotate_left
  · intro w'
    go_simp
    with_reducible rfl
  rotate_left
  · simp only [Act.put, List.setIfInBounds_toArray, List.set_cons_zero, List.set_cons_succ, i64_w, i32_w]
    rfl
  refine pure_ (i := 3) (N := some 20) (v := ?_) (a' := ?_) #[true, true, true, true, false, false, false, false, false, false, false, false, false, false, false, false, false, false, false, false, false, false, false, false] rfl rfl (by kernel_rfl) (fun _ _ _ h => h) (Or.inl ⟨by rfl, ?_⟩) ?_ ?_
  rotate_left
  · intro w'
    go_simp
    with_reducible rfl
  rotate_left
  · simp only [Act.put, List.setIfInBounds_toArray, List.set_cons_zero, List.set_cons_succ, i64_w, i32_w]
    rfl
  refine take_ (i := 4) (N := some 21) (v := ?_) (a' := ?_) #[true, true, true, true, true, false, false, false, false, false, false, false, false, false, false, false, false, false, false, false, false, false, false, false] rfl rfl (by kernel_rfl) (fun _ _ _ h => h) (Or.inl ⟨by rfl, ?_⟩) hHeld ?_ ?_
  rotate_left
  · rintro w' ⟨s0, s1, s2, s3⟩
    go_simp
    with_reducible rfl
  rotate_left
  · simp only [Act.put, List.setIfInBounds_toArray, List.set_cons_zero, List.set_cons_succ, i64_w, i32_w]
    rfl
  refine pure_ (i := 5) (N := some 22) (v := ?_) (a' := ?_) #[true, true, true, true, true, true, false, false, false, false, false, false, false, false, false, false, false, false, false, false, false, false, false, false] rfl rfl (by kernel_rfl) (fun _ _ _ h => h) (Or.inl ⟨by rfl, ?_⟩) ?_ ?_
  rotate_left
  · intro w'
    go_simp
    with_reducible rfl
  rotate_left
  · simp only [Act.put, List.setIfInBounds_toArray, List.set_cons_zero, List.set_cons_succ, i64_w, i32_w]
    rfl
  refine pure_ (i := 6) (N := some 23) (v := ?_) (a' := ?_) #[true, true, true, true, true, true, true, false, false, false, false, false, false, false, false, false, false, false, false, false, false, false, false, false] rfl rfl (by kernel_rfl) (fun _ _ _ h => h) (Or.inl ⟨by rfl, ?_⟩) ?_ ?_
  rotate_left
  · intro w'
    go_simp
    with_reducible rfl
  rotate_left
  · simp only [Act.put, List.setIfInBounds_toArray, List.set_cons_zero, List.set_cons_succ, i64_w, i32_w]
    rfl
  refine pure_ (i := 7) (N := some 24) (v := ?_) (a' := ?_) #[true, true, true, true, true, true, true, true, false, false, false, false, false, false, false, false, false, false, false, false, false, false, false, false] rfl rfl (by kernel_rfl) (fun _ _ _ h => h) (Or.inl ⟨by rfl, ?_⟩) ?_ ?_
  rotate_left
  · intro w'
    go_simp
    with_reducible rfl
  rotate_left
  · simp only [Act.put, List.setIfInBounds_toArray, List.set_cons_zero, List.set_cons_succ, i64_w, i32_w]
    rfl
  refine take_ (i := 8) (N := some 25) (v := ?_) (a' := ?_) #[true, true, true, true, true, true, true, true, true, false, false, false, false, false, false, false, false, false, false, false, false, false, false, false] rfl rfl (by kernel_rfl) (fun _ _ _ h => h) (Or.inl ⟨by rfl, ?_⟩) hHeld ?_ ?_
  rotate_left
  · rintro w' ⟨s0, s1, s2, s3⟩
    go_simp
    with_reducible rfl
  rotate_left
  · simp only [Act.put, List.setIfInBounds_toArray, List.set_cons_zero, List.set_cons_succ, i64_w, i32_w]
    rfl
  refine pure_ (i := 9) (N := some 26) (v := ?_) (a' := ?_) #[true, true, true, true, true, true, true, true, true, true, false, false, false, false, false, false, false, false, false, false, false, false, false, false] rfl rfl (by kernel_rfl) (fun _ _ _ h => h) (Or.inl ⟨by rfl, ?_⟩) ?_ ?_
  rotate_left
  · intro w'
    go_simp
    with_reducible rfl
  rotate_left
  · simp only [Act.put, List.setIfInBounds_toArray, List.set_cons_zero, List.set_cons_succ, i64_w, i32_w]
    rfl
  refine pure_ (i := 10) (N := some 27) (v := ?_) (a' := ?_) #[true, true, true, true, true, true, true, true, true, true, true, false, false, false, false, false, false, false, false, false, false, false, false, false] rfl rfl (by kernel_rfl) (fun _ _ _ h => h) (Or.inl ⟨by rfl, ?_⟩) ?_ ?_
  rotate_left
  · intro w'
    go_simp
    with_reducible rfl
  rotate_left
  · simp only [Act.put, List.setIfInBounds_toArray, List.set_cons_zero, List.set_cons_succ, i64_w, i32_w]
    rfl
  refine pure_ (i := 11) (N := some 28) (v := ?_) (a' := ?_) #[true, true, true, true, true, true, true, true, true, true, true, true, false, false, false, false, false, false, false, false, false, false, false, false] rfl rfl (by kernel_rfl) (fun _ _ _ h => h) (Or.inl ⟨by rfl, ?_⟩) ?_ ?_
  rotate_left
  · intro w'
    go_simp
    with_reducible rfl
  rotate_left
  · simp only [Act.put, List.setIfInBounds_toArray, List.set_cons_zero, List.set_cons_succ, i64_w, i32_w]
    rfl
  refine take_ (i := 12) (N := some 29) (v := ?_) (a' := ?_) #[true, true, true, true, true, true, true, true, true, true, true, true, true, false, false, false, false, false, false, false, false, false, false, false] rfl rfl (by kernel_rfl) (fun _ _ _ h => h) (Or.inl ⟨by rfl, ?_⟩) hHeld ?_ ?_
  rotate_left
  · rintro w' ⟨s0, s1, s2, s3⟩
    go_simp
    with_reducible rfl
  rotate_left
  · simp only [Act.put, List.setIfInBounds_toArray, List.set_cons_zero, List.set_cons_succ, i64_w, i32_w]
    rfl
  refine pure_ (i := 14) (N := some 31) (v := ?_) (a' := ?_) #[true, true, true, true, true, true, true, true, true, true, true, true, true, false, true, false, false, false, false, false, false, false, false, false] rfl rfl (by kernel_rfl) (fun _ _ _ h => h) (Or.inl ⟨by rfl, ?_⟩) ?_ ?_
  rotate_left
  · intro w'
    go_simp
    with_reducible rfl
  rotate_left
  · simp only [Act.put, List.setIfInBounds_toArray, List.set_cons_zero, List.set_cons_succ, i64_w, i32_w]
    rfl
  refine pure_ (i := 15) (N := some 32) (v := ?_) (a' := ?_) #[true, true, true, true, true, true, true, true, true, true, true, true, true, false, true, true, false, false, false, false, false, false, false, false] rfl rfl (by kernel_rfl) (fun _ _ _ h => h) (Or.inl ⟨by rfl, ?_⟩) ?_ ?_
  rotate_left
  · intro w'
    go_simp
    with_reducible rfl
  rotate_left
  · simp only [Act.put, List.setIfInBounds_toArray, List.set_cons_zero, List.set_cons_succ, i64_w, i32_w]
    rfl
  refine pure_ (i := 16) (N := some 33) (v := ?_) (a' := ?_) #[true, true, true, true, true, true, true, true, true, true, true, true, true, false, true, true, true, false, false, false, false, false, false, false] rfl rfl (by kernel_rfl) (fun _ _ _ h => h) (Or.inl ⟨by rfl, ?_⟩) ?_ ?_
  rotate_left
  · intro w'
    go_simp
    with_reducible rfl
  rotate_left
  · simp only [Act.put, List.setIfInBounds_toArray, List.set_cons_zero, List.set_cons_succ, i64_w, i32_w]
    rfl
  refine take_ (i := 17) (N := some 34) (v := ?_) (a' := ?_) #[true, true, true, true, true, true, true, true, true, true, true, true, true, false, true, true, true, true, false, false, false, false, false, false] rfl rfl (by kernel_rfl) (fun _ _ _ h => h) (Or.inl ⟨by rfl, ?_⟩) hHeld ?_ ?_
  rotate_left
  · rintro w' ⟨s0, s1, s2, s3⟩
    go_simp
    with_reducible rfl
  rotate_left
  · simp only [Act.put, List.setIfInBounds_toArray, List.set_cons_zero, List.set_cons_succ, i64_w, i32_w]
    rfl
  refine one_ (i := 13) (N := some 30) #[true, true, true, true, true, true, true, true, true, true, true, true, true, true, true, true, true, true, false, false, false, false, false, false] rfl rfl (by kernel_rfl) (by decide) (fun K hK => ?_)
  refine goes_ Tryz.func62 (by kernel_rfl) rfl #[.map (some bo)] (by rfl) rfl rfl (by simp only [List.map_toArray, List.map_cons, List.map_nil]; rfl) ?_
  refine HCl.out.mono ?_
  rintro e w2 ⟨rfl, hO2, hb2⟩
  have x10 := (hb2.cell (p := ⟨p, 10, none⟩) hplt).trans c10
  have x11 := (hb2.cell (p := ⟨p, 11, none⟩) hplt).trans c11
  have x8 := (hb2.cell (p := ⟨p, 8, none⟩) hplt).trans c8
  have x9 := (hb2.cell (p := ⟨p, 9, none⟩) hplt).trans c9
  have H2 := Aside0.mk (And.intro hO2 hb2)
  clear hO2 hb2
  refine ⟨_, rfl, ?_⟩
  refine hK.out _ _ ⟨x10, x11, x8, x9⟩ (fun hHeld => ?_)
  clear hK K
  refine norm_ (a' := ?_) ?_ ?_
  rotate_left
  · show Act.put _ (some 30) _ = _
    simp only [Act.put, List.setIfInBounds_toArray, List.set_cons_zero, List.set_cons_succ, i64_w, i32_w]
    rfl
  refine pure_ (i := 18) (N := some 35) (v := ?_) (a' := ?_) #[true, true, true, true, true, true, true, true, true, true, true, true, true, true, true, true, true, true, true, false, false, false, false, false] rfl rfl (by kernel_rfl) (fun _ _ _ h => h) (Or.inl ⟨by rfl, ?_⟩) ?_ ?_
  rotate_left
  · intro w'
    go_simp
    with_reducible rfl
  rotate_left
  · simp only [Act.put, List.setIfInBounds_toArray, List.set_cons_zero, List.set_cons_succ, i64_w, i32_w]
    rfl
  obtain ⟨v1, w4, ha, hown4, hg4, hat4⟩ := HAp.out w2 H2.out.2
  obtain ⟨A4, n4, c4, rfl⟩ : ∃ A4 n4 c4, v1 = .slice A4 n4 c4 := by
    rcases hown4.2 with ⟨h1, _⟩ | ⟨g, cap, cur, h1, _⟩
    · exact ⟨_, _, _, h1⟩
    · exact ⟨_, _, _, h1⟩
  have hp2 := (H2.out.2.block p hplt).trans (show w1.drew.heap[p]? = _ from HX.out.1)
  have hp3 := (Below.heap_alloc w2 (.cells #[.int .i64 (nx + 1), .map (some w1.heap.size), .int .i64 ct] 123) p (heap_lt hp2)).trans hp2
  have hp4 := (hg4.block p (heap_lt hp3) (fun e => HVP.out p e.symm rfl)).trans hp3
  have z10 : w4.cell? ⟨p, 10, none⟩ = some vm := cell_of_row w4 p 10 _ _ (0, 0) hp4
  have z11 : w4.cell? ⟨p, 11, none⟩ = some (.int .i64 (nx + 1)) := cell_of_row w4 p 11 _ _ (0, 0) hp4
  have z8 : w4.cell? ⟨p, 8, none⟩ = some (.map (some bo)) := cell_of_row w4 p 8 _ _ (0, 0) hp4
  have z9 : w4.cell? ⟨p, 9, none⟩ = some (.int .i64 ct) := cell_of_row w4 p 9 _ _ (0, 0) hp4
  have zf : w4.frozen? ⟨p, 10, none⟩ = false := frozen_of_cells hp4 10
  have y10 : (w2.alloc (.cells #[.int .i64 (nx + 1), .map (some w1.heap.size), .int .i64 ct] 123)).cell? ⟨p, 10, none⟩ = some vm := cell_of_row _ p 10 _ _ (0, 0) hp3
  have y11 : (w2.alloc (.cells #[.int .i64 (nx + 1), .map (some w1.heap.size), .int .i64 ct] 123)).cell? ⟨p, 11, none⟩ = some (.int .i64 (nx + 1)) := cell_of_row _ p 11 _ _ (0, 0) hp3
  have y8 : (w2.alloc (.cells #[.int .i64 (nx + 1), .map (some w1.heap.size), .int .i64 ct] 123)).cell? ⟨p, 8, none⟩ = some (.map (some bo)) := cell_of_row _ p 8 _ _ (0, 0) hp3
  have y9 : (w2.alloc (.cells #[.int .i64 (nx + 1), .map (some w1.heap.size), .int .i64 ct] 123)).cell? ⟨p, 9, none⟩ = some (.int .i64 ct) := cell_of_row _ p 9 _ _ (0, 0) hp3
  have z11s : (w4.setCell ⟨p, 10, none⟩ (.slice A4 n4 c4)).cell? ⟨p, 11, none⟩ = some (.int .i64 (nx + 1)) := cell_of_row _ p 11 _ _ (0, 0) (md_set (cs := [_, _, _, _, _, _, _, _, _, _, _, _, _]) hp4 10 (.slice A4 n4 c4)).1
  have H4 := Aside0.mk (And.intro hp4 (And.intro hown4 (And.intro hg4 hat4)))
  clear hp2 hp3 hp4 hown4 hg4 hat4
  refine one_ (i := 19) (N := some 36) #[true, true, true, true, true, true, true, true, true, true, true, true, true, true, true, true, true, true, true, true, false, false, false, false] rfl rfl (by kernel_rfl) (by decide) (fun K hK => ?_)
  refine value_ (v := .slice (some ⟨w2.heap.size, 0, none⟩) 1 1) (w1 := w2.alloc (.cells #[.int .i64 (nx + 1), .map (some w1.heap.size), .int .i64 ct] 123)) (by rfl) rfl ?_ ?_
  · go_simp
  refine hK.out _ _ ⟨y10, y11, y8, y9⟩ (fun hHeld => ?_)
  clear hK K
  refine norm_ (a' := ?_) ?_ ?_
  rotate_left
  · show Act.put _ (some 36) _ = _
    simp only [Act.put, List.setIfInBounds_toArray, List.set_cons_zero, List.set_cons_succ, i64_w, i32_w]
    rfl
  refine one_ (i := 20) (N := some 37) #[true, true, true, true, true, true, true, true, true, true, true, true, true, true, true, true, true, true, true, true, true, false, false, false] rfl rfl (by kernel_rfl) (by decide) (fun K hK => ?_)
  refine value_ (v := .slice A4 n4 c4) (w1 := w4) (by rfl) rfl ?_ ?_
  · exact app_exec (.tmp 21) (.tmp 36) 111 rfl _ _ rfl rfl ha
  refine hK.out _ _ ⟨z10, z11, z8, z9⟩ (fun hHeld => ?_)
  clear hK K
  refine norm_ (a' := ?_) ?_ ?_
  rotate_left
  · show Act.put _ (some 37) _ = _
    simp only [Act.put, List.setIfInBounds_toArray, List.set_cons_zero, List.set_cons_succ, i64_w, i32_w]
    rfl
  refine pure_ (i := 21) (N := some 38) (v := ?_) (a' := ?_) #[true, true, true, true, true, true, true, true, true, true, true, true, true, true, true, true, true, true, true, true, true, true, false, false] rfl rfl (by kernel_rfl) (fun _ _ _ h => h) (Or.inl ⟨by rfl, ?_⟩) ?_ ?_
  rotate_left
  · intro w'
    go_simp
    with_reducible rfl
  rotate_left
  · simp only [Act.put, List.setIfInBounds_toArray, List.set_cons_zero, List.set_cons_succ, i64_w, i32_w]
    rfl
  refine pure_ (i := 22) (N := some 39) (v := ?_) (a' := ?_) #[true, true, true, true, true, true, true, true, true, true, true, true, true, true, true, true, true, true, true, true, true, true, true, false] rfl rfl (by kernel_rfl) (fun _ _ _ h => h) (Or.inl ⟨by rfl, ?_⟩) ?_ ?_
  rotate_left
  · intro w'
    go_simp
    with_reducible rfl
  rotate_left
  · simp only [Act.put, List.setIfInBounds_toArray, List.set_cons_zero, List.set_cons_succ, i64_w, i32_w]
    rfl
  refine last_ (i := 23) (N := none) #[true, true, true, true, true, true, true, true, true, true, true, true, true, true, true, true, true, true, true, true, true, true, true, true] rfl rfl (by kernel_rfl) (by decide) (fun K hK => ?_)
  refine skip_ (w1 := ?_) (by rfl) rfl ?_ ?_
  rotate_left
  · go_simp
    rfl
  refine hK.out _ _ ?_
  clear hK K
  refine done_ (by kernel_rfl) ?_
  go_wp2
  go_ret2
  obtain ⟨hbl, hms, hvok, hown, hi, hd, hp⟩ := HBS.out
  obtain ⟨hp1, h, hpe, hnx, hct⟩ := HX.out
  obtain ⟨hO2, hb2⟩ := H2.out
  obtain ⟨hp4, hown4, hg4, hat4⟩ := H4.out
  have hs1 : w1.heap.size = w.heap.size := by rw [HW1.out]; simp [World.setCell]
  have hs2 : w1.heap.size ≤ w2.heap.size := hb2.size
  have hs4 : w2.heap.size + 1 ≤ w4.heap.size := by have := hg4.size; simpa using this
  have hsF : (w4.setCell ⟨p, 10, none⟩ (.slice A4 n4 c4)).heap.size = w4.heap.size := by simp [World.setCell]
  have hfar : ∀ k, k < w2.heap.size → k ≠ p → vm.ownBlock ≠ some k → (w4.setCell ⟨p, 10, none⟩ (.slice A4 n4 c4)).heap[k]? = w2.heap[k]? := fun k hk hne hv => by
    rw [Below.heap_setCell _ _ _ _ hne, hg4.block k (by simp; omega) (fun e => hv e.symm), Below.heap_alloc w2 _ k hk]
  have hfar1 : ∀ k, k < w.heap.size → k ≠ p → vm.ownBlock ≠ some k → (w4.setCell ⟨p, 10, none⟩ (.slice A4 n4 c4)).heap[k]? = w.heap[k]? := fun k hk hne hv => by
    rw [hfar k (by omega) hne hv, hb2.block k (by show k < w1.heap.size; omega)]
    show w1.heap[k]? = _
    rw [HW1.out]
    exact Below.heap_setCell _ _ _ _ hne
  have hty : ∀ k, (∀ cs t, w.heap[k]? = some (.cells cs t (0, 0)) → t = 5) → k ≠ p ∧ vm.ownBlock ≠ some k := fun k hk => ⟨fun e => by
      rw [e] at hk
      exact absurd (hk _ _ hp) (by decide), fun e => by
      obtain ⟨cs, hcs⟩ := own_typed hown k e
      exact absurd (hk _ _ hcs) (by decide)⟩
  have hokp := h.okp
  have hplt := h.lt
  rw [← hpe] at hokp hplt
  refine ⟨rfl, .slice A4 n4 c4, ⟨?_, .inl hokp, ?_, fun _ => ?_, ?_⟩, ?_⟩
  rotate_right
  · exact ⟨hg4.os.trans (hb2.os.trans (by rw [HW1.out]; rfl)), hg4.tape.trans (hb2.tape.trans (by rw [HW1.out]; rfl)), hg4.output.trans (hb2.output.trans (by rw [HW1.out]; rfl)), by omega, fun k hk hn => hfar1 k hk (fun e => hn (e ▸ hokp)) (fun e => hn (hvok k e))⟩
  · have := (md_set (cs := [_, _, _, _, _, _, _, _, _, _, _, _, _]) hp4 10 (.slice A4 n4 c4)).1
    simp only [hi, if_pos, ← hpe, ← hnx, ← hct]
    exact this
  · refine h.was.same (fun k hk => ?_) (fun k hk => .inl (h.was.1 k hk))
    obtain ⟨cs, hc⟩ := h.was.block hk
    have h5 := hty k (fun cs' t h' => by rw [hc] at h'; injection h' with h'; injection h' with _ h'; exact h'.symm)
    exact hfar1 k (h.was.lt hk) h5.1 h5.2
  · exact (h.own hi).fine (fun k _ hl ht => hfar1 k hl (hty k ht).1 (hty k ht).2) (fun k hk => .inl hk)
  · refine ⟨fun k hk => ?_, bs ++ [w1.heap.size], by simp [hbl], ?_, fun i b m hb hm => ?_⟩
    · rcases hat4 with h' | h'
      · exact .inl (hvok k (by rw [← h', hk]))
      · have hk0 := own_lt hown4 k hk
        rw [h'] at hk
        injection hk with hk
        exact .inr ⟨by omega, by rw [hsF]; exact hk0⟩
    · rw [List.length_append, List.length_singleton]
      have := mkCells_snoc ⟨nx + 1, X.own, X.count⟩ w1.heap.size X.marks bs hbl
      rw [this]
      rw [hct] at hown4
      refine own_at_heap hown4 (fun k hk => Below.heap_setCell _ _ _ _ (fun e => ?_))
      obtain ⟨cs, hcs⟩ := own_typed hown4 k hk
      rw [e, hp4] at hcs
      injection hcs with hcs
      injection hcs with _ hcs
      exact absurd hcs (by decide)
    · by_cases hi2 : i < X.marks.length
      · rw [List.getElem?_append_left (by omega)] at hb
        rw [List.getElem?_append_left hi2] at hm
        obtain ⟨h6, h7⟩ := hms i b m hb hm
        exact ⟨h6.fine (fun k _ hl ht => hfar1 k hl (hty k ht).1 (hty k ht).2) (fun k hk => .inl hk), h7⟩
      · rw [List.getElem?_append_right (by omega)] at hb hm
        have hi3 : i = X.marks.length := by
          have := (List.getElem?_eq_some_iff.1 hm).1
          simp at this
          omega
        subst hi3
        rw [hbl, Nat.sub_self] at hb
        rw [Nat.sub_self] at hm
        obtain rfl : w1.heap.size = b := by simpa using hb
        obtain rfl : (⟨nx + 1, X.own, X.count⟩ : Mk) = m := by simpa using hm
        refine ⟨hO2.fine (fun k hk hl ht => ?_) (fun k hk => hk.elim .inl (fun e => .inr ⟨by rw [e]; show w.heap.size ≤ w1.heap.size; omega, by rw [e, hsF]; show w1.heap.size < w4.heap.size; omega⟩)), by have := (h.own hi).lt; omega⟩
        refine hfar k hl (fun e => ?_) (fun e => ?_)
        · have hp2 := (hb2.block p (by show p < w1.heap.size; omega)).trans (show w1.drew.heap[p]? = _ from hp1)
          rw [e] at ht
          exact absurd (ht _ _ hp2) (by decide)
        · obtain ⟨cs, hcs⟩ := own_typed hown k e
          have hkl := own_lt hown k e
          have h9 : w2.heap[k]? = w.heap[k]? := by
            rw [hb2.block k (by show k < w1.heap.size; omega)]
            show w1.heap[k]? = _
            rw [HW1.out]
            exact Below.heap_setCell _ _ _ _ (HVP.out k e)
          exact absurd (ht _ _ (h9.trans hcs)) (by decide)

theorem s_mark {w : World} {X : PG} {M : DM} {ok : Nat → Prop} (h : Sys w X M ok) (hd : X.dead = false) (hi : X.inn = true) (hn0 : 0 ≤ X.next) (hn : X.next < 1000000) (hml : X.marks.length ≤ 100000) :
    Calls Tryz.prog 32 #[dp X.p] w fun e w' => e = .returned (.tuple #[.int .i64 (X.next + 1), .int .i64 0]) ∧ Sys w' { X with next := X.next + 1, marks := X.marks ++ [⟨X.next + 1, X.own, X.count⟩] } M (Grow w ok w') ∧ Fr ok w w' := by
  obtain ⟨okP, okD, x, v, ⟨bo, vw, vm, hP⟩, hD, hT, hL, h5, h6, h7, hc, hv0, hv1, hv2⟩ := h
  refine (mark_row hP hi hd hn0 hn hml).mono ?_
  rintro e w' ⟨rfl, v4, hP', hFr⟩
  have hs := hFr.size
  have hF := hFr.block
  refine ⟨rfl, ⟨_, okD, x, v, ⟨bo, vw, v4, hP'⟩, hD.move (fun k hk hlt => hF k hlt (fun h => (h5 k h).2.2.1 hk)), (hF _ hT.lt (fun h => (h5 _ h).2.1 rfl)).trans hT, hL, fun k hk => ?_, fun k hk => ⟨.inl (h6 k hk).1, (h6 k hk).2.1, Nat.lt_of_lt_of_le (h6 k hk).2.2 hs⟩, .inl h7, hc, hv0, hv1, hv2⟩, hFr.wide (fun k _ hk => (h5 k hk).1)⟩
  rcases hk with hk | hk
  · exact ⟨.inl (h5 k hk).1, (h5 k hk).2.1, (h5 k hk).2.2.1, Nat.lt_of_lt_of_le (h5 k hk).2.2.2 hs⟩
  · refine ⟨.inr hk, fun e => ?_, fun hk2 => ?_, hk.2⟩
    · have := hT.lt
      rw [e] at hk
      exact absurd this (by have := hk.1; show ¬ X.l < _; exact Nat.not_lt.2 this)
    · have := (h6 k hk2).2.2
      omega
end Go.Proofs.YtmdpgjdepflbmaaGreat
namespace Go.Proofs.YtmdpgjdepflbmaaGreat
open Go.RowKit Go.Maps Go.Proofs.YtmdpgjdepflbmaaGreatW.PrintWords Go.Proofs.YtmdpgjdepflbmaaGreatW.PrintLast Go.Proofs.YtmdpgjdepflbmaaGreatW.PrintMore
open Go.Proofs.YtmdpgjdepflbmaaGreat.PPagerFolds
set_option linter.unusedVariables false
set_option linter.unusedSimpArgs false

/-- a pager whose transaction has ended -/
def PG.ended (X : PG) : PG := { X with inn := false, wrote := false, was := [], own := fun _ => none, count := 0, marks := [] }
set_option maxRecDepth 100000 in
theorem end_any {w : World} {X : PG} {ok : Nat → Prop} {x : Nat → Int} (h : PgAt w X ok) (ht : Tab 108 w X.l x) (hl : ¬ ok X.l) :
    Calls Tryz.prog 59 #[dp X.p] w fun e w' => e = .returned (.tuple #[]) ∧ PLeft w X.ended (lX x X.c 0) ok w' := by
  obtain ⟨bo, vw, vm, h⟩ := h
  have hp := h.hp
  have hplt := h.lt
  obtain ⟨p, hpe⟩ : ∃ p, p = X.p := ⟨_, rfl⟩
  rw [← hpe] at hp hplt ⊢
  obtain ⟨l, hle⟩ : ∃ l, l = X.l := ⟨_, rfl⟩
  rw [← hle] at hp ht hl
  have hpl : l ≠ p := fun e => hl (by rw [e, hpe]; exact h.okp)
  obtain ⟨W, hW⟩ : ∃ W, W = (((((w.setCell ⟨p, 5, none⟩ (.bool false)).setCell ⟨p, 6, none⟩ (.bool false)).setCell ⟨p, 7, none⟩ (.slice none 0 0)).setCell ⟨p, 8, none⟩ (.map none)).setCell ⟨p, 9, none⟩ (.int .i64 0)).setCell ⟨p, 10, none⟩ (.slice none 0 0) := ⟨_, rfl⟩
  have hpW : W.heap[p]? = some (.cells #[dp X.d, .int .i64 X.mode, dp l, .int .i64 X.c, .bool X.dead, .bool false, .bool false, .slice none 0 0, .map none, .int .i64 0, .slice none 0 0, .int .i64 X.next, .int .i64 X.sure] 113 (0, 0)) := by
    rw [hW]
    exact (md_set (cs := [_, _, _, _, _, _, _, _, _, _, _, _, _]) (md_set (cs := [_, _, _, _, _, _, _, _, _, _, _, _, _]) (md_set (cs := [_, _, _, _, _, _, _, _, _, _, _, _, _]) (md_set (cs := [_, _, _, _, _, _, _, _, _, _, _, _, _]) (md_set (cs := [_, _, _, _, _, _, _, _, _, _, _, _, _]) (md_set (cs := [_, _, _, _, _, _, _, _, _, _, _, _, _]) hp 5 (.bool false)).1 6 (.bool false)).1 7 (.slice none 0 0)).1 8 (.map none)).1 9 (.int .i64 0)).1 10 (.slice none 0 0)).1
  have hO : Only p w W := by rw [hW]; exact ((((((Only.refl p w).set_ 5 _).set_ 6 _).set_ 7 _).set_ 8 _).set_ 9 _).set_ 10 _
  have htW : Tab 108 W l x := (hO.block l hpl).trans ht
  have HL := Aside0.mk (lower_all l x X.c 0 W.drew htW.drew)
  have c5 := cell_of_row w p 5 _ _ (0, 0) hp
  have c6 := cell_of_row w p 6 _ _ (0, 0) hp
  have c7 := cell_of_row w p 7 _ _ (0, 0) hp
  have c8 := cell_of_row w p 8 _ _ (0, 0) hp
  have c9 := cell_of_row w p 9 _ _ (0, 0) hp
  have c10 := cell_of_row w p 10 _ _ (0, 0) hp
  have e5 := frozen_of_cells hp 5
  have e6 := frozen_of_cells hp 6
  have e7 := frozen_of_cells hp 7
  have e8 := frozen_of_cells hp 8
  have e9 := frozen_of_cells hp 9
  have e10 := frozen_of_cells hp 10
  have d2 : W.cell? ⟨p, 2, none⟩ = some (dp l) := cell_of_row W p 2 _ _ (0, 0) hpW
  have d3 : W.cell? ⟨p, 3, none⟩ = some (.int .i64 X.c) := cell_of_row W p 3 _ _ (0, 0) hpW
  have HX := Aside0.mk (And.intro h (And.intro hpe (And.intro hle (And.intro hpW (And.intro hO (And.intro hpl (And.intro hp (And.intro hl hplt))))))))
  have HW := Aside0.mk hW
  clear h hpe hle hpW hO hpl hp hl ht htW hW
  go_enter Tryz.func59, Tryz.ntmps59
  go_wp2
  rw [← HW.out]
  clear c5 c6 c7 c8 c9 c10 e5 e6 e7 e8 e9 e10
  go_still_tail 8, (by kernel_rfl)
  go_wp2_with (go_at_call 67; refine (HL.out).mono ?_; rintro e w1 ⟨rfl, ht1, ho1⟩; have H1 := Aside0.mk (And.intro ht1 ho1); clear ht1 ho1)
  go_end0
  obtain ⟨h, hpe, hle, hpW, hO, hpl, hp, hl, hplt⟩ := HX.out
  obtain ⟨ht1, ho1⟩ := H1.out
  have hs : w1.heap.size = w.heap.size := ho1.size.trans hO.size
  have k1 : ∀ k, k ≠ p → k ≠ l → w1.heap[k]? = w.heap[k]? := fun k hk hkl => (ho1.block k hkl).trans (hO.block k hk)
  refine ⟨rfl, ⟨bo, .slice none 0 0, .slice none 0 0, ?_, .inl h.okp, RB.nil _ _, (fun e => by cases e), ⟨fun k hk => by simp [Value.ownBlock] at hk, [], rfl, own_nil _ _ _ _, fun i b m e => by simp at e⟩⟩, ?_, ?_⟩
  · show w1.heap[X.p]? = some (.cells #[dp X.d, .int .i64 X.mode, dp X.l, .int .i64 X.c, .bool X.dead, .bool false, .bool false, .slice none 0 0, .map none, .int .i64 0, .slice none 0 0, .int .i64 X.next, .int .i64 X.sure] _ _)
    rw [← hpe, ← hle, ho1.block p (Ne.symm hpl)]
    exact hpW
  · show Tab _ w1 X.l _
    rw [← hle]
    exact ht1
  · refine ⟨ho1.os.trans hO.os, ho1.tape.trans hO.tape, ho1.output.trans hO.output, by omega, fun k hk hn => k1 k (fun e => hn (.inl (by rw [e, hpe]; exact h.okp))) (fun e => hn (.inr (by rw [e, hle]; rfl)))⟩

/-- a transaction is rolled back -/
theorem s_roll {w : World} {X : PG} {M : DM} {ok : Nat → Prop} (h : Sys w X M ok) (hd : X.dead = false) (hi : X.inn = true) :
    Calls Tryz.prog 27 #[dp X.p] w fun e w' => e = .returned (.int .i64 0) ∧ SLeft w X.ended M ok w' := by
  have HA := Aside0.mk (ask_any h.pg)
  have hE : askE X = 0 := by unfold askE; rw [hd, hi]; rfl
  rw [hE] at HA
  have h0 := h
  obtain ⟨okP, okD, x, v, hP, hD, hT, hL, h5, h6, h7, hc, hv0, hv1, hv2⟩ := h
  have HE := Aside0.mk (end_any hP hT (fun hk => (h5 _ hk).2.1 rfl))
  have HX := Aside0.mk h0
  have HL := Aside0.mk (And.intro hP (And.intro hD (And.intro hT (And.intro hL (And.intro h5 (And.intro h6 (And.intro h7 (And.intro hc (And.intro hv1 hi)))))))))
  clear h0 hP hD hT hL h5 h6 h7 hc hv0 hv1 hv2 hd hi hE
  obtain ⟨p, hp⟩ : ∃ p, p = X.p := ⟨_, rfl⟩
  rw [← hp] at HA HE ⊢
  have HP := Aside0.mk hp
  clear hp
  go_enter Tryz.func27, Tryz.ntmps27
  go_wp2_with (first
    | (go_at_call 53; refine (HA.out).mono ?_; rintro e w' ⟨rfl, rfl⟩)
    | (go_at_call 59; refine (HE.out).mono ?_; rintro e w1 ⟨rfl, hl1⟩; have H1 := Aside0.mk hl1; clear hl1))
  go_ret
  obtain ⟨hP', hT', hF⟩ := H1.out
  obtain ⟨hP, hD, hT, hL, h5, h6, h7, hc, hv1, hi⟩ := HL.out
  have hv := hv1 hi
  have hlo := hL.lower (by omega)
  rw [← hc] at hlo
  refine ⟨rfl, ⟨_, okD, _, 0, hP', hD.move (fun k hk hlt => hF.block k hlt (fun h => h.elim (fun h => (h5 k h).2.2.1 hk) (fun h => (h6 k hk).2.1 h))), hT', hlo, fun k hk => ?_, fun k hk => ⟨.inl (h6 k hk).1, (h6 k hk).2.1, Nat.lt_of_lt_of_le (h6 k hk).2.2 hF.size⟩, .inl h7, hc, fun _ => rfl, (fun h => by cases h), (fun h => by cases h)⟩, hF.wide (fun k _ hk => hk.elim (fun h => (h5 k h).1) (fun h => h ▸ h7))⟩
  rcases hk with hk | hk
  · exact ⟨.inl (h5 k hk).1, (h5 k hk).2.1, (h5 k hk).2.2.1, Nat.lt_of_lt_of_le (h5 k hk).2.2.2 hF.size⟩
  · refine ⟨.inr hk, fun e => ?_, fun hk2 => ?_, hk.2⟩
    · have := hT.lt
      rw [e] at hk
      exact absurd this (by have := hk.1; show ¬ X.l < _; exact Nat.not_lt.2 this)
    · have := (h6 k hk2).2.2
      omega

/-! ### a file of pages outside a transaction -/
/-! ### back to a mark -/
theorem mkCells_get : ∀ (ms : List Mk) (bs : List Nat) (i : Nat) (m : Mk) (b : Nat), ms[i]? = some m → bs[i]? = some b → (mkCells ms bs)[i * 3]? = some (.int .i64 m.n) ∧ (mkCells ms bs)[i * 3 + 1]? = some (.map (some b)) ∧ (mkCells ms bs)[i * 3 + 2]? = some (.int .i64 m.count)
  | [], _, _, _, _, h, _ => by simp at h
  | _ :: _, [], _, _, _, _, h => by simp at h
  | a :: ms, c :: bs, 0, m, b, h1, h2 => by
    simp at h1 h2
    subst h1 h2
    exact ⟨rfl, rfl, rfl⟩
  | a :: ms, c :: bs, i + 1, m, b, h1, h2 => by
    have := mkCells_get ms bs i m b (by simpa using h1) (by simpa using h2)
    simp only [mkCells]
    rw [show (i + 1) * 3 = i * 3 + 3 by omega, show i * 3 + 3 + 1 = (i * 3 + 1) + 3 by omega, show i * 3 + 3 + 2 = (i * 3 + 2) + 3 by omega]
    simpa using this
theorem mkCells_take : ∀ (ms : List Mk) (bs : List Nat) (n : Nat), (mkCells ms bs).take (n * 3) = mkCells (ms.take n) (bs.take n)
  | _, _, 0 => by simp [mkCells]
  | [], bs, n + 1 => by simp [mkCells]
  | a :: ms, [], n + 1 => by simp [mkCells]
  | a :: ms, c :: bs, n + 1 => by
    simp only [mkCells, List.take_succ_cons]
    rw [show (n + 1) * 3 = n * 3 + 1 + 1 + 1 by omega]
    simp only [List.take_succ_cons]
    rw [mkCells_take ms bs n]
/-- the closure that asks a mark's number -/
theorem isMk_any {w : World} {bx : Nat} {m n c : Int} {vb : Value} (hb : w.heap[bx]? = some (.cells #[.int .i64 m] 3 (0, 0))) :
    Calls Tryz.prog 61 #[.agg #[.int .i64 n, vb, .int .i64 c], .pointer (some ⟨bx, 0, none⟩)] w fun e w' => e = .returned (.bool (n == m)) ∧ w' = w.alloc (.cells #[.int .i64 n, vb, .int .i64 c] 123) := by
  have hc := cell_of_row w bx 0 _ _ (0, 0) hb
  have hlt := heap_lt hb
  have hc' : (w.alloc (.cells #[.int .i64 n, vb, .int .i64 c] 123)).cell? ⟨bx, 0, none⟩ = some (.int .i64 m) := cell_of_row _ bx 0 _ _ (0, 0) ((Below.heap_alloc w _ bx hlt).trans hb)
  clear hb
  go_enter Tryz.func61, Tryz.ntmps61
  go_wp2
  go_ret
  exact ⟨rfl, rfl⟩

/-- the first mark of a number -/
def IdxOf (ms : List Mk) (m r : Int) : Prop := (r = -1 ∧ ∀ (j : Nat) k, ms[j]? = some k → k.n ≠ m) ∨ ∃ (i : Nat) (k : Mk), r = i ∧ ms[i]? = some k ∧ k.n = m ∧ ∀ (j : Nat), j < i → ∀ k, ms[j]? = some k → k.n ≠ m
set_option maxRecDepth 100000 in
theorem idx_any {w : World} {ms : List Mk} {bs : List Nat} {v : Value} {bx : Nat} {m : Int} (hrow : w.ownsRow 0 123 3 v ms.length (mkCells ms bs)) (hbl : bs.length = ms.length) (hb : w.heap[bx]? = some (.cells #[.int .i64 m] 3 (0, 0))) (hlen : ms.length ≤ 1000000) :
    Calls Tryz.prog 60 #[v, .func (.func 61) #[] #[.pointer (some ⟨bx, 0, none⟩)]] w fun e w' => ∃ r : Int, e = .returned (.int .i64 r) ∧ IdxOf ms m r ∧ Below w.heap.size w w' := by
  obtain ⟨A, cap, rfl⟩ : ∃ A cap, v = .slice A ms.length cap := by
    rcases hrow.2 with ⟨rfl, h0⟩ | ⟨g, cap, cur, rfl, _⟩
    · exact ⟨none, 0, by rw [h0]⟩
    · exact ⟨_, _, rfl⟩
  obtain ⟨n, hn⟩ : ∃ n, n = ms.length := ⟨_, rfl⟩
  have HR := Aside0.mk (And.intro hrow (And.intro hbl (And.intro hb hn)))
  rw [← hn] at hlen ⊢
  clear hrow hbl hb hn
  go_enter Tryz.func60, Tryz.ntmps60
  go_wp2
  go_loopw [5, 8] (fun _ v8 wr => ∃ k : Nat, v8 = .int .i64 k ∧ k ≤ n ∧ Aside0 (Below w.heap.size w wr ∧ ∀ (j : Nat), j < k → ∀ x, ms[j]? = some x → x.n ≠ m)) (fun _ v8 _ => n - (intOf v8).toNat)
  case atStart => exact ⟨0, rfl, by omega, Below.refl _ _, fun j hj => by omega⟩
  case round =>
    obtain ⟨k, rfl, hk, HI⟩ := hrel
    by_cases hlt : k < n
    · obtain ⟨hrow, hbl, hb, hn⟩ := HR.out
      have hk2 : k < ms.length := by omega
      obtain ⟨x, hx⟩ : ∃ x, ms[k]? = some x := ⟨_, List.getElem?_eq_getElem hk2⟩
      obtain ⟨b, hbk⟩ : ∃ b, bs[k]? = some b := ⟨_, List.getElem?_eq_getElem (by omega)⟩
      obtain ⟨a0, a1, a2⟩ := mkCells_get ms bs k x b hx hbk
      obtain ⟨g, hg⟩ : ∃ g, A = some ⟨g, 0, none⟩ := by
        rcases hrow.2 with ⟨h1, h0⟩ | ⟨g, cap, cur, h1, _⟩
        · omega
        · injection h1 with h1; exact ⟨g, h1⟩
      subst hg
      have hcell : ∀ j u, (mkCells ms bs)[j]? = some u → wr.cell? ⟨g, j, none⟩ = some u := fun j u hu => by
        have h1 := hrow.cells (g := g) rfl j u hu
        have hadd : (⟨g, 0, none⟩ : Addr).add j = ⟨g, j, none⟩ := by unfold Addr.add; split <;> simp_all
        rw [hadd] at h1
        exact (HI.out.1.cell (p := ⟨g, j, none⟩) (own_lt hrow g rfl)).trans h1
      have c0 := hcell _ _ a0
      have c1 := hcell _ _ a1
      have c2 := hcell _ _ a2
      obtain ⟨xn, hxn⟩ : ∃ xn, xn = x.n := ⟨_, rfl⟩
      obtain ⟨xc, hxc⟩ : ∃ xc, xc = x.count := ⟨_, rfl⟩
      rw [← hxn] at c0
      rw [← hxc] at c2
      have HC := isMk_any (w := wr) (m := m) (n := xn) (c := xc) (vb := .map (some b)) ((HI.out.1.block bx (heap_lt hb)).trans hb)
      have HX := Aside0.mk (And.intro hx hxn)
      by_cases hq : xn = m
      · have q1 : (xn == m) = true := by simp [hq]
        rw [q1] at HC
        have HC := Aside0.mk HC
        have HQ := Aside0.mk hq
        clear hq q1 hrow hbl hb hn hx hbk a0 a1 a2 hcell hxn hxc hk2
        go_wp2_with (go_at_call 61; refine HC.out.mono ?_; rintro e w2 ⟨rfl, hw2⟩; have H2 := Aside0.mk hw2; clear hw2)
        go_ret
        refine ⟨_, rfl, .inr ⟨k, x, rfl, HX.out.1, by rw [← HX.out.2]; exact HQ.out, HI.out.2⟩, ?_⟩
        rw [H2.out]
        exact HI.out.1.alloc HI.out.1.size _
      · have q1 : (xn == m) = false := by simp [hq]
        rw [q1] at HC
        have HC := Aside0.mk HC
        have HQ := Aside0.mk hq
        clear hq q1 hrow hbl hb hn hx hbk a0 a1 a2 hcell hxn hxc hk2
        go_wp2_with (go_at_call 61; refine HC.out.mono ?_; rintro e w2 ⟨rfl, hw2⟩; have H2 := Aside0.mk hw2; clear hw2)
        go_roundw
        case rel =>
          refine ⟨k + 1, by go_num, by omega, by rw [H2.out]; exact HI.out.1.alloc HI.out.1.size _, fun j hj y hy => ?_⟩
          by_cases e : j = k
          · subst e
            rw [HX.out.1] at hy
            obtain rfl := Option.some.inj hy
            rw [← HX.out.2]; exact HQ.out
          · exact HI.out.2 j (by omega) y hy
        case measure => simp [intOf]; omega
    · go_wp2
      go_ret
      refine ⟨_, rfl, .inl ⟨rfl, fun j x hx => HI.out.2 j ?_ x hx⟩, HI.out.1⟩
      have := (List.getElem?_eq_some_iff.1 hx).1
      have := HR.out.2.2.2
      omega

/-- what Back leaves of the marks -/
theorem own_take {w : World} {base n size cap g : Nat} {e : TypeId} {xs : List Value} (h : w.ownsRow base e size (.slice (some ⟨g, 0, none⟩) n cap) n xs) (k : Nat) (hk : k ≤ n) : w.ownsRow base e size (.slice (some ⟨g, 0, none⟩) k cap) k (xs.take (k * size)) := by
  obtain ⟨h1, h2⟩ := h
  have hkn : k * size ≤ n * size := Nat.mul_le_mul_right _ hk
  refine ⟨by rw [List.length_take]; omega, ?_⟩
  rcases h2 with ⟨h3, _⟩ | ⟨g', cap', cur, h3, a, b, c, d, f, t⟩
  · cases h3
  · injection h3 with e1 e2 e3
    subst e3
    refine .inr ⟨g', cap, cur, by rw [e1], a, b, by omega, d, f, ?_⟩
    rw [← t, List.take_take, Nat.min_eq_left hkn]
set_option maxHeartbeats 1000000 in
set_option maxRecDepth 100000 in
theorem back_row {w : World} {X : PG} {ok : Nat → Prop} {bo : Nat} {vw vm : Value} (h : PRep w X ok bo vw vm) (hok : ∀ k, ok k → k < w.heap.size) (hi : X.inn = true) (hd : X.dead = false) (hml : X.marks.length ≤ 100000) {m : Int} {i : Nat} {k : Mk} (hk : X.marks[i]? = some k) (hkn : k.n = m) (hfirst : ∀ (j : Nat), j < i → ∀ x, X.marks[j]? = some x → x.n ≠ m) :
    Calls Tryz.prog 31 #[dp X.p, .int .i64 m] w fun e w' => e = .returned (.int .i64 0) ∧ ∃ b' v4, PRep w' { X with own := k.own, count := k.count, marks := X.marks.take (i + 1) } (fun j => ok j ∨ (w.heap.size ≤ j ∧ j < w'.heap.size)) b' vw v4 ∧ Fr ok w w' := by
  obtain ⟨bx, hbx⟩ : ∃ bx, bx = w.heap.size := ⟨_, rfl⟩
  obtain ⟨W, hW⟩ : ∃ W, W = w.alloc (.cells #[.int .i64 m] 3) := ⟨_, rfl⟩
  have hbW : Below w.heap.size w W := by rw [hW]; exact (Below.refl _ _).alloc (Nat.le_refl _) _
  have hsW : W.heap.size = w.heap.size + 1 := by rw [hW]; simp
  have hW0 : W.heap[bx]? = some (.cells #[.int .i64 m] 3 (0, 0)) := by rw [hW, hbx]; exact heap_alloc_new w _
  have hPW : PRep W X ok bo vw vm := h.move (fun j _ hj => hbW.block j hj)
  have HA := ask_any (w := W) (X := X) ⟨bo, vw, vm, hPW⟩
  have hE : askE X = 0 := by unfold askE; rw [hd, hi]; rfl
  rw [hE] at HA
  obtain ⟨hvok, bs, hbl, hown, hms⟩ := hPW.marks
  have hil : i < X.marks.length := (List.getElem?_eq_some_iff.1 hk).1
  obtain ⟨g, cap, hvm⟩ : ∃ g cap, vm = .slice (some ⟨g, 0, none⟩) X.marks.length cap := by
    rcases hown.2 with ⟨_, h0⟩ | ⟨g, cap, cur, h1, _⟩
    · omega
    · exact ⟨g, cap, h1⟩
  subst hvm
  obtain ⟨b, hbk⟩ : ∃ b, bs[i]? = some b := ⟨_, List.getElem?_eq_getElem (by omega)⟩
  obtain ⟨hob, hbne⟩ := hms i b k hbk hk
  have HI := Aside0.mk (idx_any (v := .slice (some ⟨g, 0, none⟩) X.marks.length cap) hown hbl hW0 (by omega))
  have hp := hPW.hp
  rw [hi, if_pos rfl] at hp
  obtain ⟨n, hn⟩ : ∃ n, n = X.marks.length := ⟨_, rfl⟩
  rw [← hn] at HI hp hil
  have hgcap : n ≤ cap := by
    rcases hown.2 with ⟨h1, _⟩ | ⟨g', cap', cur, h1, _, _, h3, _⟩
    · cases h1
    · injection h1 with _ _ h1; omega
  obtain ⟨p, hpe⟩ : ∃ p, p = X.p := ⟨_, rfl⟩
  rw [← hpe] at HA hp ⊢
  have HA := Aside0.mk HA
  have c10 := cell_of_row W p 10 _ _ (0, 0) hp
  have hgp : g ≠ p := fun e => by
    obtain ⟨cs, hcs⟩ := own_typed hown g rfl
    rw [e, hp] at hcs
    injection hcs with hcs
    injection hcs with _ hcs
    exact absurd hcs (by decide)
  have hgl := own_lt hown g rfl
  obtain ⟨a0, a1, a2⟩ := mkCells_get X.marks bs i k b hk hbk
  have hcell : ∀ j u, (mkCells X.marks bs)[j]? = some u → W.cell? ⟨g, j, none⟩ = some u := fun j u hu => by
    have h1 := hown.cells (g := g) rfl j u hu
    have hadd : (⟨g, 0, none⟩ : Addr).add j = ⟨g, j, none⟩ := by unfold Addr.add; split <;> simp_all
    rwa [hadd] at h1
  have b1 := hcell _ _ a1
  have b2 := hcell _ _ a2
  obtain ⟨kc, hkc⟩ : ∃ kc, kc = k.count := ⟨_, rfl⟩
  rw [← hkc] at b2
  have hplt : p < W.heap.size := heap_lt hp
  have hokp : ok p := by rw [hpe]; exact h.okp
  have HX := Aside0.mk (And.intro hk (And.intro hkn (And.intro hfirst (And.intro hn (And.intro hpe (And.intro hkc (And.intro hbk (And.intro hbl (And.intro hown (And.intro hms (And.intro hp (And.intro hob (And.intro hvok (And.intro hi hd))))))))))))))
  have HW := Aside0.mk (And.intro hW (And.intro hbW (And.intro hsW (And.intro hbx (And.intro hPW (And.intro h hok))))))
  have HC := Aside0.mk (And.intro c10 (And.intro b1 b2))
  have HG := Aside0.mk (And.intro hgp (And.intro hgl (And.intro hplt (And.intro hokp hbne))))
  have HIL := Aside0.mk hil
  have q0 : decide ((i : Int) < 0) = false := by simp
  have q1 : (i : Int) + 1 ≤ cap := by omega
  have q2 : (0 : Int) ≤ i := by omega
  have q3 : (cap : Int) ≤ 9223372036854775807 := by
    rcases hown.2 with ⟨h1, _⟩ | ⟨g', cap', cur, h1, _, _, _, h3, _⟩
    · cases h1
    · injection h1 with _ _ h1; unfold maxLen at h3; omega
  clear hk hkn hfirst hn hpe hkc hbk hbl hown hms hp hob hvok hi hd hE hW hbW hsW hW0 hPW h hcell a0 a1 a2 hgp hgl hplt hokp hok hbne hml hgcap hil
  go_enter Tryz.func31, Tryz.ntmps31
  go_wp2_with (first
    | (go_at_call 53; rw [← HW.out.1]; refine (HA.out).mono ?_; rintro e w' ⟨rfl, rfl⟩)
    | fail)
  rw [← HW.out.2.2.2.1]
  refine HI.out.mono ?_
  rintro e w2 ⟨r, rfl, hr, hb2⟩
  obtain rfl : r = (i : Int) := by
    obtain ⟨hk, hkn, hfirst, _⟩ := HX.out
    rcases hr with ⟨_, hr⟩ | ⟨i', k', rfl, hk', hn', hf'⟩
    · exact absurd hkn (hr i k hk)
    · rcases Nat.lt_trichotomy i' i with h1 | h1 | h1
      · exact absurd hn' (hfirst i' h1 k' hk')
      · rw [h1]
      · exact absurd hkn (hf' i h1 k hk)
  clear hr
  have c10 : w2.cell? ⟨p, 10, none⟩ = some (.slice (some ⟨g, 0, none⟩) n cap) := (hb2.cell (p := ⟨p, 10, none⟩) HG.out.2.2.1).trans HC.out.1
  have hp2 := (hb2.block p HG.out.2.2.1).trans HX.out.2.2.2.2.2.2.2.2.2.2.1
  have f10 := frozen_of_cells hp2 10
  have H2 := Aside0.mk (And.intro hb2 hp2)
  clear hb2 hp2
  obtain ⟨w3, hw3⟩ : ∃ w3, w3 = w2.setCell ⟨p, 10, none⟩ (.slice (some ⟨g, 0, none⟩) (i + 1) cap) := ⟨_, rfl⟩
  have hp3 := (md_set (cs := [_, _, _, _, _, _, _, _, _, _, _, _, _]) H2.out.2 10 (.slice (some ⟨g, 0, none⟩) (i + 1) cap)).1
  rw [← hw3] at hp3
  have hO3 : Only p w2 w3 := by rw [hw3]; exact Only.set1 _ _ _ _
  have H3 := Aside0.mk (And.intro hw3 (And.intro hp3 hO3))
  clear hw3 hp3 hO3
  go_wp2
  rw [← H3.out.1]
  obtain ⟨n1, hn1⟩ : ∃ n1, n1 = i + 1 := ⟨_, rfl⟩
  have c10 : w3.cell? ⟨p, 10, none⟩ = some (.slice (some ⟨g, 0, none⟩) n1 cap) := by rw [hn1]; exact cell_of_row w3 p 10 _ _ (0, 0) H3.out.2.1
  have q4 : (i : Int) < n1 := by omega
  have HN1 := Aside0.mk hn1
  clear hn1
  have d1 : w3.cell? ⟨g, i * 3 + 1, none⟩ = some (.map (some b)) := by
    rw [World.cell?_of_block (w := w2) (a := ⟨g, i * 3 + 1, none⟩) (H3.out.2.2.block g HG.out.1)]
    exact (H2.out.1.cell (p := ⟨g, i * 3 + 1, none⟩) HG.out.2.1).trans HC.out.2.1
  have d2 : w3.cell? ⟨g, i * 3 + 2, none⟩ = some (.int .i64 kc) := by
    rw [World.cell?_of_block (w := w2) (a := ⟨g, i * 3 + 2, none⟩) (H3.out.2.2.block g HG.out.1)]
    exact (H2.out.1.cell (p := ⟨g, i * 3 + 2, none⟩) HG.out.2.1).trans HC.out.2.2
  have hO3 : OwnAt w3 ok b k.own := (HX.out.2.2.2.2.2.2.2.2.2.2.2.1.move (fun j _ hj => H2.out.1.block j hj)).other H2.out.2 (fun j _ _ hj => H3.out.2.2.block j hj) (fun _ h => h)
  have HCl := Aside0.mk (fun W (hW : Below w3.heap.size w3 W) => clone_own (hO3.move (fun j _ hj => hW.block j hj)))
  have hp3 : p < w3.heap.size := heap_lt H3.out.2.1
  have hg3 : g < w3.heap.size := by have := HG.out.2.1; have := H2.out.1.size; have := H3.out.2.2.size; omega
  have HL := Aside0.mk (And.intro hp3 hg3)
  clear hO3 hp3 hg3
  go_region_held3 (fun w' => w'.cell? ⟨p, 10, none⟩ = some (.slice (some ⟨g, 0, none⟩) n1 cap) ∧ w'.cell? ⟨g, i * 3 + 1, none⟩ = some (.map (some b)) ∧ w'.cell? ⟨g, i * 3 + 2, none⟩ = some (.int .i64 kc)) (first | go_keep | assumption)
    (first
      | (go_at_call 62; refine (HCl.out _ (by first | exact pw_below_drewN (Below.refl _ _) _ | exact below_drew (Below.refl _ _) | exact Below.refl _ _)).mono ?_; rintro e w4 ⟨rfl, hO4, hb4⟩
         have x10 : w4.cell? ⟨p, 10, none⟩ = some (.slice (some ⟨g, 0, none⟩) n1 cap) := (hb4.cell (p := ⟨p, 10, none⟩) HL.out.1).trans c10
         have x1 : w4.cell? ⟨g, i * 3 + 1, none⟩ = some (.map (some b)) := (hb4.cell (p := ⟨g, i * 3 + 1, none⟩) HL.out.2).trans d1
         have x2 : w4.cell? ⟨g, i * 3 + 2, none⟩ = some (.int .i64 kc) := (hb4.cell (p := ⟨g, i * 3 + 2, none⟩) HL.out.2).trans d2
         have hp4 := (hb4.block p HL.out.1).trans (show (_ : World).heap[p]? = _ from H3.out.2.1)
         have z8 := cell_of_row w4 p 8 _ _ (0, 0) hp4
         have z9 := cell_of_row w4 p 9 _ _ (0, 0) hp4
         have f8 := frozen_of_cells hp4 8
         have f9 := frozen_of_cells hp4 9
         have hp5 := (md_set (cs := [_, _, _, _, _, _, _, _, _, _, _, _, _]) hp4 8 (.map (some w3.heap.size))).1
         have hp6 := (md_set (cs := [_, _, _, _, _, _, _, _, _, _, _, _, _]) hp5 9 (.int .i64 kc)).1
         have y10 : (w4.setCell ⟨p, 8, none⟩ (.map (some w3.heap.size))).cell? ⟨p, 10, none⟩ = some (.slice (some ⟨g, 0, none⟩) n1 cap) := by rw [HN1.out]; exact cell_of_row _ p 10 _ _ (0, 0) hp5
         have y1 : (w4.setCell ⟨p, 8, none⟩ (.map (some w3.heap.size))).cell? ⟨g, i * 3 + 1, none⟩ = some (.map (some b)) := (World.cell?_of_block (w := w4) (a := ⟨g, i * 3 + 1, none⟩) (Below.heap_setCell _ _ _ _ HG.out.1)).trans x1
         have y2 : (w4.setCell ⟨p, 8, none⟩ (.map (some w3.heap.size))).cell? ⟨g, i * 3 + 2, none⟩ = some (.int .i64 kc) := (World.cell?_of_block (w := w4) (a := ⟨g, i * 3 + 2, none⟩) (Below.heap_setCell _ _ _ _ HG.out.1)).trans x2
         have u10 : ((w4.setCell ⟨p, 8, none⟩ (.map (some w3.heap.size))).setCell ⟨p, 9, none⟩ (.int .i64 kc)).cell? ⟨p, 10, none⟩ = some (.slice (some ⟨g, 0, none⟩) n1 cap) := by rw [HN1.out]; exact cell_of_row _ p 10 _ _ (0, 0) hp6
         have u1 : ((w4.setCell ⟨p, 8, none⟩ (.map (some w3.heap.size))).setCell ⟨p, 9, none⟩ (.int .i64 kc)).cell? ⟨g, i * 3 + 1, none⟩ = some (.map (some b)) := (World.cell?_of_block (w := _) (a := ⟨g, i * 3 + 1, none⟩) (Below.heap_setCell _ _ _ _ HG.out.1)).trans y1
         have u2 : ((w4.setCell ⟨p, 8, none⟩ (.map (some w3.heap.size))).setCell ⟨p, 9, none⟩ (.int .i64 kc)).cell? ⟨g, i * 3 + 2, none⟩ = some (.int .i64 kc) := (World.cell?_of_block (w := _) (a := ⟨g, i * 3 + 2, none⟩) (Below.heap_setCell _ _ _ _ HG.out.1)).trans y2
         clear hp5 hp6
         have H4 := Aside0.mk (And.intro hO4 (And.intro hb4 hp4))
         clear hO4 hb4 hp4))
  go_wp2
  go_ret
  obtain ⟨hk, hkn, hfirst, hn, hpe, hkc, hbk, hbl, hown, hms, hp, hob, hvok, hi, hd⟩ := HX.out
  obtain ⟨hW, hbW, hsW, hbx, hPW, h, hok⟩ := HW.out
  obtain ⟨hgp, hgl, hplt, hokp, hbne⟩ := HG.out
  obtain ⟨hb2, hp2⟩ := H2.out
  obtain ⟨hw3, hp3, hO3⟩ := H3.out
  obtain ⟨hO4, hb4', hp4⟩ := H4.out
  have hb4 : Below w3.heap.size w3 w4 := ⟨hb4'.os, hb4'.tape, hb4'.output, hb4'.size, hb4'.block⟩
  replace hO4 : OwnAt w4 (fun j => ok j ∨ j = w3.heap.size) w3.heap.size k.own := hO4
  have hn1 := HN1.out
  have hil := HIL.out
  have s2 := hb2.size
  have s3 : w3.heap.size = w2.heap.size := hO3.size
  have s4 : w3.heap.size ≤ w4.heap.size := hb4.size
  obtain ⟨W5, hW5⟩ : ∃ W5, W5 = (w4.setCell ⟨p, 8, none⟩ (.map (some w3.heap.size))).setCell ⟨p, 9, none⟩ (.int .i64 kc) := ⟨_, rfl⟩
  have hO5 : Only p w4 W5 := by rw [hW5]; exact ((Only.refl p w4).set_ 8 _).set_ 9 _
  have hp5 := (md_set (cs := [_, _, _, _, _, _, _, _, _, _, _, _, _]) (md_set (cs := [_, _, _, _, _, _, _, _, _, _, _, _, _]) hp4 8 (.map (some w3.heap.size))).1 9 (.int .i64 kc)).1
  rw [← hW5] at hp5 ⊢
  have s5 : W5.heap.size = w4.heap.size := hO5.size
  have k2 : ∀ j, j < w2.heap.size → j ≠ p → W5.heap[j]? = w2.heap[j]? := fun j hj hjp => (hO5.block j hjp).trans ((hb4.block j (by omega)).trans (hO3.block j hjp))
  have kW : ∀ j, j < W.heap.size → j ≠ p → W5.heap[j]? = W.heap[j]? := fun j hj hjp => (k2 j (by omega) hjp).trans (hb2.block j hj)
  have kw : ∀ j, j < w.heap.size → j ≠ p → W5.heap[j]? = w.heap[j]? := fun j hj hjp => (kW j (by omega) hjp).trans (hbW.block j hj)
  refine ⟨rfl, w3.heap.size, .slice (some ⟨g, 0, none⟩) (i + 1) cap, ⟨?_, .inl (show ok p from hokp), ?_, fun _ => ?_, ?_⟩, ?_⟩
  · show W5.heap[p]? = some (.cells #[dp X.d, .int .i64 X.mode, dp X.l, .int .i64 X.c, .bool X.dead, .bool X.inn, .bool X.wrote, vw, .map (if X.inn then some w3.heap.size else none), .int .i64 k.count, .slice (some ⟨g, 0, none⟩) (i + 1) cap, .int .i64 X.next, .int .i64 X.sure] _ _)
    rw [hi, if_pos rfl, ← hkc]
    exact hp5
  · exact h.was.same (fun j hj => kw j (h.was.lt hj) (h.was.ne (hpe ▸ h.hp) (fun cs e => by injection e with _ e2; cases e2) hj)) (fun j hj => .inl (h.was.1 j hj))
  · exact (hO4.other hp4 (fun j _ _ hj => hO5.block j hj) (fun _ h => h)).mono (fun j hj => hj.elim .inl (fun e => .inr ⟨by omega, by have := hO4.lt; omega⟩))
  · refine ⟨fun j hj => .inl (hvok j (by simpa [Value.ownBlock] using hj)), bs.take (i + 1), by rw [List.length_take, List.length_take, hbl], ?_, fun j b' m' h1 h2 => ?_⟩
    · rw [List.length_take, Nat.min_eq_left (by omega), ← mkCells_take]
      have := own_take (hn ▸ hown) (i + 1) (by rw [hn]; omega)
      refine own_at_heap this (fun j hj => ?_)
      obtain rfl : g = j := by simpa [Value.ownBlock] using hj
      exact kW g hgl hgp
    · rw [List.getElem?_take] at h1 h2
      split at h1
      · rw [if_pos ‹_›] at h2
        obtain ⟨h3, h4⟩ := hms j b' m' h1 h2
        have h5 : OwnAt w2 ok b' m'.own := h3.move (fun j _ hj => hb2.block j hj)
        exact ⟨h5.other hp2 (fun j _ hj hjp => k2 j hj hjp) (fun _ h => .inl h), by have := h5.lt; omega⟩
      · cases h1
  · exact ⟨hO5.os.trans (hb4.os.trans (hO3.os.trans (hb2.os.trans hbW.os))), hO5.tape.trans (hb4.tape.trans (hO3.tape.trans (hb2.tape.trans hbW.tape))), hO5.output.trans (hb4.output.trans (hO3.output.trans (hb2.output.trans hbW.output))), by omega, fun j hj hjn => kw j hj (fun e => hjn (e ▸ hokp))⟩

theorem s_back {w : World} {X : PG} {M : DM} {ok : Nat → Prop} (h : Sys w X M ok) (hd : X.dead = false) (hi : X.inn = true) (hml : X.marks.length ≤ 100000) {m : Int} {i : Nat} {k : Mk} (hk : X.marks[i]? = some k) (hkn : k.n = m) (hfirst : ∀ (j : Nat), j < i → ∀ x, X.marks[j]? = some x → x.n ≠ m) :
    Calls Tryz.prog 31 #[dp X.p, .int .i64 m] w fun e w' => e = .returned (.int .i64 0) ∧ SLeft w { X with own := k.own, count := k.count, marks := X.marks.take (i + 1) } M ok w' := by
  obtain ⟨okP, okD, x, v, ⟨bo, vw, vm, hP⟩, hD, hT, hL, h5, h6, h7, hc, hv0, hv1, hv2⟩ := h
  refine (back_row hP (fun k hk => (h5 k hk).2.2.2) hi hd hml hk hkn hfirst).mono ?_
  rintro e w' ⟨rfl, b', v4, hP', hFr⟩
  have hs := hFr.size
  have hF := hFr.block
  refine ⟨rfl, ⟨_, okD, x, v, ⟨b', vw, v4, hP'⟩, hD.move (fun k hk hlt => hF k hlt (fun h => (h5 k h).2.2.1 hk)), (hF _ hT.lt (fun h => (h5 _ h).2.1 rfl)).trans hT, hL, fun k hk => ?_, fun k hk => ⟨.inl (h6 k hk).1, (h6 k hk).2.1, Nat.lt_of_lt_of_le (h6 k hk).2.2 hs⟩, .inl h7, hc, hv0, hv1, hv2⟩, hFr.wide (fun k _ hk => (h5 k hk).1)⟩
  rcases hk with hk | hk
  · exact ⟨.inl (h5 k hk).1, (h5 k hk).2.1, (h5 k hk).2.2.1, Nat.lt_of_lt_of_le (h5 k hk).2.2.2 hs⟩
  · refine ⟨.inr hk, fun e => ?_, fun hk2 => ?_, hk.2⟩
    · have := hT.lt
      rw [e] at hk
      exact absurd this (by have := hk.1; show ¬ X.l < _; exact Nat.not_lt.2 this)
    · have := (h6 k hk2).2.2
      omega
end Go.Proofs.YtmdpgjdepflbmaaGreat

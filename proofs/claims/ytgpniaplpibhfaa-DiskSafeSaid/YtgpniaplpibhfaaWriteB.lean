/-
  The walk of Write's closure at a file that is there.
-/
import Derived.Test.YtgpniaplpibhfaaWrite
namespace Go.Proofs.Ytgpniaplpibhfaa
open Go.RowKit Go.Maps Go.Proofs.YtgpniaplpibhfaaW.PrintWords Go.Proofs.YtgpniaplpibhfaaW.PrintLast Go.Proofs.YtgpniaplpibhfaaW.PrintMore
open Go.Proofs.Ytgpniaplpibhfaa.PDiskSafe
set_option linter.unusedVariables false
set_option linter.unusedSimpArgs false

abbrev bptr (b : Nat) : Value := .pointer (some ⟨b, 0, none⟩)

set_option maxRecDepth 100000 in
theorem write_old {w : World} {d : Nat} {M : DM} {ok : Nat → Prop} (h : DiskAt w d M ok) {bd bn ba bb : Nat} {s : ByteArray} {a nb cb : Nat} {Ab : Option Addr} {b : Bytes} {f : Bytes × Bytes}
    (hbd : Box w ok bd (dptr d) 34) (hbn : Box w ok bn (.string s) 9) (hba : Box w ok ba (.int .i64 a) 3) (hbb : Box w ok bb (.slice Ab nb cb) 30)
    (hs : s.size ≤ maxLen) (hsrc : Src w ok Ab nb b) (hnb : 0 < nb) (ha : a + nb ≤ 4194304) (hx : M.fs (nm s) = some f) (hf : f.2.length ≤ 4194304) :
    Calls Try.prog 39 #[bptr bd, bptr bn, bptr ba, bptr bb] w fun e w' => e = .returned (.int .i64 0) ∧ Left w d { M with fs := fun y => if y = nm s then some (f.1, writeB f.2 a b) else M.fs y } ok w' := by
  obtain ⟨bf, bt, blk, sv, ev, sz, h⟩ := h
  obtain ⟨g, hg⟩ := h.some_ hx
  obtain ⟨hcells, _, hR⟩ := h.file _ _ _ hg hx
  have hl := (h.move (w' := w.drew) (fun _ _ _ => rfl)).look hs
  rw [show blk s.data.toList = some g from hg] at hl
  simp only [ptrV] at hl
  have h0 := h.c0
  have cd := hbd.cell
  have cn := hbn.cell
  have ca := hba.cell
  have cb' := hbb.cell
  have cg : w.cell? ⟨g, 1, none⟩ = some (ev (nm s)) := cell_of_row w g 1 _ 68 (0, 0) hcells
  obtain ⟨Ae, ce, hev⟩ := RB.slice hR
  have HL := fun (W : World) (hW : RB W ok (ev (nm s)) f.2) => longer_any (a + nb) hW (by omega) (by omega)
  have H := Aside0.mk HL
  have HH := Aside0.mk h
  clear hl
  have hl := (h.move (w' := w.drew) (fun _ _ _ => rfl)).look hs
  rw [show blk s.data.toList = some g from hg] at hl
  simp only [ptrV] at hl
  clear HL h
  rw [hev] at cg
  go_enter Try.func39, Try.ntmps39
  go_wp2
  go_region
  clear hl
  go_wp2
  obtain ⟨w1, hw1⟩ : ∃ w1, w1 = w.drew := ⟨_, rfl⟩
  rw [← hw1]
  replace cg : w1.cell? ⟨g, 1, none⟩ = some (.slice Ae f.2.length ce) := by rw [hw1]; exact cg
  replace ca : w1.cell? ⟨ba, 0, none⟩ = some (.int .i64 a) := by rw [hw1]; exact ca
  replace cb' : w1.cell? ⟨bb, 0, none⟩ = some (.slice Ab nb cb) := by rw [hw1]; exact cb'
  have hfz : w1.frozen? ⟨g, 1, none⟩ = false := by rw [hw1]; exact frozen_of_cells hcells 1
  have hR1 : RB w1.drew ok (.slice Ae f.2.length ce) f.2 := by rw [← hev, hw1]; exact R_same hR (fun _ _ => rfl) hR.1
  have hfr : Fr ok w w1 := by rw [hw1]; exact (Fr.refl ok w).drew
  have hcells1 : w1.heap[g]? = some (.cells #[sv (nm s), .slice Ae f.2.length ce] 68 (0, 0)) := by rw [hw1, ← hev]; exact hcells
  have hrow := fun k hk => cells_ne (w := w1) hcells1 (Exists.choose_spec (R_block (w := w1) (R_same hR1 (fun _ _ => rfl) hR1.1) (k := k) hk)) (by decide)
  have HW1 := Aside0.mk hw1
  clear hw1
  have hsum : IntKind.i64.wrap ((a : Int) + nb) = (a : Int) + nb := IntWalk.i64_in _ (by omega)
  have LG : Calls Try.prog 33 #[.slice Ae f.2.length ce, .int .i64 ((a : Int) + nb)] w1.drew fun e w' => ∃ A2 c2, e = .returned (.slice A2 (padTo f.2 (a + nb)).length c2) ∧
      (RB w' (fun k => ok k ∨ w1.heap.size ≤ k) (.slice A2 (padTo f.2 (a + nb)).length c2) (padTo f.2 (a + nb)) ∧ Fr (fun k => (Value.slice Ae f.2.length ce).ownBlock = some k) w1 w' ∧
      (∀ b, (Value.slice A2 (padTo f.2 (a + nb)).length c2).ownBlock = some b → (Value.slice Ae f.2.length ce).ownBlock = some b ∨ w1.heap.size ≤ b)) ∧
      w'.cell? ⟨g, 1, none⟩ = some (.slice Ae f.2.length ce) ∧ w'.frozen? ⟨g, 1, none⟩ = false ∧ w'.cell? ⟨ba, 0, none⟩ = some (.int .i64 a) ∧ w'.cell? ⟨bb, 0, none⟩ = some (.slice Ab nb cb) := by
    have := longer_any (a + nb) hR1 (by omega) (by omega)
    rw [show (((a + nb : Nat)) : Int) = (a : Int) + nb from by omega] at this
    refine this.mono ?_
    rintro e w' ⟨v', rfl, r1, r2, r3⟩
    replace r2 := r2.undrew
    obtain ⟨A2, c2, rfl⟩ := RB.slice r1
    have hg1 : w'.heap[g]? = w1.heap[g]? := r2.block g (heap_lt hcells1) (fun e => hrow g e rfl)
    have hb1 : ∀ {b v t}, Box w ok b v t → w'.heap[b]? = w1.heap[b]? := fun {b v t} hb => r2.block b (by rw [HW1.out]; exact heap_lt hb.1) (fun e => hb.2 (hR1.1 b e))
    refine ⟨A2, c2, rfl, ⟨r1, r2, r3⟩, ?_, ?_, ?_, ?_⟩
    · rw [World.cell?_of_block (a := ⟨g, 1, none⟩) hg1]; exact cg
    · rw [World.frozen?_of_block (a := ⟨g, 1, none⟩) hg1]; exact hfz
    · rw [World.cell?_of_block (a := ⟨ba, 0, none⟩) (hb1 hba)]; exact ca
    · rw [World.cell?_of_block (a := ⟨bb, 0, none⟩) (hb1 hbb)]; exact cb'
  have HLG := Aside0.mk LG
  have HR1 := Aside0.mk hR1
  have HFR := Aside0.mk hfr
  have HC1 := Aside0.mk hcells1
  have HROW := Aside0.mk hrow
  have HHR := Aside0.mk hR
  have HCELLS := Aside0.mk hcells
  have HEV := Aside0.mk hev
  have HGX := Aside0.mk hg
  have HX := Aside0.mk hx
  clear LG hR1 hfr hcells1 hrow hR hcells hev H hg hx
  generalize hL2 : (padTo f.2 (a + nb)).length = L2 at *
  generalize hL1 : f.2.length = L1 at *
  have HL2 := Aside0.mk hL2
  have HL1 := Aside0.mk hL1
  clear hL2 hL1
  refine start_ (n := 13) (S := fun w' => w'.cell? ⟨g, 1, none⟩ = some (.slice Ae L1 ce) ∧ w'.cell? ⟨ba, 0, none⟩ = some (.int .i64 a) ∧ w'.cell? ⟨bb, 0, none⟩ = some (.slice Ab nb cb)) (ds := [12]) #[false, false, false, false, false, false, false, false, false, false, false, false, false] (by kernel_rfl) rfl rfl ⟨cg, ca, cb'⟩ (fun hHeld => ?_)
  refine pure_ (i := 0) (N := some 28) (v := ?_) (a' := ?_) #[true, false, false, false, false, false, false, false, false, false, false, false, false] rfl rfl (by kernel_rfl) (fun _ _ _ h => h) (Or.inl ⟨by rfl, ?_⟩) ?_ ?_
  rotate_left
  · intro w'
    go_simp
    with_reducible rfl
  rotate_left
  · simp only [Act.put, List.setIfInBounds_toArray, List.set_cons_zero, List.set_cons_succ, i64_w, i32_w]
    rfl
  refine pure_ (i := 1) (N := some 29) (v := ?_) (a' := ?_) #[true, true, false, false, false, false, false, false, false, false, false, false, false] rfl rfl (by kernel_rfl) (fun _ _ _ h => h) (Or.inl ⟨by rfl, ?_⟩) ?_ ?_
  rotate_left
  · intro w'
    go_simp
    with_reducible rfl
  rotate_left
  · simp only [Act.put, List.setIfInBounds_toArray, List.set_cons_zero, List.set_cons_succ, i64_w, i32_w]
    rfl
  refine pure_ (i := 2) (N := some 30) (v := ?_) (a' := ?_) #[true, true, true, false, false, false, false, false, false, false, false, false, false] rfl rfl (by kernel_rfl) (fun _ _ _ h => h) (Or.inl ⟨by rfl, ?_⟩) ?_ ?_
  rotate_left
  · intro w'
    go_simp
    with_reducible rfl
  rotate_left
  · simp only [Act.put, List.setIfInBounds_toArray, List.set_cons_zero, List.set_cons_succ, i64_w, i32_w]
    rfl
  refine pure_ (i := 3) (N := some 31) (v := ?_) (a' := ?_) #[true, true, true, true, false, false, false, false, false, false, false, false, false] rfl rfl (by kernel_rfl) (fun _ _ _ h => h) (Or.inl ⟨by rfl, ?_⟩) ?_ ?_
  rotate_left
  · intro w'
    go_simp
    with_reducible rfl
  rotate_left
  · simp only [Act.put, List.setIfInBounds_toArray, List.set_cons_zero, List.set_cons_succ, i64_w, i32_w]
    rfl
  refine take_ (i := 4) (N := some 32) (v := ?_) (a' := ?_) #[true, true, true, true, true, false, false, false, false, false, false, false, false] rfl rfl (by kernel_rfl) (fun _ _ _ h => h) (Or.inl ⟨by rfl, ?_⟩) hHeld ?_ ?_
  rotate_left
  · rintro w' ⟨s0, s1, s2⟩
    go_simp
    with_reducible rfl
  rotate_left
  · simp only [Act.put, List.setIfInBounds_toArray, List.set_cons_zero, List.set_cons_succ, i64_w, i32_w]
    rfl
  refine take_ (i := 5) (N := some 33) (v := ?_) (a' := ?_) #[true, true, true, true, true, true, false, false, false, false, false, false, false] rfl rfl (by kernel_rfl) (fun _ _ _ h => h) (Or.inl ⟨by rfl, ?_⟩) hHeld ?_ ?_
  rotate_left
  · rintro w' ⟨s0, s1, s2⟩
    go_simp
    with_reducible rfl
  rotate_left
  · simp only [Act.put, List.setIfInBounds_toArray, List.set_cons_zero, List.set_cons_succ, i64_w, i32_w]
    rfl
  refine take_ (i := 6) (N := some 34) (v := ?_) (a' := ?_) #[true, true, true, true, true, true, true, false, false, false, false, false, false] rfl rfl (by kernel_rfl) (fun _ _ _ h => h) (Or.inl ⟨by rfl, ?_⟩) hHeld ?_ ?_
  rotate_left
  · rintro w' ⟨s0, s1, s2⟩
    go_simp
    with_reducible rfl
  rotate_left
  · simp only [Act.put, List.setIfInBounds_toArray, List.set_cons_zero, List.set_cons_succ, i64_w, i32_w]
    rfl
  refine pure_ (i := 7) (N := some 35) (v := ?_) (a' := ?_) #[true, true, true, true, true, true, true, true, false, false, false, false, false] rfl rfl (by kernel_rfl) (fun _ _ _ h => h) (Or.inl ⟨by rfl, ?_⟩) ?_ ?_
  rotate_left
  · intro w'
    go_simp
    with_reducible rfl
  rotate_left
  · simp only [Act.put, List.setIfInBounds_toArray, List.set_cons_zero, List.set_cons_succ, i64_w, i32_w]
    rfl
  refine pure_ (i := 8) (N := some 36) (v := ?_) (a' := ?_) #[true, true, true, true, true, true, true, true, true, false, false, false, false] rfl rfl (by kernel_rfl) (fun _ _ _ h => h) (Or.inl ⟨by rfl, ?_⟩) ?_ ?_
  rotate_left
  · intro w'
    go_simp
    with_reducible rfl
  rotate_left
  · simp only [Act.put, List.setIfInBounds_toArray, List.set_cons_zero, List.set_cons_succ, i64_w, i32_w]
    rfl
  refine one_ (i := 9) (N := some 37) #[true, true, true, true, true, true, true, true, true, true, false, false, false] rfl rfl (by kernel_rfl) (by decide) (fun K hK => ?_)
  refine goes_ Try.func33 (by kernel_rfl) rfl #[.slice Ae L1 ce, .int .i64 ((a : Int) + nb)] (by rfl) rfl rfl (by simp only [List.map_toArray, List.map_cons, List.map_nil]; rfl) ?_
  refine HLG.out.mono ?_
  rintro e w2 ⟨A2, c2, rfl, hq2, cg2, fz2, ca2, cb2⟩
  have HQ2 := Aside0.mk hq2
  clear hq2
  refine ⟨_, rfl, ?_⟩
  refine hK.out _ _ ⟨cg2, ca2, cb2⟩ (fun hHeld => ?_)
  clear hK K
  refine norm_ (a' := ?_) ?_ ?_
  rotate_left
  · show Act.put _ (some 37) _ = _
    simp only [Act.put, List.setIfInBounds_toArray, List.set_cons_zero, List.set_cons_succ, i64_w, i32_w]
    rfl
  refine pure_ (i := 10) (N := some 38) (v := ?_) (a' := ?_) #[true, true, true, true, true, true, true, true, true, true, true, false, false] rfl rfl (by kernel_rfl) (fun _ _ _ h => h) (Or.inl ⟨by rfl, ?_⟩) ?_ ?_
  rotate_left
  · intro w'
    go_simp
    with_reducible rfl
  rotate_left
  · simp only [Act.put, List.setIfInBounds_toArray, List.set_cons_zero, List.set_cons_succ, i64_w, i32_w]
    rfl
  refine pure_ (i := 11) (N := some 39) (v := ?_) (a' := ?_) #[true, true, true, true, true, true, true, true, true, true, true, true, false] rfl rfl (by kernel_rfl) (fun _ _ _ h => h) (Or.inl ⟨by rfl, ?_⟩) ?_ ?_
  rotate_left
  · intro w'
    go_simp
    with_reducible rfl
  rotate_left
  · simp only [Act.put, List.setIfInBounds_toArray, List.set_cons_zero, List.set_cons_succ, i64_w, i32_w]
    rfl
  refine last_ (i := 12) (N := none) #[true, true, true, true, true, true, true, true, true, true, true, true, true] rfl rfl (by kernel_rfl) (by decide) (fun K hK => ?_)
  refine skip_ (w1 := ?_) (by rfl) rfl ?_ ?_
  rotate_left
  · go_simp
    rfl
  refine hK.out _ _ ?_
  clear hK K
  refine done_ (by kernel_rfl) ?_
  go_wp2
  obtain ⟨hR2, hF2, hat2⟩ := HQ2.out
  -- the world behind the store
  obtain ⟨w3, hw3⟩ : ∃ w3, w3 = w2.setCell ⟨g, 1, none⟩ (.slice A2 L2 c2) := ⟨_, rfl⟩
  rw [← hw3]
  have hfr := HFR.out
  have hcells1 := HC1.out
  have hg2 : w2.heap[g]? = w1.heap[g]? := hF2.block g (heap_lt hcells1) (fun e => HROW.out g e rfl)
  have hg3 : w3.heap[g]? = some (.cells #[sv (nm s), .slice A2 L2 c2] 68 (0, 0)) := by rw [hw3]; rw [hcells1] at hg2; simp [World.setCell, Array.getElem?_modify, hg2]
  have hgw : w.heap[g]? = some (.cells #[sv (nm s), .slice Ae L1 ce] 68 (0, 0)) := by rw [← HEV.out]; exact HCELLS.out
  have hF23 : Fr ok w w3 := by
    rw [hw3]
    refine (hfr.trans hF2 (fun k hk => .inl (HR1.out.1 k hk))).set_ (p := ⟨g, 1, none⟩) (.inl (HH.out.okb _ _ HGX.out)) _
  have hbox : ∀ {b v t}, Box w ok b v t → w3.cell? ⟨b, 0, none⟩ = some v := fun hb => hb.fr hF23 (fun _ _ hk => hk)
  have cg3 : w3.cell? ⟨g, 1, none⟩ = some (.slice A2 L2 c2) := cell_of_row w3 g 1 _ 68 (0, 0) hg3
  have ca3 := hbox hba
  have cb3 := hbox hbb
  have hR3 : RB w3 (fun k => ok k ∨ w1.heap.size ≤ k) (.slice A2 L2 c2) (padTo f.2 (a + nb)) := by
    refine R_same hR2 (fun k hk => ?_) hR2.1
    rw [hw3]
    refine Below.heap_setCell _ _ _ _ ?_
    rintro rfl
    obtain ⟨cs, hcs⟩ := R_block hR2 hk
    rw [hg2, hcells1] at hcs
    injection hcs with hcs
    injection hcs with _ e
    exact absurd e (by decide)
  have hC3 : U8.C w3 Ab nb b := hsrc.fr hF23 (fun _ _ hk => hk)
  have hbl : b.length = nb := hC3.1
  obtain ⟨A', m, c', w4, hcut, hcopy, hR4, hg4⟩ := copyB (cb := cb) hR3 a hC3 hnb (by rw [padTo_length]; omega)
  have hcp : ∀ ty, (Builtin.copy_ #[30, 30] ty #[.slice A' m c', .slice Ab nb cb]).run Try.prog w3.drew = .ok (.int .i64 nb) w4.drew := fun ty => hcopy 1 ty
  clear hcopy
  have HRest := Aside0.mk (And.intro hR4 (And.intro hg4 (And.intro hg3 (And.intro hF23 (And.intro hg2 (And.intro hF2 hat2))))))
  have HW3 := Aside0.mk hw3
  clear hw3
  clear hR4 hg4 hR3 hC3 hR2 hF2 hat2 hbox hF23 hgw hg3 hg2 hfr hcells1
  refine start_ (n := 8) (S := fun w' => w'.cell? ⟨g, 1, none⟩ = some (.slice A2 L2 c2) ∧ w'.cell? ⟨ba, 0, none⟩ = some (.int .i64 a) ∧ w'.cell? ⟨bb, 0, none⟩ = some (.slice Ab nb cb)) (ds := [7]) #[false, false, false, false, false, false, false, false] (by kernel_rfl) rfl rfl ⟨cg3, ca3, cb3⟩ (fun hHeld => ?_)
  refine pure_ (i := 0) (N := some 40) (v := ?_) (a' := ?_) #[true, false, false, false, false, false, false, false] rfl rfl (by kernel_rfl) (fun _ _ _ h => h) (Or.inl ⟨by rfl, ?_⟩) ?_ ?_
  rotate_left
  · intro w'
    go_simp
    with_reducible rfl
  rotate_left
  · simp only [Act.put, List.setIfInBounds_toArray, List.set_cons_zero, List.set_cons_succ, i64_w, i32_w]
    rfl
  refine pure_ (i := 1) (N := some 41) (v := ?_) (a' := ?_) #[true, true, false, false, false, false, false, false] rfl rfl (by kernel_rfl) (fun _ _ _ h => h) (Or.inl ⟨by rfl, ?_⟩) ?_ ?_
  rotate_left
  · intro w'
    go_simp
    with_reducible rfl
  rotate_left
  · simp only [Act.put, List.setIfInBounds_toArray, List.set_cons_zero, List.set_cons_succ, i64_w, i32_w]
    rfl
  refine pure_ (i := 2) (N := some 42) (v := ?_) (a' := ?_) #[true, true, true, false, false, false, false, false] rfl rfl (by kernel_rfl) (fun _ _ _ h => h) (Or.inl ⟨by rfl, ?_⟩) ?_ ?_
  rotate_left
  · intro w'
    go_simp
    with_reducible rfl
  rotate_left
  · simp only [Act.put, List.setIfInBounds_toArray, List.set_cons_zero, List.set_cons_succ, i64_w, i32_w]
    rfl
  refine take_ (i := 3) (N := some 43) (v := ?_) (a' := ?_) #[true, true, true, true, false, false, false, false] rfl rfl (by kernel_rfl) (fun _ _ _ h => h) (Or.inl ⟨by rfl, ?_⟩) hHeld ?_ ?_
  rotate_left
  · rintro w' ⟨s0, s1, s2⟩
    go_simp
    with_reducible rfl
  rotate_left
  · simp only [Act.put, List.setIfInBounds_toArray, List.set_cons_zero, List.set_cons_succ, i64_w, i32_w]
    rfl
  refine take_ (i := 4) (N := some 44) (v := ?_) (a' := ?_) #[true, true, true, true, true, false, false, false] rfl rfl (by kernel_rfl) (fun _ _ _ h => h) (Or.inl ⟨by rfl, ?_⟩) hHeld ?_ ?_
  rotate_left
  · rintro w' ⟨s0, s1, s2⟩
    go_simp
    with_reducible rfl
  rotate_left
  · simp only [Act.put, List.setIfInBounds_toArray, List.set_cons_zero, List.set_cons_succ, i64_w, i32_w]
    rfl
  refine pure_ (i := 5) (N := some 45) (v := ?_) (a' := ?_) #[true, true, true, true, true, true, false, false] rfl rfl (by kernel_rfl) (fun _ _ _ h => h) (Or.inl ⟨by rfl, ?_⟩) ?_ ?_
  rotate_left
  · intro w'
    go_simp
    with_reducible rfl
  rotate_left
  · simp only [Act.put, List.setIfInBounds_toArray, List.set_cons_zero, List.set_cons_succ, i64_w, i32_w]
    rfl
  refine take_ (i := 6) (N := some 46) (v := ?_) (a' := ?_) #[true, true, true, true, true, true, true, false] rfl rfl (by kernel_rfl) (fun _ _ _ h => h) (Or.inl ⟨by rfl, ?_⟩) hHeld ?_ ?_
  rotate_left
  · rintro w' ⟨s0, s1, s2⟩
    go_simp
    with_reducible rfl
  rotate_left
  · simp only [Act.put, List.setIfInBounds_toArray, List.set_cons_zero, List.set_cons_succ, i64_w, i32_w]
    rfl
  refine last_ (i := 7) (N := some 47) #[true, true, true, true, true, true, true, true] rfl rfl (by kernel_rfl) (by decide) (fun K hK => ?_)
  refine value_ (v := .int .i64 nb) (w1 := w4.drew) (by rfl) rfl ?_ ?_
  · go_simp
  refine hK.out _ _ ?_
  clear hK K
  refine norm_ (a' := ?_) ?_ ?_
  rotate_left
  · show Act.put _ (some 47) _ = _
    simp only [Act.put, List.setIfInBounds_toArray, List.set_cons_zero, List.set_cons_succ, i64_w, i32_w]
    rfl
  refine done_ (by kernel_rfl) ?_
  go_wp2
  go_ret
  obtain ⟨hR4, hg4, hg3, hF23, hg2, hF2, hat2⟩ := HRest.out
  have hsz : w1.heap.size = w.heap.size := by rw [HW1.out]; rfl
  rw [hsz] at hat2 hR4
  have hold : ∀ k, (Value.slice A2 L2 c2).ownBlock = some k → k ≠ g := by
    rintro k hk rfl
    rcases hat2 k hk with h | h
    · exact HROW.out k h rfl
    · have := heap_lt HCELLS.out; omega
  refine ⟨rfl, fun k => ok k ∨ w.heap.size ≤ k, ⟨bf, bt, blk, sv, _, sz, HH.out.setSeen (w1 := w4.drew) (v1 := .slice A2 L2 c2) (l1 := writeB f.2 a b) HGX.out HX.out ?_ ?_ ?_ ?_ (fun k hk => .inl hk)⟩, fun k hk => hk, ?_⟩
  · exact (hg4.block g (heap_lt hg3) (fun e => hold g e.symm rfl)).trans hg3
  · intro k hok hk hne hno
    have e1 : (Value.slice A2 L2 c2).ownBlock ≠ some k := fun e => by
      rcases hat2 k e with h | h
      · rw [HEV.out] at hno; exact hno h
      · omega
    have s1 : w3.heap.size = w2.heap.size := by rw [HW3.out]; simp [World.setCell]
    have s2 : w1.heap.size ≤ w2.heap.size := hF2.size
    refine (hg4.block k (by omega) (fun e => e1 e.symm)).trans ?_
    rw [HW3.out, Below.heap_setCell _ _ _ _ (by exact hne), hF2.block k (by omega) (fun e => hno (by rw [HEV.out]; exact e)), HW1.out]
    rfl
  · have hbl : b.length = nb := hsrc.1.1
    have e : writeB f.2 a b = splice (padTo f.2 (a + nb)) a b := by unfold writeB; rw [hbl]
    rw [e]
    exact R_same hR4 (fun _ _ => rfl) hR4.1
  · intro k hk
    rw [HEV.out]
    exact hat2 k hk
  · refine (hF23.grown hg4 (fun k hk => ?_)).drew
    rcases hat2 k hk with h | h
    · exact .inl (HR1.out.1 k h)
    · exact .inr h
end Go.Proofs.Ytgpniaplpibhfaa

/-
  The walk of Write's closure at a file that is not there.
-/
namespace Go.Proofs.Ytgpniaplpibhfaa
open Go.RowKit Go.Maps Go.Proofs.YtgpniaplpibhfaaW.PrintWords Go.Proofs.YtgpniaplpibhfaaW.PrintLast Go.Proofs.YtgpniaplpibhfaaW.PrintMore
open Go.Proofs.Ytgpniaplpibhfaa.PDiskSafe
set_option linter.unusedVariables false
set_option linter.unusedSimpArgs false

theorem DRep.sz_eq {w : World} {d : Nat} {M : DM} {ok : Nat → Prop} {bf bt : Nat} {blk : Name → Option Nat} {sv ev : Name → Value} {sz : Nat} (h : DRep w d M ok bf bt blk sv ev sz) {L : List Name} (hL : L.Pairwise (· < ·)) (hm : ∀ x, x ∈ L ↔ (M.fs x).isSome = true) : L.length = sz :=
  h.hf.size_names Try.underlying9 ⟨hL, fun x => by rw [hm, h.dom]⟩

theorem write_full {w : World} {d : Nat} {M : DM} {ok : Nat → Prop} (h : DiskAt w d M ok) {bd bn ba bb : Nat} {s : ByteArray}
    (hbd : Box w ok bd (dptr d) 34) (hbn : Box w ok bn (.string s) 9) (hs : s.size ≤ maxLen) (hx : M.fs (nm s) = none)
    {L : List Name} (hL : L.Pairwise (· < ·)) (hm : ∀ x, x ∈ L ↔ (M.fs x).isSome = true) (h16 : L.length = 16) :
    Calls Try.prog 39 #[bptr bd, bptr bn, bptr ba, bptr bb] w fun e w' => e = .returned (.int .i64 10) ∧ ∃ n, w' = w.drewN n := by
  obtain ⟨bf, bt, blk, sv, ev, sz, h⟩ := h
  have hsz := h.sz_eq hL hm
  have hl := (h.move (w' := w.drew) (fun _ _ _ => rfl)).look hs
  rw [show blk s.data.toList = none from h.none_ hx] at hl
  simp only [ptrV] at hl
  have hlen := fun ty => PMap.len (h.move (w' := w.drew) (fun _ _ _ => rfl)).hf Try.underlying62 ty
  rw [← hsz, h16] at hlen
  have h0 := h.c0
  have cd := hbd.cell
  have cn := hbn.cell
  clear h hsz hL hm h16 hx hs
  go_enter Try.func39, Try.ntmps39
  go_wp2
  go_region
  go_wp2
  go_ret
  exact ⟨rfl, 1, rfl⟩

set_option maxRecDepth 100000 in
theorem write_new {w : World} {d : Nat} {M : DM} {ok : Nat → Prop} (h : DiskAt w d M ok) {bd bn ba bb : Nat} {s : ByteArray} {a nb cb : Nat} {Ab : Option Addr} {b : Bytes}
    (hbd : Box w ok bd (dptr d) 34) (hbn : Box w ok bn (.string s) 9) (hba : Box w ok ba (.int .i64 a) 3) (hbb : Box w ok bb (.slice Ab nb cb) 30)
    (hs : s.size ≤ maxLen) (hsrc : Src w ok Ab nb b) (hnb : 0 < nb) (ha : a + nb ≤ 4194304) (hx : M.fs (nm s) = none)
    {L : List Name} (hL : L.Pairwise (· < ·)) (hm : ∀ x, x ∈ L ↔ (M.fs x).isSome = true) (h16 : L.length < 16) :
    Calls Try.prog 39 #[bptr bd, bptr bn, bptr ba, bptr bb] w fun e w' => e = .returned (.int .i64 0) ∧ Left w d { M with fs := fun y => if y = nm s then some ([], writeB [] a b) else M.fs y } ok w' := by
  obtain ⟨bf, bt, blk, sv, ev, sz, h⟩ := h
  have hsz := h.sz_eq hL hm
  have hl := (h.move (w' := w.drew) (fun _ _ _ => rfl)).look hs
  rw [show blk s.data.toList = none from h.none_ hx] at hl
  simp only [ptrV] at hl
  have hlen := fun ty => PMap.len (h.move (w' := w.drew) (fun _ _ _ => rfl)).hf Try.underlying62 ty
  have hne : ((sz : Int) == 16) = false := by simp; omega
  have h0 := h.c0
  have cd := hbd.cell
  have cn := hbn.cell
  have hW6 : ∀ k, ok k → k < w.heap.size → (((w.alloc (.cells #[.slice none 0 0, .slice none 0 0] 68)).drew).drew).heap[k]? = w.heap[k]? := fun k _ hk => Below.heap_alloc w _ k hk
  obtain ⟨wI, hrun, hP, hturn⟩ := (h.move hW6).hf.store Try.underlying9 Try.underlying62 (s := s) hs (by unfold maxLen; omega) w.heap.size
  have HT := Aside0.mk (And.intro hP hturn)
  have HH0 := Aside0.mk h
  have HLS := Aside0.mk (And.intro hsz h16)
  have hltd : d < w.heap.size := h.lt
  have c1 : ∀ o, (w.alloc o).cell? ⟨bd, 0, none⟩ = some (dptr d) := fun o => (World.cell?_alloc_lt w o ⟨bd, 0, none⟩ (heap_lt hbd.1)).trans cd
  have c2 : ∀ o, (w.alloc o).cell? ⟨bn, 0, none⟩ = some (.string s) := fun o => (World.cell?_alloc_lt w o ⟨bn, 0, none⟩ (heap_lt hbn.1)).trans cn
  have c3 : ∀ o, (w.alloc o).cell? ⟨d, 0, none⟩ = some (.map (some bf)) := fun o => (World.cell?_alloc_lt w o ⟨d, 0, none⟩ hltd).trans h0
  clear h hsz hP hturn hW6 h16 hL hm
  go_enter Try.func39, Try.ntmps39
  go_wp2
  go_region
  go_wp2
  go_region
  go_wp2
  -- TAIL
  obtain ⟨hP, hturn⟩ := HT.out
  have h0' := HH0.out
  have hgr := hturn.grown
  obtain ⟨g, hgeq⟩ : ∃ g, g = w.heap.size := ⟨_, rfl⟩
  obtain ⟨ok1, hok1⟩ : ∃ ok1 : Nat → Prop, ok1 = fun k => ok k ∨ k = w.heap.size := ⟨_, rfl⟩
  have hbf : bf < w.heap.size := h0'.hf.lt
  have hsame : ∀ k, k < w.heap.size → k ≠ bf → wI.heap[k]? = w.heap[k]? := fun k hk hne =>
    (hgr.block k (by show k < (w.heap.push _).size; simp; omega) (fun e => hne (Option.some.inj e))).trans (Below.heap_alloc w _ k hk)
  have hnew : wI.heap[g]? = some (.cells #[.slice none 0 0, .slice none 0 0] 68 (0, 0)) := by
    rw [hgeq]
    refine (hgr.block w.heap.size (by show _ < (w.heap.push _).size; simp) (fun e => ?_)).trans (by show (w.heap.push _)[w.heap.size]? = _; simp)
    have := Option.some.inj e; omega
  have hszI : w.heap.size + 1 ≤ wI.heap.size := by
    have h1 := hgr.size
    have e : (((w.alloc (.cells #[.slice none 0 0, .slice none 0 0] 68)).drew).drew).heap.size = w.heap.size + 1 := by show (w.heap.push _).size = _; exact Array.size_push ..
    rw [e] at h1; exact h1
  have hI := h0'.insert (w1 := wI) (g := g) (ok' := ok1) hx (by rw [hgeq]; exact hP) hnew (by omega) (fun k _ hk hne => hsame k hk hne) (fun k hk => by rw [hok1]; exact .inl hk) (by rw [hok1]; exact .inr hgeq)
  have hboxI : ∀ {b v t}, Box w ok b v t → Box wI ok1 b v t := fun {b v t} hb =>
    ⟨(hsame b (heap_lt hb.1) (fun e => hb.2 (e ▸ h0'.okf))).trans hb.1, by rw [hok1]; rintro (hk | hk); exact hb.2 hk; have := heap_lt hb.1; omega⟩
  have hFr0 : Fr ok w wI := ⟨hgr.os, hgr.tape, hgr.output, by omega, fun k hk hn => hsame k hk (fun e => hn (e ▸ h0'.okf))⟩
  have hsrcI : Src wI ok1 Ab nb b := ⟨hsrc.fr hFr0 (fun _ _ hk => hk), fun ad e => by
    rw [hok1]; rintro (hk | hk)
    · exact hsrc.2 ad e hk
    · obtain ⟨ad', e', hc⟩ := hsrc.1.2.2 hnb
      rw [e] at e'
      obtain rfl := Option.some.inj e'
      have hbl := hsrc.1.1
      obtain ⟨p, l, rfl⟩ : ∃ p l, b = p :: l := by cases b with | nil => simp at hbl; omega | cons p l => exact ⟨_, _, rfl⟩
      obtain ⟨c, hl, hK, hcell⟩ := hc 0 p rfl
      have hcc : c = [Value.int .u8 p] := hK
      subst hcc
      have h3 := World.block_lt_of_cell? _ _ (hcell 0 _ rfl)
      have hb : (ad.add (0 * U8.sz + 0)).block = ad.block := by unfold Addr.add; split <;> rfl
      rw [hb] at h3; omega⟩
  have hbaI := hboxI hba
  have hbbI := hboxI hbb
  obtain ⟨f, hfd⟩ : ∃ f : Bytes × Bytes, f = ([], []) := ⟨_, rfl⟩
  have hf : f.2.length ≤ 4194304 := by rw [hfd]; simp
  have HEND : Aside0 (∀ W, Left wI d { M with fs := fun y => if y = nm s then some (f.1, writeB f.2 a b) else if y = nm s then some ([], []) else M.fs y } ok1 W → Left w d { M with fs := fun y => if y = nm s then some ([], writeB [] a b) else M.fs y } ok W) := ⟨fun W hL => by
    have e : (fun y => if y = nm s then some (f.1, writeB f.2 a b) else if y = nm s then some ([], []) else M.fs y) = fun y => if y = nm s then some ([], writeB [] a b) else M.fs y := by
      funext y; by_cases e : y = nm s
      · simp [e, hfd]
      · simp [e]
    rw [e] at hL
    exact Left.trans (M := M) (fun k hk => by rw [hok1] at hk; rcases hk with hk | hk; exact .inl hk; exact .inr (by omega)) hFr0 hL⟩
  have hgeq' := hgeq.symm
  obtain ⟨M1, hM1⟩ : ∃ M1 : DM, M1 = { M with fs := fun y => if y = nm s then some ([], []) else M.fs y } := ⟨_, rfl⟩
  obtain ⟨blk1, hblk1⟩ : ∃ blk1 : Name → Option Nat, blk1 = fun y => if y = nm s then some g else blk y := ⟨_, rfl⟩
  obtain ⟨sv1, hsv1⟩ : ∃ sv1 : Name → Value, sv1 = fun y => if y = nm s then .slice none 0 0 else sv y := ⟨_, rfl⟩
  obtain ⟨ev1, hev1⟩ : ∃ ev1 : Name → Value, ev1 = fun y => if y = nm s then .slice none 0 0 else ev y := ⟨_, rfl⟩
  obtain ⟨sz1, hsz1⟩ : ∃ sz1 : Nat, sz1 = if (blk s.data.toList).isSome then sz else sz + 1 := ⟨_, rfl⟩
  rw [show ({ M with fs := fun y => if y = nm s then some (f.1, writeB f.2 a b) else if y = nm s then some ([], []) else M.fs y } : DM) = { M1 with fs := fun y => if y = nm s then some (f.1, writeB f.2 a b) else M1.fs y } from by subst hM1; rfl] at HEND
  have hx1 : M1.fs (nm s) = some f := by rw [hM1, hfd]; simp
  have hg : blk1 (nm s) = some g := by rw [hblk1]; simp
  have hI' : DRep wI d M1 ok1 bf bt blk1 sv1 ev1 sz1 := by rw [hM1, hblk1, hsv1, hev1, hsz1]; exact hI
  clear hM1 hblk1 hsv1 hev1 hsz1 hI hboxI hok1 hsrc hba hbb hfd HT HH0 HLS h0' hgr hturn hP hrun hsame hnew hx hFr0
  obtain ⟨hcells, _, hR⟩ := hI'.file _ _ _ hg hx1
  obtain ⟨Ae, ce, hev⟩ := RB.slice hR
  have ca := hbaI.cell
  have cb' := hbbI.cell
  have cg : wI.cell? ⟨g, 1, none⟩ = some (ev1 (nm s)) := cell_of_row wI g 1 _ 68 (0, 0) hcells
  rw [hev] at cg
  have HH := Aside0.mk hI'
  have H := Aside0.mk hx1
  clear hI'
  obtain ⟨w1, hw1⟩ : ∃ w1, w1 = wI := ⟨_, rfl⟩
  rw [hgeq', ← hw1]
  clear hgeq hgeq' hl hlen hne c1 c2 c3 hszI hltd
  replace cg : w1.cell? ⟨g, 1, none⟩ = some (.slice Ae f.2.length ce) := by rw [hw1]; exact cg
  replace ca : w1.cell? ⟨ba, 0, none⟩ = some (.int .i64 a) := by rw [hw1]; exact ca
  replace cb' : w1.cell? ⟨bb, 0, none⟩ = some (.slice Ab nb cb) := by rw [hw1]; exact cb'
  have hfz : w1.frozen? ⟨g, 1, none⟩ = false := by rw [hw1]; exact frozen_of_cells hcells 1
  have hR1 : RB w1.drew ok1 (.slice Ae f.2.length ce) f.2 := by rw [← hev, hw1]; exact R_same hR (fun _ _ => rfl) hR.1
  have hfr : Fr ok1 wI w1 := by rw [hw1]; exact Fr.refl ok1 wI
  have hcells1 : w1.heap[g]? = some (.cells #[sv1 (nm s), .slice Ae f.2.length ce] 68 (0, 0)) := by rw [hw1, ← hev]; exact hcells
  have hrow := fun k hk => cells_ne (w := w1) hcells1 (Exists.choose_spec (R_block (w := w1) (R_same hR1 (fun _ _ => rfl) hR1.1) (k := k) hk)) (by decide)
  have HW1 := Aside0.mk hw1
  clear hw1
  have hsum : IntKind.i64.wrap ((a : Int) + nb) = (a : Int) + nb := IntWalk.i64_in _ (by omega)
  have LG : Calls Try.prog 33 #[.slice Ae f.2.length ce, .int .i64 ((a : Int) + nb)] w1.drew fun e w' => ∃ A2 c2, e = .returned (.slice A2 (padTo f.2 (a + nb)).length c2) ∧
      (RB w' (fun k => ok1 k ∨ w1.heap.size ≤ k) (.slice A2 (padTo f.2 (a + nb)).length c2) (padTo f.2 (a + nb)) ∧ Fr (fun k => (Value.slice Ae f.2.length ce).ownBlock = some k) w1 w' ∧
      (∀ b, (Value.slice A2 (padTo f.2 (a + nb)).length c2).ownBlock = some b → (Value.slice Ae f.2.length ce).ownBlock = some b ∨ w1.heap.size ≤ b)) ∧
      w'.cell? ⟨g, 1, none⟩ = some (.slice Ae f.2.length ce) ∧ w'.frozen? ⟨g, 1, none⟩ = false ∧ w'.cell? ⟨ba, 0, none⟩ = some (.int .i64 a) ∧ w'.cell? ⟨bb, 0, none⟩ = some (.slice Ab nb cb) := by
    have := longer_any (a + nb) hR1 (by omega) (by omega)
    rw [show (((a + nb : Nat)) : Int) = (a : Int) + nb from by omega] at this
    refine this.mono ?_
    rintro e w' ⟨v', rfl, r1, r2, r3⟩
    replace r2 := r2.undrew
    obtain ⟨A2, c2, rfl⟩ := RB.slice r1
    have hg1 : w'.heap[g]? = w1.heap[g]? := r2.block g (heap_lt hcells1) (fun e => hrow g e rfl)
    have hb1 : ∀ {b v t}, Box wI ok1 b v t → w'.heap[b]? = w1.heap[b]? := fun {b v t} hb => r2.block b (by rw [HW1.out]; exact heap_lt hb.1) (fun e => hb.2 (hR1.1 b e))
    refine ⟨A2, c2, rfl, ⟨r1, r2, r3⟩, ?_, ?_, ?_, ?_⟩
    · rw [World.cell?_of_block (a := ⟨g, 1, none⟩) hg1]; exact cg
    · rw [World.frozen?_of_block (a := ⟨g, 1, none⟩) hg1]; exact hfz
    · rw [World.cell?_of_block (a := ⟨ba, 0, none⟩) (hb1 hbaI)]; exact ca
    · rw [World.cell?_of_block (a := ⟨bb, 0, none⟩) (hb1 hbbI)]; exact cb'
  have HLG := Aside0.mk LG
  have HR1 := Aside0.mk hR1
  have HFR := Aside0.mk hfr
  have HC1 := Aside0.mk hcells1
  have HROW := Aside0.mk hrow
  have HHR := Aside0.mk hR
  have HCELLS := Aside0.mk hcells
  have HEV := Aside0.mk hev
  have HGX := Aside0.mk hg
  have HX := Aside0.mk hx1
  clear LG hR1 hfr hcells1 hrow hR hcells hev H hg hx1
  generalize hL2 : (padTo f.2 (a + nb)).length = L2 at *
  generalize hL1 : f.2.length = L1 at *
  have HL2 := Aside0.mk hL2
  have HL1 := Aside0.mk hL1
  clear hL2 hL1
  refine start_ (n := 13) (S := fun w' => w'.cell? ⟨g, 1, none⟩ = some (.slice Ae L1 ce) ∧ w'.cell? ⟨ba, 0, none⟩ = some (.int .i64 a) ∧ w'.cell? ⟨bb, 0, none⟩ = some (.slice Ab nb cb)) (ds := [12]) #[false, false, false, false, false, false, false, false, false, false, false, false, false] (by kernel_rfl) rfl rfl ⟨cg, ca, cb'⟩ (fun hHeld => ?_)
  refine pure_ (i := 0) (N := some 28) (v := ?_) (a' := ?_) #[true, false, false, false, false, false, false, false, false, false, false, false, false] rfl rfl (by kernel_rfl) (fun _ _ _ h => h) (Or.inl ⟨by rfl, ?_⟩) ?_ ?_
  rotate_left
  · intro w'
    go_simp
    with_reducible rfl
  rotate_left
  · simp only [Act.put, List.setIfInBounds_toArray, List.set_cons_zero, List.set_cons_succ, i64_w, i32_w]
    rfl
  refine pure_ (i := 1) (N := some 29) (v := ?_) (a' := ?_) #[true, true, false, false, false, false, false, false, false, false, false, false, false] rfl rfl (by kernel_rfl) (fun _ _ _ h => h) (Or.inl ⟨by rfl, ?_⟩) ?_ ?_
  rotate_left
  · intro w'
    go_simp
    with_reducible rfl
  rotate_left
  · simp only [Act.put, List.setIfInBounds_toArray, List.set_cons_zero, List.set_cons_succ, i64_w, i32_w]
    rfl
  refine pure_ (i := 2) (N := some 30) (v := ?_) (a' := ?_) #[true, true, true, false, false, false, false, false, false, false, false, false, false] rfl rfl (by kernel_rfl) (fun _ _ _ h => h) (Or.inl ⟨by rfl, ?_⟩) ?_ ?_
  rotate_left
  · intro w'
    go_simp
    with_reducible rfl
  rotate_left
  · simp only [Act.put, List.setIfInBounds_toArray, List.set_cons_zero, List.set_cons_succ, i64_w, i32_w]
    rfl
  refine pure_ (i := 3) (N := some 31) (v := ?_) (a' := ?_) #[true, true, true, true, false, false, false, false, false, false, false, false, false] rfl rfl (by kernel_rfl) (fun _ _ _ h => h) (Or.inl ⟨by rfl, ?_⟩) ?_ ?_
  rotate_left
  · intro w'
    go_simp
    with_reducible rfl
  rotate_left
  · simp only [Act.put, List.setIfInBounds_toArray, List.set_cons_zero, List.set_cons_succ, i64_w, i32_w]
    rfl
  refine take_ (i := 4) (N := some 32) (v := ?_) (a' := ?_) #[true, true, true, true, true, false, false, false, false, false, false, false, false] rfl rfl (by kernel_rfl) (fun _ _ _ h => h) (Or.inl ⟨by rfl, ?_⟩) hHeld ?_ ?_
  rotate_left
  · rintro w' ⟨s0, s1, s2⟩
    go_simp
    with_reducible rfl
  rotate_left
  · simp only [Act.put, List.setIfInBounds_toArray, List.set_cons_zero, List.set_cons_succ, i64_w, i32_w]
    rfl
  refine take_ (i := 5) (N := some 33) (v := ?_) (a' := ?_) #[true, true, true, true, true, true, false, false, false, false, false, false, false] rfl rfl (by kernel_rfl) (fun _ _ _ h => h) (Or.inl ⟨by rfl, ?_⟩) hHeld ?_ ?_
  rotate_left
  · rintro w' ⟨s0, s1, s2⟩
    go_simp
    with_reducible rfl
  rotate_left
  · simp only [Act.put, List.setIfInBounds_toArray, List.set_cons_zero, List.set_cons_succ, i64_w, i32_w]
    rfl
  refine take_ (i := 6) (N := some 34) (v := ?_) (a' := ?_) #[true, true, true, true, true, true, true, false, false, false, false, false, false] rfl rfl (by kernel_rfl) (fun _ _ _ h => h) (Or.inl ⟨by rfl, ?_⟩) hHeld ?_ ?_
  rotate_left
  · rintro w' ⟨s0, s1, s2⟩
    go_simp
    with_reducible rfl
  rotate_left
  · simp only [Act.put, List.setIfInBounds_toArray, List.set_cons_zero, List.set_cons_succ, i64_w, i32_w]
    rfl
  refine pure_ (i := 7) (N := some 35) (v := ?_) (a' := ?_) #[true, true, true, true, true, true, true, true, false, false, false, false, false] rfl rfl (by kernel_rfl) (fun _ _ _ h => h) (Or.inl ⟨by rfl, ?_⟩) ?_ ?_
  rotate_left
  · intro w'
    go_simp
    with_reducible rfl
  rotate_left
  · simp only [Act.put, List.setIfInBounds_toArray, List.set_cons_zero, List.set_cons_succ, i64_w, i32_w]
    rfl
  refine pure_ (i := 8) (N := some 36) (v := ?_) (a' := ?_) #[true, true, true, true, true, true, true, true, true, false, false, false, false] rfl rfl (by kernel_rfl) (fun _ _ _ h => h) (Or.inl ⟨by rfl, ?_⟩) ?_ ?_
  rotate_left
  · intro w'
    go_simp
    with_reducible rfl
  rotate_left
  · simp only [Act.put, List.setIfInBounds_toArray, List.set_cons_zero, List.set_cons_succ, i64_w, i32_w]
    rfl
  refine one_ (i := 9) (N := some 37) #[true, true, true, true, true, true, true, true, true, true, false, false, false] rfl rfl (by kernel_rfl) (by decide) (fun K hK => ?_)
  refine goes_ Try.func33 (by kernel_rfl) rfl #[.slice Ae L1 ce, .int .i64 ((a : Int) + nb)] (by rfl) rfl rfl (by simp only [List.map_toArray, List.map_cons, List.map_nil]; rfl) ?_
  refine HLG.out.mono ?_
  rintro e w2 ⟨A2, c2, rfl, hq2, cg2, fz2, ca2, cb2⟩
  have HQ2 := Aside0.mk hq2
  clear hq2
  refine ⟨_, rfl, ?_⟩
  refine hK.out _ _ ⟨cg2, ca2, cb2⟩ (fun hHeld => ?_)
  clear hK K
  refine norm_ (a' := ?_) ?_ ?_
  rotate_left
  · show Act.put _ (some 37) _ = _
    simp only [Act.put, List.setIfInBounds_toArray, List.set_cons_zero, List.set_cons_succ, i64_w, i32_w]
    rfl
  refine pure_ (i := 10) (N := some 38) (v := ?_) (a' := ?_) #[true, true, true, true, true, true, true, true, true, true, true, false, false] rfl rfl (by kernel_rfl) (fun _ _ _ h => h) (Or.inl ⟨by rfl, ?_⟩) ?_ ?_
  rotate_left
  · intro w'
    go_simp
    with_reducible rfl
  rotate_left
  · simp only [Act.put, List.setIfInBounds_toArray, List.set_cons_zero, List.set_cons_succ, i64_w, i32_w]
    rfl
  refine pure_ (i := 11) (N := some 39) (v := ?_) (a' := ?_) #[true, true, true, true, true, true, true, true, true, true, true, true, false] rfl rfl (by kernel_rfl) (fun _ _ _ h => h) (Or.inl ⟨by rfl, ?_⟩) ?_ ?_
  rotate_left
  · intro w'
    go_simp
    with_reducible rfl
  rotate_left
  · simp only [Act.put, List.setIfInBounds_toArray, List.set_cons_zero, List.set_cons_succ, i64_w, i32_w]
    rfl
  refine last_ (i := 12) (N := none) #[true, true, true, true, true, true, true, true, true, true, true, true, true] rfl rfl (by kernel_rfl) (by decide) (fun K hK => ?_)
  refine skip_ (w1 := ?_) (by rfl) rfl ?_ ?_
  rotate_left
  · go_simp
    rfl
  refine hK.out _ _ ?_
  clear hK K
  refine done_ (by kernel_rfl) ?_
  go_wp2
  obtain ⟨hR2, hF2, hat2⟩ := HQ2.out
  -- the world behind the store
  obtain ⟨w3, hw3⟩ : ∃ w3, w3 = w2.setCell ⟨g, 1, none⟩ (.slice A2 L2 c2) := ⟨_, rfl⟩
  rw [← hw3]
  have hfr := HFR.out
  have hcells1 := HC1.out
  have hg2 : w2.heap[g]? = w1.heap[g]? := hF2.block g (heap_lt hcells1) (fun e => HROW.out g e rfl)
  have hg3 : w3.heap[g]? = some (.cells #[sv1 (nm s), .slice A2 L2 c2] 68 (0, 0)) := by rw [hw3]; rw [hcells1] at hg2; simp [World.setCell, Array.getElem?_modify, hg2]
  have hgw : wI.heap[g]? = some (.cells #[sv1 (nm s), .slice Ae L1 ce] 68 (0, 0)) := by rw [← HEV.out]; exact HCELLS.out
  have hF23 : Fr ok1 wI w3 := by
    rw [hw3]
    refine (hfr.trans hF2 (fun k hk => .inl (HR1.out.1 k hk))).set_ (p := ⟨g, 1, none⟩) (.inl (HH.out.okb _ _ HGX.out)) _
  have hbox : ∀ {b v t}, Box wI ok1 b v t → w3.cell? ⟨b, 0, none⟩ = some v := fun hb => hb.fr hF23 (fun _ _ hk => hk)
  have cg3 : w3.cell? ⟨g, 1, none⟩ = some (.slice A2 L2 c2) := cell_of_row w3 g 1 _ 68 (0, 0) hg3
  have ca3 := hbox hbaI
  have cb3 := hbox hbbI
  have hR3 : RB w3 (fun k => ok1 k ∨ w1.heap.size ≤ k) (.slice A2 L2 c2) (padTo f.2 (a + nb)) := by
    refine R_same hR2 (fun k hk => ?_) hR2.1
    rw [hw3]
    refine Below.heap_setCell _ _ _ _ ?_
    rintro rfl
    obtain ⟨cs, hcs⟩ := R_block hR2 hk
    rw [hg2, hcells1] at hcs
    injection hcs with hcs
    injection hcs with _ e
    exact absurd e (by decide)
  have hC3 : U8.C w3 Ab nb b := hsrcI.fr hF23 (fun _ _ hk => hk)
  have hbl : b.length = nb := hC3.1
  obtain ⟨A', m, c', w4, hcut, hcopy, hR4, hg4⟩ := copyB (cb := cb) hR3 a hC3 hnb (by rw [padTo_length]; omega)
  have hcp : ∀ ty, (Builtin.copy_ #[30, 30] ty #[.slice A' m c', .slice Ab nb cb]).run Try.prog w3.drew = .ok (.int .i64 nb) w4.drew := fun ty => hcopy 1 ty
  clear hcopy
  have HRest := Aside0.mk (And.intro hR4 (And.intro hg4 (And.intro hg3 (And.intro hF23 (And.intro hg2 (And.intro hF2 hat2))))))
  have HW3 := Aside0.mk hw3
  clear hw3
  clear hR4 hg4 hR3 hC3 hR2 hF2 hat2 hbox hF23 hgw hg3 hg2 hfr hcells1
  refine start_ (n := 8) (S := fun w' => w'.cell? ⟨g, 1, none⟩ = some (.slice A2 L2 c2) ∧ w'.cell? ⟨ba, 0, none⟩ = some (.int .i64 a) ∧ w'.cell? ⟨bb, 0, none⟩ = some (.slice Ab nb cb)) (ds := [7]) #[false, false, false, false, false, false, false, false] (by kernel_rfl) rfl rfl ⟨cg3, ca3, cb3⟩ (fun hHeld => ?_)
  refine pure_ (i := 0) (N := some 40) (v := ?_) (a' := ?_) #[true, false, false, false, false, false, false, false] rfl rfl (by kernel_rfl) (fun _ _ _ h => h) (Or.inl ⟨by rfl, ?_⟩) ?_ ?_
  rotate_left
  · intro w'
    go_simp
    with_reducible rfl
  rotate_left
  · simp only [Act.put, List.setIfInBounds_toArray, List.set_cons_zero, List.set_cons_succ, i64_w, i32_w]
    rfl
  refine pure_ (i := 1) (N := some 41) (v := ?_) (a' := ?_) #[true, true, false, false, false, false, false, false] rfl rfl (by kernel_rfl) (fun _ _ _ h => h) (Or.inl ⟨by rfl, ?_⟩) ?_ ?_
  rotate_left
  · intro w'
    go_simp
    with_reducible rfl
  rotate_left
  · simp only [Act.put, List.setIfInBounds_toArray, List.set_cons_zero, List.set_cons_succ, i64_w, i32_w]
    rfl
  refine pure_ (i := 2) (N := some 42) (v := ?_) (a' := ?_) #[true, true, true, false, false, false, false, false] rfl rfl (by kernel_rfl) (fun _ _ _ h => h) (Or.inl ⟨by rfl, ?_⟩) ?_ ?_
  rotate_left
  · intro w'
    go_simp
    with_reducible rfl
  rotate_left
  · simp only [Act.put, List.setIfInBounds_toArray, List.set_cons_zero, List.set_cons_succ, i64_w, i32_w]
    rfl
  refine take_ (i := 3) (N := some 43) (v := ?_) (a' := ?_) #[true, true, true, true, false, false, false, false] rfl rfl (by kernel_rfl) (fun _ _ _ h => h) (Or.inl ⟨by rfl, ?_⟩) hHeld ?_ ?_
  rotate_left
  · rintro w' ⟨s0, s1, s2⟩
    go_simp
    with_reducible rfl
  rotate_left
  · simp only [Act.put, List.setIfInBounds_toArray, List.set_cons_zero, List.set_cons_succ, i64_w, i32_w]
    rfl
  refine take_ (i := 4) (N := some 44) (v := ?_) (a' := ?_) #[true, true, true, true, true, false, false, false] rfl rfl (by kernel_rfl) (fun _ _ _ h => h) (Or.inl ⟨by rfl, ?_⟩) hHeld ?_ ?_
  rotate_left
  · rintro w' ⟨s0, s1, s2⟩
    go_simp
    with_reducible rfl
  rotate_left
  · simp only [Act.put, List.setIfInBounds_toArray, List.set_cons_zero, List.set_cons_succ, i64_w, i32_w]
    rfl
  refine pure_ (i := 5) (N := some 45) (v := ?_) (a' := ?_) #[true, true, true, true, true, true, false, false] rfl rfl (by kernel_rfl) (fun _ _ _ h => h) (Or.inl ⟨by rfl, ?_⟩) ?_ ?_
  rotate_left
  · intro w'
    go_simp
    with_reducible rfl
  rotate_left
  · simp only [Act.put, List.setIfInBounds_toArray, List.set_cons_zero, List.set_cons_succ, i64_w, i32_w]
    rfl
  refine take_ (i := 6) (N := some 46) (v := ?_) (a' := ?_) #[true, true, true, true, true, true, true, false] rfl rfl (by kernel_rfl) (fun _ _ _ h => h) (Or.inl ⟨by rfl, ?_⟩) hHeld ?_ ?_
  rotate_left
  · rintro w' ⟨s0, s1, s2⟩
    go_simp
    with_reducible rfl
  rotate_left
  · simp only [Act.put, List.setIfInBounds_toArray, List.set_cons_zero, List.set_cons_succ, i64_w, i32_w]
    rfl
  refine last_ (i := 7) (N := some 47) #[true, true, true, true, true, true, true, true] rfl rfl (by kernel_rfl) (by decide) (fun K hK => ?_)
  refine value_ (v := .int .i64 nb) (w1 := w4.drew) (by rfl) rfl ?_ ?_
  · go_simp
  refine hK.out _ _ ?_
  clear hK K
  refine norm_ (a' := ?_) ?_ ?_
  rotate_left
  · show Act.put _ (some 47) _ = _
    simp only [Act.put, List.setIfInBounds_toArray, List.set_cons_zero, List.set_cons_succ, i64_w, i32_w]
    rfl
  refine done_ (by kernel_rfl) ?_
  go_wp2
  go_ret
  obtain ⟨hR4, hg4, hg3, hF23, hg2, hF2, hat2⟩ := HRest.out
  have hsz : w1.heap.size = wI.heap.size := by rw [HW1.out]
  rw [hsz] at hat2 hR4
  have hold : ∀ k, (Value.slice A2 L2 c2).ownBlock = some k → k ≠ g := by
    rintro k hk rfl
    rcases hat2 k hk with h | h
    · exact HROW.out k h rfl
    · have := heap_lt HCELLS.out; omega
  refine ⟨rfl, HEND.out _ ⟨fun k => ok1 k ∨ wI.heap.size ≤ k, ⟨bf, bt, blk1, sv1, _, sz1, HH.out.setSeen (w1 := w4.drew) (v1 := .slice A2 L2 c2) (l1 := writeB f.2 a b) HGX.out HX.out ?_ ?_ ?_ ?_ (fun k hk => .inl hk)⟩, fun k hk => hk, ?_⟩⟩
  · exact (hg4.block g (heap_lt hg3) (fun e => hold g e.symm rfl)).trans hg3
  · intro k hok hk hne hno
    have e1 : (Value.slice A2 L2 c2).ownBlock ≠ some k := fun e => by
      rcases hat2 k e with h | h
      · rw [HEV.out] at hno; exact hno h
      · omega
    have s1 : w3.heap.size = w2.heap.size := by rw [HW3.out]; simp [World.setCell]
    have s2 : w1.heap.size ≤ w2.heap.size := hF2.size
    refine (hg4.block k (by omega) (fun e => e1 e.symm)).trans ?_
    rw [HW3.out, Below.heap_setCell _ _ _ _ (by exact hne), hF2.block k (by omega) (fun e => hno (by rw [HEV.out]; exact e)), HW1.out]
  · have hbl : b.length = nb := hsrcI.1.1
    have e : writeB f.2 a b = splice (padTo f.2 (a + nb)) a b := by unfold writeB; rw [hbl]
    rw [e]
    exact R_same hR4 (fun _ _ => rfl) hR4.1
  · intro k hk
    rw [HEV.out]
    exact hat2 k hk
  · refine (hF23.grown hg4 (fun k hk => ?_)).drew
    rcases hat2 k hk with h | h
    · exact .inl (HR1.out.1 k h)
    · exact .inr h
end Go.Proofs.Ytgpniaplpibhfaa

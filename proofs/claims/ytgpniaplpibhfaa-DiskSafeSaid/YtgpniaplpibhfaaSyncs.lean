/-
  The walk of Truncate's closure.
-/
import Derived.Test.YtgpniaplpibhfaaStroke
namespace Go.Proofs.Ytgpniaplpibhfaa
open Go.RowKit Go.Maps Go.Proofs.YtgpniaplpibhfaaW.PrintWords Go.Proofs.YtgpniaplpibhfaaW.PrintLast Go.Proofs.YtgpniaplpibhfaaW.PrintMore
open Go.Proofs.Ytgpniaplpibhfaa.PDiskSafe
set_option linter.unusedVariables false
set_option linter.unusedSimpArgs false

/-- n bytes, with noughts behind -/
def cutTo (l : Bytes) (n : Nat) : Bytes := padTo (l.take n) n
theorem cutTo_length (l : Bytes) (n : Nat) : (cutTo l n).length = n := by unfold cutTo; rw [padTo_length]; simp; omega

theorem run_slice_full (A : Option Addr) (n c : Nat) (k : Nat) (hk : k ≤ n) (hc : n ≤ c) (W : World) :
    (Instr.slice 30 (.slice A n c) none (some (.int .i64 k)) (some (.int .i64 k))).run Try.prog W = .ok (.slice A k k) W := by
  obtain ⟨i5, hi, hz⟩ := Option.map_eq_some_iff.1 info5
  have ha : (A.map fun x => x.add 0) = A := by cases A <;> simp [Addr.add]
  have h1 : (k : Int) ≤ (c : Int) := by omega
  have h2 : k ≤ c := by omega
  simp [Instr.slice, run_underlying Try.underlying30, Instr.sliceBounds, Instr.sliceBound, asIntOf, h1, h2, sizeOf, typeInfo, hi, ha]

theorem trunc_none {w : World} {d : Nat} {M : DM} {ok : Nat → Prop} (h : DiskAt w d M ok) {bd bn ba : Nat} {s : ByteArray}
    (hbd : Box w ok bd (dptr d) 34) (hbn : Box w ok bn (.string s) 9) (hs : s.size ≤ maxLen) (hx : M.fs (nm s) = none) :
    Calls Try.prog 32 #[bptr bd, bptr bn, bptr ba] w fun e w' => e = .returned (.int .i64 2) ∧ Left w d M ok w' := by
  have HD := Aside0.mk h
  obtain ⟨bf, bt, blk, sv, ev, sz, h⟩ := h
  have hl := (h.move (w' := w.drew) (fun _ _ _ => rfl)).look hs
  rw [show blk s.data.toList = none from h.none_ hx] at hl
  simp only [ptrV] at hl
  have h0 := h.c0
  have cd := hbd.cell
  have cn := hbn.cell
  clear h hs hx
  go_enter Try.func32, Try.ntmps32
  go_wp2
  go_region
  go_wp2
  go_ret
  exact ⟨rfl, (Left.same HD.out).drewN 1⟩

set_option maxRecDepth 100000 in
theorem trunc_old {w : World} {d : Nat} {M : DM} {ok : Nat → Prop} (h : DiskAt w d M ok) {bd bn ba : Nat} {s : ByteArray} {a : Nat} {f : Bytes × Bytes}
    (hbd : Box w ok bd (dptr d) 34) (hbn : Box w ok bn (.string s) 9) (hba : Box w ok ba (.int .i64 a) 3)
    (hs : s.size ≤ maxLen) (ha : a ≤ 4194304) (hx : M.fs (nm s) = some f) (hf : f.2.length ≤ 4194304) :
    Calls Try.prog 32 #[bptr bd, bptr bn, bptr ba] w fun e w' => e = .returned (.int .i64 0) ∧ Left w d { M with fs := fun y => if y = nm s then some (f.1, cutTo f.2 a) else M.fs y } ok w' := by
  obtain ⟨bf, bt, blk, sv, ev, sz, h⟩ := h
  obtain ⟨g, hg⟩ := h.some_ hx
  obtain ⟨hcells, _, hR⟩ := h.file _ _ _ hg hx
  have hl := (h.move (w' := w.drew) (fun _ _ _ => rfl)).look hs
  rw [show blk s.data.toList = some g from hg] at hl
  simp only [ptrV] at hl
  have h0 := h.c0
  have cd := hbd.cell
  have cn := hbn.cell
  have ca := hba.cell
  have cg : w.cell? ⟨g, 1, none⟩ = some (ev (nm s)) := cell_of_row w g 1 _ 68 (0, 0) hcells
  obtain ⟨k, hk⟩ : ∃ k : Nat, k = Nat.min a f.2.length := ⟨_, rfl⟩
  have hkl : k ≤ f.2.length := by rw [hk]; exact Nat.min_le_right _ _
  obtain ⟨Ae, ce, hev, hRk, hce⟩ := hR.cut k hkl
  have htk : f.2.take k = f.2.take a := by
    rcases Nat.le_total a f.2.length with hle | hle
    · rw [hk, show Nat.min a f.2.length = a from Nat.min_eq_left hle]
    · rw [hk, show Nat.min a f.2.length = f.2.length from Nat.min_eq_right hle, List.take_of_length_le (Nat.le_refl _), List.take_of_length_le hle]
  rw [htk] at hRk
  have hki : min (a : Int) (f.2.length : Int) = (k : Int) := by rw [hk]; show min (a : Int) (f.2.length : Int) = ((min a f.2.length : Nat) : Int); omega
  have HH := Aside0.mk h
  clear h
  rw [hev] at cg
  go_enter Try.func32, Try.ntmps32
  go_wp2
  go_region
  clear hl
  go_wp2
  obtain ⟨w1, hw1⟩ : ∃ w1, w1 = w.drew := ⟨_, rfl⟩
  rw [← hw1]
  replace cg : w1.cell? ⟨g, 1, none⟩ = some (.slice Ae f.2.length ce) := by rw [hw1]; exact cg
  replace ca : w1.cell? ⟨ba, 0, none⟩ = some (.int .i64 a) := by rw [hw1]; exact ca
  have hfz : w1.frozen? ⟨g, 1, none⟩ = false := by rw [hw1]; exact frozen_of_cells hcells 1
  have hR1 : RB w1.drew ok (.slice Ae k k) (f.2.take a) := by rw [hw1]; exact R_same hRk (fun _ _ => rfl) hRk.1
  have hfr : Fr ok w w1 := by rw [hw1]; exact (Fr.refl ok w).drew
  have hcells1 : w1.heap[g]? = some (.cells #[sv (nm s), .slice Ae f.2.length ce] 68 (0, 0)) := by rw [hw1, ← hev]; exact hcells
  have hrow := fun k' hk' => cells_ne (w := w1) hcells1 (Exists.choose_spec (R_block (w := w1) (R_same hR1 (fun _ _ => rfl) hR1.1) (k := k') hk')) (by decide)
  have HW1 := Aside0.mk hw1
  clear hw1
  have hown : (Value.slice Ae f.2.length ce).ownBlock = (Value.slice Ae k k).ownBlock := by cases Ae <;> rfl
  have LG : Calls Try.prog 33 #[.slice Ae k k, .int .i64 a] w1.drew fun e w' => ∃ A2 c2, e = .returned (.slice A2 a c2) ∧
      (RB w' (fun k => ok k ∨ w1.heap.size ≤ k) (.slice A2 a c2) (cutTo f.2 a) ∧ Fr (fun k' => (Value.slice Ae k k).ownBlock = some k') w1 w' ∧
      (∀ b, (Value.slice A2 a c2).ownBlock = some b → (Value.slice Ae k k).ownBlock = some b ∨ w1.heap.size ≤ b)) ∧
      w'.cell? ⟨g, 1, none⟩ = some (.slice Ae f.2.length ce) ∧ w'.frozen? ⟨g, 1, none⟩ = false ∧ w'.cell? ⟨ba, 0, none⟩ = some (.int .i64 a) := by
    have := longer_any a hR1 (by simp; omega) (by omega)
    refine this.mono ?_
    rintro e w' ⟨v', rfl, r1, r2, r3⟩
    replace r2 := r2.undrew
    obtain ⟨A2, c2, rfl⟩ := RB.slice r1
    have hg1 : w'.heap[g]? = w1.heap[g]? := r2.block g (heap_lt hcells1) (fun e => hrow g e rfl)
    have hb1 : ∀ {b v t}, Box w ok b v t → w'.heap[b]? = w1.heap[b]? := fun {b v t} hb => r2.block b (by rw [HW1.out]; exact heap_lt hb.1) (fun e => hb.2 (hR1.1 b e))
    have hln : (padTo (f.2.take a) a).length = a := cutTo_length f.2 a
    rw [hln] at r1 r3 ⊢
    refine ⟨A2, c2, rfl, ⟨r1, r2, r3⟩, ?_, ?_, ?_⟩
    · rw [World.cell?_of_block (a := ⟨g, 1, none⟩) hg1]; exact cg
    · rw [World.frozen?_of_block (a := ⟨g, 1, none⟩) hg1]; exact hfz
    · rw [World.cell?_of_block (a := ⟨ba, 0, none⟩) (hb1 hba)]; exact ca
  have hcut := fun W => run_slice_full Ae f.2.length ce k hkl hce W
  have HLG := Aside0.mk LG
  have HR1 := Aside0.mk hR1
  have HFR := Aside0.mk hfr
  have HC1 := Aside0.mk hcells1
  have HROW := Aside0.mk hrow
  have HCELLS := Aside0.mk hcells
  have HEV := Aside0.mk hev
  have HGX := Aside0.mk hg
  have HX := Aside0.mk hx
  have HRK := Aside0.mk hRk
  have HOWN := Aside0.mk hown
  clear LG hR1 hfr hcells1 hrow hR hcells hev hg hx hRk hk hkl htk hce hown
  generalize hK0 : k = K0 at *
  generalize hL1 : f.2.length = L1 at *
  have HL1 := Aside0.mk hL1
  clear hL1 hK0
  refine start_ (n := 25) (S := fun w' => w'.cell? ⟨g, 1, none⟩ = some (.slice Ae L1 ce) ∧ w'.cell? ⟨ba, 0, none⟩ = some (.int .i64 a)) (ds := [24]) #[false, false, false, false, false, false, false, false, false, false, false, false, false, false, false, false, false, false, false, false, false, false, false, false, false] (by kernel_rfl) rfl rfl ⟨cg, ca⟩ (fun hHeld => ?_)
  refine pure_ (i := 0) (N := some 13) (v := ?_) (a' := ?_) #[true, false, false, false, false, false, false, false, false, false, false, false, false, false, false, false, false, false, false, false, false, false, false, false, false] rfl rfl (by kernel_rfl) (fun _ _ _ h => h) (Or.inl ⟨by rfl, ?_⟩) ?_ ?_
  rotate_left
  · intro w'
    go_simp
    with_reducible rfl
  rotate_left
  · simp only [Act.put, List.setIfInBounds_toArray, List.set_cons_zero, List.set_cons_succ, i64_w, i32_w]
    rfl
  refine pure_ (i := 1) (N := some 14) (v := ?_) (a' := ?_) #[true, true, false, false, false, false, false, false, false, false, false, false, false, false, false, false, false, false, false, false, false, false, false, false, false] rfl rfl (by kernel_rfl) (fun _ _ _ h => h) (Or.inl ⟨by rfl, ?_⟩) ?_ ?_
  rotate_left
  · intro w'
    go_simp
    with_reducible rfl
  rotate_left
  · simp only [Act.put, List.setIfInBounds_toArray, List.set_cons_zero, List.set_cons_succ, i64_w, i32_w]
    rfl
  refine pure_ (i := 2) (N := some 15) (v := ?_) (a' := ?_) #[true, true, true, false, false, false, false, false, false, false, false, false, false, false, false, false, false, false, false, false, false, false, false, false, false] rfl rfl (by kernel_rfl) (fun _ _ _ h => h) (Or.inl ⟨by rfl, ?_⟩) ?_ ?_
  rotate_left
  · intro w'
    go_simp
    with_reducible rfl
  rotate_left
  · simp only [Act.put, List.setIfInBounds_toArray, List.set_cons_zero, List.set_cons_succ, i64_w, i32_w]
    rfl
  refine pure_ (i := 3) (N := some 16) (v := ?_) (a' := ?_) #[true, true, true, true, false, false, false, false, false, false, false, false, false, false, false, false, false, false, false, false, false, false, false, false, false] rfl rfl (by kernel_rfl) (fun _ _ _ h => h) (Or.inl ⟨by rfl, ?_⟩) ?_ ?_
  rotate_left
  · intro w'
    go_simp
    with_reducible rfl
  rotate_left
  · simp only [Act.put, List.setIfInBounds_toArray, List.set_cons_zero, List.set_cons_succ, i64_w, i32_w]
    rfl
  refine take_ (i := 4) (N := some 17) (v := ?_) (a' := ?_) #[true, true, true, true, true, false, false, false, false, false, false, false, false, false, false, false, false, false, false, false, false, false, false, false, false] rfl rfl (by kernel_rfl) (fun _ _ _ h => h) (Or.inl ⟨by rfl, ?_⟩) hHeld ?_ ?_
  rotate_left
  · rintro w' ⟨s0, s1⟩
    go_simp
    with_reducible rfl
  rotate_left
  · simp only [Act.put, List.setIfInBounds_toArray, List.set_cons_zero, List.set_cons_succ, i64_w, i32_w]
    rfl
  refine take_ (i := 5) (N := some 18) (v := ?_) (a' := ?_) #[true, true, true, true, true, true, false, false, false, false, false, false, false, false, false, false, false, false, false, false, false, false, false, false, false] rfl rfl (by kernel_rfl) (fun _ _ _ h => h) (Or.inl ⟨by rfl, ?_⟩) hHeld ?_ ?_
  rotate_left
  · rintro w' ⟨s0, s1⟩
    go_simp
    with_reducible rfl
  rotate_left
  · simp only [Act.put, List.setIfInBounds_toArray, List.set_cons_zero, List.set_cons_succ, i64_w, i32_w]
    rfl
  refine pure_ (i := 6) (N := some 19) (v := ?_) (a' := ?_) #[true, true, true, true, true, true, true, false, false, false, false, false, false, false, false, false, false, false, false, false, false, false, false, false, false] rfl rfl (by kernel_rfl) (fun _ _ _ h => h) (Or.inl ⟨by rfl, ?_⟩) ?_ ?_
  rotate_left
  · intro w'
    go_simp
    with_reducible rfl
  rotate_left
  · simp only [Act.put, List.setIfInBounds_toArray, List.set_cons_zero, List.set_cons_succ, i64_w, i32_w]
    rfl
  refine pure_ (i := 7) (N := some 20) (v := ?_) (a' := ?_) #[true, true, true, true, true, true, true, true, false, false, false, false, false, false, false, false, false, false, false, false, false, false, false, false, false] rfl rfl (by kernel_rfl) (fun _ _ _ h => h) (Or.inl ⟨by rfl, ?_⟩) ?_ ?_
  rotate_left
  · intro w'
    go_simp
    with_reducible rfl
  rotate_left
  · simp only [Act.put, List.setIfInBounds_toArray, List.set_cons_zero, List.set_cons_succ, i64_w, i32_w]
    rfl
  refine pure_ (i := 8) (N := some 21) (v := ?_) (a' := ?_) #[true, true, true, true, true, true, true, true, true, false, false, false, false, false, false, false, false, false, false, false, false, false, false, false, false] rfl rfl (by kernel_rfl) (fun _ _ _ h => h) (Or.inl ⟨by rfl, ?_⟩) ?_ ?_
  rotate_left
  · intro w'
    go_simp
    with_reducible rfl
  rotate_left
  · simp only [Act.put, List.setIfInBounds_toArray, List.set_cons_zero, List.set_cons_succ, i64_w, i32_w]
    rfl
  refine take_ (i := 9) (N := some 22) (v := ?_) (a' := ?_) #[true, true, true, true, true, true, true, true, true, true, false, false, false, false, false, false, false, false, false, false, false, false, false, false, false] rfl rfl (by kernel_rfl) (fun _ _ _ h => h) (Or.inl ⟨by rfl, ?_⟩) hHeld ?_ ?_
  rotate_left
  · rintro w' ⟨s0, s1⟩
    go_simp
    with_reducible rfl
  rotate_left
  · simp only [Act.put, List.setIfInBounds_toArray, List.set_cons_zero, List.set_cons_succ, i64_w, i32_w]
    rfl
  refine pure_ (i := 10) (N := some 23) (v := ?_) (a' := ?_) #[true, true, true, true, true, true, true, true, true, true, true, false, false, false, false, false, false, false, false, false, false, false, false, false, false] rfl rfl (by kernel_rfl) (fun _ _ _ h => h) (Or.inl ⟨by rfl, ?_⟩) ?_ ?_
  rotate_left
  · intro w'
    go_simp
    with_reducible rfl
  rotate_left
  · simp only [Act.put, List.setIfInBounds_toArray, List.set_cons_zero, List.set_cons_succ, i64_w, i32_w]
    rfl
  refine pure_ (i := 11) (N := some 24) (v := ?_) (a' := ?_) #[true, true, true, true, true, true, true, true, true, true, true, true, false, false, false, false, false, false, false, false, false, false, false, false, false] rfl rfl (by kernel_rfl) (fun _ _ _ h => h) (Or.inl ⟨by rfl, ?_⟩) ?_ ?_
  rotate_left
  · intro w'
    go_simp
    with_reducible rfl
  rotate_left
  · simp only [Act.put, List.setIfInBounds_toArray, List.set_cons_zero, List.set_cons_succ, i64_w, i32_w]
    rfl
  refine take_ (i := 12) (N := some 25) (v := ?_) (a' := ?_) #[true, true, true, true, true, true, true, true, true, true, true, true, true, false, false, false, false, false, false, false, false, false, false, false, false] rfl rfl (by kernel_rfl) (fun _ _ _ h => h) (Or.inl ⟨by rfl, ?_⟩) hHeld ?_ ?_
  rotate_left
  · rintro w' ⟨s0, s1⟩
    go_simp
    with_reducible rfl
  rotate_left
  · simp only [Act.put, List.setIfInBounds_toArray, List.set_cons_zero, List.set_cons_succ, i64_w, i32_w]
    rfl
  refine pure_ (i := 13) (N := some 26) (v := ?_) (a' := ?_) #[true, true, true, true, true, true, true, true, true, true, true, true, true, true, false, false, false, false, false, false, false, false, false, false, false] rfl rfl (by kernel_rfl) (fun _ _ _ h => h) (Or.inl ⟨by rfl, ?_⟩) ?_ ?_
  rotate_left
  · intro w'
    go_simp
    with_reducible rfl
  rotate_left
  · simp only [Act.put, List.setIfInBounds_toArray, List.set_cons_zero, List.set_cons_succ, i64_w, i32_w]
    rfl
  refine pure_ (i := 14) (N := some 27) (v := ?_) (a' := ?_) #[true, true, true, true, true, true, true, true, true, true, true, true, true, true, true, false, false, false, false, false, false, false, false, false, false] rfl rfl (by kernel_rfl) (fun _ _ _ h => h) (Or.inl ⟨by rfl, ?_⟩) ?_ ?_
  rotate_left
  · intro w'
    go_simp
    with_reducible rfl
  rotate_left
  · simp only [Act.put, List.setIfInBounds_toArray, List.set_cons_zero, List.set_cons_succ, i64_w, i32_w]
    rfl
  refine pure_ (i := 15) (N := some 28) (v := ?_) (a' := ?_) #[true, true, true, true, true, true, true, true, true, true, true, true, true, true, true, true, false, false, false, false, false, false, false, false, false] rfl rfl (by kernel_rfl) (fun _ _ _ h => h) (Or.inl ⟨by rfl, ?_⟩) ?_ ?_
  rotate_left
  · intro w'
    go_simp
    with_reducible rfl
  rotate_left
  · simp only [Act.put, List.setIfInBounds_toArray, List.set_cons_zero, List.set_cons_succ, i64_w, i32_w]
    rfl
  refine take_ (i := 16) (N := some 29) (v := ?_) (a' := ?_) #[true, true, true, true, true, true, true, true, true, true, true, true, true, true, true, true, true, false, false, false, false, false, false, false, false] rfl rfl (by kernel_rfl) (fun _ _ _ h => h) (Or.inl ⟨by rfl, ?_⟩) hHeld ?_ ?_
  rotate_left
  · rintro w' ⟨s0, s1⟩
    go_simp
    with_reducible rfl
  rotate_left
  · simp only [Act.put, List.setIfInBounds_toArray, List.set_cons_zero, List.set_cons_succ, i64_w, i32_w]
    rfl
  refine pure_ (i := 17) (N := some 30) (v := ?_) (a' := ?_) #[true, true, true, true, true, true, true, true, true, true, true, true, true, true, true, true, true, true, false, false, false, false, false, false, false] rfl rfl (by kernel_rfl) (fun _ _ _ h => h) (Or.inl ⟨by rfl, ?_⟩) ?_ ?_
  rotate_left
  · intro w'
    go_simp
    with_reducible rfl
  rotate_left
  · simp only [Act.put, List.setIfInBounds_toArray, List.set_cons_zero, List.set_cons_succ, i64_w, i32_w]
    rfl
  refine pure_ (i := 18) (N := some 31) (v := ?_) (a' := ?_) #[true, true, true, true, true, true, true, true, true, true, true, true, true, true, true, true, true, true, true, false, false, false, false, false, false] rfl rfl (by kernel_rfl) (fun _ _ _ h => h) (Or.inl ⟨by rfl, ?_⟩) ?_ ?_
  rotate_left
  · intro w'
    go_simp
    with_reducible rfl
  rotate_left
  · simp only [Act.put, List.setIfInBounds_toArray, List.set_cons_zero, List.set_cons_succ, i64_w, i32_w]
    rfl
  refine pure_ (i := 19) (N := some 32) (v := ?_) (a' := ?_) #[true, true, true, true, true, true, true, true, true, true, true, true, true, true, true, true, true, true, true, true, false, false, false, false, false] rfl rfl (by kernel_rfl) (fun _ _ _ h => h) (Or.inl ⟨by rfl, ?_⟩) ?_ ?_
  rotate_left
  · intro w'
    go_simp
    with_reducible rfl
  rotate_left
  · simp only [Act.put, List.setIfInBounds_toArray, List.set_cons_zero, List.set_cons_succ, i64_w, i32_w]
    rfl
  refine take_ (i := 20) (N := some 33) (v := ?_) (a' := ?_) #[true, true, true, true, true, true, true, true, true, true, true, true, true, true, true, true, true, true, true, true, true, false, false, false, false] rfl rfl (by kernel_rfl) (fun _ _ _ h => h) (Or.inl ⟨by rfl, ?_⟩) hHeld ?_ ?_
  rotate_left
  · rintro w' ⟨s0, s1⟩
    go_simp
    with_reducible rfl
  rotate_left
  · simp only [Act.put, List.setIfInBounds_toArray, List.set_cons_zero, List.set_cons_succ, i64_w, i32_w]
    rfl
  refine one_ (i := 21) (N := some 34) #[true, true, true, true, true, true, true, true, true, true, true, true, true, true, true, true, true, true, true, true, true, true, false, false, false] rfl rfl (by kernel_rfl) (by decide) (fun K hK => ?_)
  refine goes_ Try.func33 (by kernel_rfl) rfl #[.slice Ae K0 K0, .int .i64 a] (by rfl) rfl rfl (by simp only [List.map_toArray, List.map_cons, List.map_nil]; rfl) ?_
  refine HLG.out.mono ?_
  rintro e w2 ⟨A2, c2, rfl, hq2, cg2, fz2, ca2⟩
  have HQ2 := Aside0.mk hq2
  clear hq2
  refine ⟨_, rfl, ?_⟩
  refine hK.out _ _ ⟨cg2, ca2⟩ (fun hHeld => ?_)
  clear hK K
  refine norm_ (a' := ?_) ?_ ?_
  rotate_left
  · show Act.put _ (some 34) _ = _
    simp only [Act.put, List.setIfInBounds_toArray, List.set_cons_zero, List.set_cons_succ, i64_w, i32_w]
    rfl
  refine pure_ (i := 22) (N := some 35) (v := ?_) (a' := ?_) #[true, true, true, true, true, true, true, true, true, true, true, true, true, true, true, true, true, true, true, true, true, true, true, false, false] rfl rfl (by kernel_rfl) (fun _ _ _ h => h) (Or.inl ⟨by rfl, ?_⟩) ?_ ?_
  rotate_left
  · intro w'
    go_simp
    with_reducible rfl
  rotate_left
  · simp only [Act.put, List.setIfInBounds_toArray, List.set_cons_zero, List.set_cons_succ, i64_w, i32_w]
    rfl
  refine pure_ (i := 23) (N := some 36) (v := ?_) (a' := ?_) #[true, true, true, true, true, true, true, true, true, true, true, true, true, true, true, true, true, true, true, true, true, true, true, true, false] rfl rfl (by kernel_rfl) (fun _ _ _ h => h) (Or.inl ⟨by rfl, ?_⟩) ?_ ?_
  rotate_left
  · intro w'
    go_simp
    with_reducible rfl
  rotate_left
  · simp only [Act.put, List.setIfInBounds_toArray, List.set_cons_zero, List.set_cons_succ, i64_w, i32_w]
    rfl
  refine last_ (i := 24) (N := none) #[true, true, true, true, true, true, true, true, true, true, true, true, true, true, true, true, true, true, true, true, true, true, true, true, true] rfl rfl (by kernel_rfl) (by decide) (fun K hK => ?_)
  refine skip_ (w1 := ?_) (by rfl) rfl ?_ ?_
  rotate_left
  · go_simp
    rfl
  refine hK.out _ _ ?_
  clear hK K
  refine done_ (by kernel_rfl) ?_
  go_wp2
  go_ret
  obtain ⟨hR2, hF2, hat2⟩ := HQ2.out
  have hcells1 := HC1.out
  have hg2 : w2.heap[g]? = w1.heap[g]? := hF2.block g (heap_lt hcells1) (fun e => HROW.out g e rfl)
  have hsz : w1.heap.size = w.heap.size := by rw [HW1.out]; rfl
  rw [hsz] at hat2 hR2
  refine ⟨rfl, fun k => ok k ∨ w.heap.size ≤ k, ⟨bf, bt, blk, sv, _, sz, HH.out.setSeen (w1 := w2.setCell ⟨g, 1, none⟩ (.slice A2 a c2)) (v1 := .slice A2 a c2) (l1 := cutTo f.2 a) HGX.out HX.out ?_ ?_ ?_ ?_ (fun k hk => .inl hk)⟩, fun k hk => hk, ?_⟩
  · rw [hcells1] at hg2; simp [World.setCell, Array.getElem?_modify, hg2]
  · intro k' hok hk' hne hno
    rw [Below.heap_setCell _ _ _ _ (by exact hne), hF2.block k' (by omega) (fun e => hno (by rw [HEV.out, HOWN.out]; exact e)), HW1.out]
    rfl
  · refine R_same hR2 (fun k' hk' => ?_) hR2.1
    refine Below.heap_setCell _ _ _ _ ?_
    rintro rfl
    obtain ⟨cs, hcs⟩ := R_block hR2 hk'
    rw [hg2, hcells1] at hcs
    injection hcs with hcs
    injection hcs with _ e
    exact absurd e (by decide)
  · intro k' hk'
    rw [HEV.out, HOWN.out]
    exact hat2 k' hk'
  · exact (HFR.out.trans hF2 (fun k' hk' => .inl (HR1.out.1 k' hk'))).set_ (p := ⟨g, 1, none⟩) (.inl (HH.out.okb _ _ HGX.out)) _
end Go.Proofs.Ytgpniaplpibhfaa

/-
  The walks of Sync's closures and of Delete's.
-/
namespace Go.Proofs.Ytgpniaplpibhfaa
open Go.RowKit Go.Maps Go.Proofs.YtgpniaplpibhfaaW.PrintWords Go.Proofs.YtgpniaplpibhfaaW.PrintLast Go.Proofs.YtgpniaplpibhfaaW.PrintMore
open Go.Proofs.Ytgpniaplpibhfaa.PDiskSafe
set_option linter.unusedVariables false
set_option linter.unusedSimpArgs false

section
variable {w : World} {d : Nat} {M : DM} {ok : Nat → Prop} {bd bn : Nat} {s : ByteArray}

theorem sync_none (h : DiskAt w d M ok) (hbd : Box w ok bd (dptr d) 34) (hbn : Box w ok bn (.string s) 9) (hs : s.size ≤ maxLen) (hx : M.fs (nm s) = none) :
    Calls Try.prog 35 #[bptr bd, bptr bn] w fun e w' => e = .returned (.int .i64 2) ∧ Left w d M ok w' := by
  have HD := Aside0.mk h
  have cd := hbd.cell
  have cn := hbn.cell
  clear h
  go_enter Try.func35, Try.ntmps35
  go_wp2_with (go_at_call 36; refine (there_no HD.out hs hx).mono ?_; rintro e w' ⟨rfl, rfl⟩)
  go_ret
  exact ⟨rfl, Left.same HD.out⟩
theorem sync_some (h : DiskAt w d M ok) (hbd : Box w ok bd (dptr d) 34) (hbn : Box w ok bn (.string s) 9) (hs : s.size ≤ maxLen) {f : Bytes × Bytes} (hx : M.fs (nm s) = some f) :
    Calls Try.prog 35 #[bptr bd, bptr bn] w fun e w' => e = .returned (.int .i64 0) ∧ Left w d M ok w' := by
  have HD := Aside0.mk h
  have cd := hbd.cell
  have cn := hbn.cell
  clear h
  go_enter Try.func35, Try.ntmps35
  go_wp2_with (go_at_call 36; refine (there_yes HD.out hs hx).mono ?_; rintro e w' ⟨rfl, rfl⟩)
  go_ret
  exact ⟨rfl, Left.same HD.out⟩

set_option maxRecDepth 100000 in
theorem sync_safe (h : DiskAt w d M ok) (hbd : Box w ok bd (dptr d) 34) (hbn : Box w ok bn (.string s) 9) (hs : s.size ≤ maxLen) {f : Bytes × Bytes} (hx : M.fs (nm s) = some f) (hf : f.2.length ≤ 4194304) :
    Calls Try.prog 37 #[bptr bd, bptr bn] w fun e w' => (∃ v, e = .returned v) ∧ Left w d { M with fs := fun y => if y = nm s then some (f.2, f.2) else M.fs y } ok w' := by
  obtain ⟨bf, bt, blk, sv, ev, sz, h⟩ := h
  obtain ⟨g, hg⟩ := h.some_ hx
  obtain ⟨hcells, _, hR⟩ := h.file _ _ _ hg hx
  have hl := (h.move (w' := w.drew) (fun _ _ _ => rfl)).look hs
  rw [show blk s.data.toList = some g from hg] at hl
  simp only [ptrV] at hl
  have h0 := h.c0
  have cd := hbd.cell
  have cn := hbn.cell
  have cg : w.cell? ⟨g, 1, none⟩ = some (ev (nm s)) := cell_of_row w g 1 _ 68 (0, 0) hcells
  obtain ⟨Ae, ce, hev, _, hC⟩ := hR.reads
  have hfz : w.frozen? ⟨g, 0, none⟩ = false := frozen_of_cells hcells 0
  have hzero : w.cell? ⟨g, 0, none⟩ = some (sv (nm s)) := cell_of_row w g 0 _ 68 (0, 0) hcells
  have HH := Aside0.mk h
  have HC := Aside0.mk (C_drewN hC 1)
  have HX := Aside0.mk hx
  have HG := Aside0.mk hg
  have HCELLS := Aside0.mk hcells
  have HF := Aside0.mk hf
  rw [hev] at cg
  clear h hC hx hcells hf hg hR
  generalize hL1 : f.2.length = L1 at *
  have HL1 := Aside0.mk hL1
  clear hL1
  go_enter Try.func37, Try.ntmps37
  go_wp2
  go_region
  have HL : Calls Try.prog 27 #[.slice Ae L1 ce] w.drew fun e w' => ∃ A2 c2, e = .returned (.slice A2 L1 c2) ∧ (RB w' (fun k => w.heap.size ≤ k) (.slice A2 L1 c2) f.2 ∧ Below w.heap.size w w') ∧ w'.cell? ⟨g, 0, none⟩ = some (sv (nm s)) ∧ w'.frozen? ⟨g, 0, none⟩ = false := by
    refine (clone_any Ae L1 ce f.2 w.drew (by have := HF.out; unfold roomy; omega) HC.out).mono ?_
    rintro e w' ⟨v, rfl, h1, h2⟩
    replace h2 : Below w.heap.size w w' := ⟨h2.os, h2.tape, h2.output, h2.size, h2.block⟩
    have h3 := RB.of_R h1
    obtain ⟨A2, c2, rfl⟩ := h3.slice
    rw [HL1.out] at h3 ⊢
    have hg1 := h2.block g (heap_lt HCELLS.out)
    exact ⟨A2, c2, rfl, ⟨h3, h2⟩, (World.cell?_of_block (a := ⟨g, 0, none⟩) hg1).trans hzero, (World.frozen?_of_block (a := ⟨g, 0, none⟩) hg1).trans hfz⟩
  have HLC := Aside0.mk HL
  clear HL hl
  go_wp2_with (go_at_call 27; refine HLC.out.mono ?_; rintro e w2 ⟨A2, c2, rfl, hq2, cg2, fz2⟩; have HQ2 := Aside0.mk hq2; clear hq2)
  go_end0
  obtain ⟨hR2, hB2⟩ := HQ2.out
  have hg2 : w2.heap[g]? = w.heap[g]? := hB2.block g (heap_lt HCELLS.out)
  refine ⟨⟨_, rfl⟩, fun k => ok k ∨ w.heap.size ≤ k, ⟨bf, bt, blk, _, ev, sz, HH.out.setSafe (w1 := w2.setCell ⟨g, 0, none⟩ (.slice A2 L1 c2)) (v1 := .slice A2 L1 c2) (l1 := f.2) HG.out HX.out ?_ ?_ ?_ ?_ (fun k hk => .inl hk)⟩, fun k hk => hk, ?_⟩
  · rw [HCELLS.out] at hg2; simp [World.setCell, Array.getElem?_modify, hg2]
  · intro k hok hk hne
    rw [Below.heap_setCell _ _ _ _ (by exact hne), hB2.block k hk]
  · refine R_same hR2 (fun k hk => ?_) (fun k hk => .inr (hR2.1 k hk))
    refine Below.heap_setCell _ _ _ _ ?_
    rintro rfl
    have h1 := hR2.1 _ hk
    have h2 := heap_lt HCELLS.out
    exact absurd h1 (by simpa using h2)
  · exact fun k hk => hR2.1 k hk
  · exact (Fr.of_below hB2).set_ (p := ⟨g, 0, none⟩) (.inl (HH.out.okb _ _ HG.out)) _

theorem del_none (h : DiskAt w d M ok) (hbd : Box w ok bd (dptr d) 34) (hbn : Box w ok bn (.string s) 9) (hs : s.size ≤ maxLen) (hx : M.fs (nm s) = none) :
    Calls Try.prog 38 #[bptr bd, bptr bn] w fun e w' => e = .returned (.int .i64 2) ∧ Left w d { M with fs := fun y => if y = nm s then none else M.fs y } ok w' := by
  have HD := Aside0.mk h
  obtain ⟨bf, bt, blk, sv, ev, sz, h⟩ := h
  obtain ⟨w1, hrun, hP, hturn⟩ := (h.move (w' := w.drew) (fun _ _ _ => rfl)).hf.drop Try.underlying9 Try.underlying62 hs 0
  have HT := Aside0.mk (And.intro hP hturn)
  have HH := Aside0.mk h
  have h0 := h.c0
  have cd := hbd.cell
  have cn := hbn.cell
  clear h hP hturn
  go_enter Try.func38, Try.ntmps38
  go_wp2_with (go_at_call 36; refine (there_no HD.out hs hx).mono ?_; rintro e w' ⟨rfl, rfl⟩)
  go_region
  go_wp2
  go_ret
  obtain ⟨hP, hturn⟩ := HT.out
  have hgr := hturn.grown
  exact ⟨rfl, ok, ⟨_, _, _, _, _, _, HH.out.delete hP (fun k hok hk hne => hgr.block k hk (fun e => hne (Option.some.inj e)))⟩, fun k hk => .inl hk, ((Fr.refl ok w).drew).grown hgr (fun k hk => .inl (by rw [← Option.some.inj hk]; exact HH.out.okf))⟩

theorem del_some (h : DiskAt w d M ok) (hbd : Box w ok bd (dptr d) 34) (hbn : Box w ok bn (.string s) 9) (hs : s.size ≤ maxLen) {f : Bytes × Bytes} (hx : M.fs (nm s) = some f) :
    Calls Try.prog 38 #[bptr bd, bptr bn] w fun e w' => e = .returned (.int .i64 0) ∧ Left w d { M with fs := fun y => if y = nm s then none else M.fs y } ok w' := by
  have HD := Aside0.mk h
  obtain ⟨bf, bt, blk, sv, ev, sz, h⟩ := h
  obtain ⟨w1, hrun, hP, hturn⟩ := (h.move (w' := w.drew) (fun _ _ _ => rfl)).hf.drop Try.underlying9 Try.underlying62 hs 0
  have HT := Aside0.mk (And.intro hP hturn)
  have HH := Aside0.mk h
  have h0 := h.c0
  have cd := hbd.cell
  have cn := hbn.cell
  clear h hP hturn
  go_enter Try.func38, Try.ntmps38
  go_wp2_with (go_at_call 36; refine (there_yes HD.out hs hx).mono ?_; rintro e w' ⟨rfl, rfl⟩)
  go_region
  go_wp2
  go_ret
  obtain ⟨hP, hturn⟩ := HT.out
  have hgr := hturn.grown
  exact ⟨rfl, ok, ⟨_, _, _, _, _, _, HH.out.delete hP (fun k hok hk hne => hgr.block k hk (fun e => hne (Option.some.inj e)))⟩, fun k hk => .inl hk, ((Fr.refl ok w).drew).grown hgr (fun k hk => .inl (by rw [← Option.some.inj hk]; exact HH.out.okf))⟩
end
end Go.Proofs.Ytgpniaplpibhfaa

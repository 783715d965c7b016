/-
  The law's own model: act, more arms. (Printed by wip/tools/actgen.py.)
-/
import Derived.Test.YtmdpgjdepflbmaaGreatCAct
namespace Go.Proofs.YtmdpgjdepflbmaaGreat
open Go.RowKit Go.Maps Go.Proofs.YtmdpgjdepflbmaaGreatW.PrintWords Go.Proofs.YtmdpgjdepflbmaaGreatW.PrintLast Go.Proofs.YtmdpgjdepflbmaaGreatW.PrintMore
open Go.Proofs.YtmdpgjdepflbmaaGreat.PPagerFolds
set_option linter.unusedVariables false
set_option linter.unusedSimpArgs false

section
variable {w wr : World} {g : Nat} {B : PG} {V : Int → Bytes} {cnt : Int} {ok : Nat → Prop} {mb : Nat} {hv tv : Value} {L : List Int} {T : List (Nat × Nat)} {R : List Int} {N : Nat}
set_option maxHeartbeats 1000000 in
set_option maxRecDepth 100000 in
theorem act_setroot_out_yes (h : MS w wr g B V cnt ok mb hv tv L T R N) (hN : N ≤ 1000) (D n0 b n : Int) (hd : IntKind.u64.wrap D % 8 = 6) (hs : Speaks L n0 b n) (j : Nat) (hj : L[j]? = some n) (hb : ¬ (0 ≤ b ∧ b < 8 ∧ 0 ≤ n0 ∧ n0 < 4096)) :
    Calls Tryz.prog 38 #[dp mb, dp g, .agg #[.int .i64 D, .int .i64 n0, .int .i64 b]] wr fun e w' => AR w wr g B V ok mb tv N e w' := by
  have hb0 : Below wr.heap.size wr (wr.alloc (.cells #[.int .i64 D, .int .i64 n0, .int .i64 b] 87)) := (Below.refl _ _).alloc (Nat.le_refl _) _
  have H := h.step hb0
  have hbx : (wr.alloc (.cells #[.int .i64 D, .int .i64 n0, .int .i64 b] 87)).heap[wr.heap.size]? = some (.cells #[.int .i64 D, .int .i64 n0, .int .i64 b] 87 (0, 0)) := heap_alloc_new wr _
  have HFA := Aside0.mk (AF.below (mb := mb) (ok := ok) (tv := tv) hb0)
  have hl := h.len
  have hsz : (wr.alloc (.cells #[.int .i64 D, .int .i64 n0, .int .i64 b] 87)).heap.size = wr.heap.size + 1 := by simp
  obtain ⟨A, c, hve, hC, hc⟩ := R_rowk H.mm.md.held
  have c0 := H.mm.md.c0
  rw [hve] at c0
  obtain ⟨l, hll⟩ : ∃ l, l = L.length := ⟨_, rfl⟩
  rw [← hll] at hve hC hc c0 hl
  obtain ⟨bx, hbxe⟩ : ∃ bx, bx = wr.heap.size := ⟨_, rfl⟩
  rw [← hbxe] at hbx hsz
  have d0 := cell_of_row _ bx 0 _ _ (0, 0) hbx
  have d1 := cell_of_row _ bx 1 _ _ (0, 0) hbx
  have d2 := cell_of_row _ bx 2 _ _ (0, 0) hbx
  have e0 : (wr.alloc (.cells #[.int .i64 D, .int .i64 n0, .int .i64 b] 87)).cell? ⟨bx, 0, none⟩ = some (.int .i64 D) := d0
  have e1 : (wr.alloc (.cells #[.int .i64 D, .int .i64 n0, .int .i64 b] 87)).cell? ⟨bx, 1, none⟩ = some (.int .i64 n0) := d1
  have e2 : (wr.alloc (.cells #[.int .i64 D, .int .i64 n0, .int .i64 b] 87)).cell? ⟨bx, 2, none⟩ = some (.int .i64 b) := d2
  clear d0 d1 d2
  rw [hbxe] at e0 e1 e2
  have HFD := Aside0.mk (fun k : Nat => find_pos (w := (wr.alloc (.cells #[.int .i64 D, .int .i64 n0, .int .i64 b] 87)).drewN k) mb A l c L n j c0 (Kd.C_drewN hC k) (by omega) hj h.nodup)
  have HW8 := Aside0.mk (fun W : World => within_c D 8 6 (by decide) (by decide) (by rw [show ((8 : Nat) : Int) = 8 from rfl, hd]; rfl) W)
  have HX := Aside0.mk (And.intro H (And.intro hbx (And.intro hsz (And.intro hve (And.intro hll hbxe)))))
  have HJ := Aside0.mk hj
  rcases hs with ⟨p1, p2, r, hr, hLr⟩ | ⟨p1, rfl⟩
  · -- a held one is picked
    rw [← hll] at p1 hr
    obtain ⟨ad, rfl, hcx⟩ := Kd.at_int hC (r : Int) (by omega) (by have := (List.getElem?_eq_some_iff.1 hLr).1; omega)
    have hrl : r < l := by have := (List.getElem?_eq_some_iff.1 hLr).1; omega
    rw [Int.toNat_natCast, show rd L (r : Int) = n from by simp [rd, List.getD_eq_getElem?_getD, hLr]] at hcx
    have hcx' : ∀ k, ((wr.alloc (.cells #[.int .i64 D, .int .i64 n0, .int .i64 b] 87)).drewN k).cell? (ad.add r) = some (.int .i64 n) := fun k => hcx
    have HWi := Aside0.mk (fun W : World => within_c n0 l r (by omega) (by omega) hr W)
    have q1 : decide ((0 : Int) < l) = true := by simp; omega
    have q2 : decide ((0 : Int) < b.tmod 5) = true := by simp; omega
    clear h hb0 H hbx hsz hve hll hbxe hC hd hj hr hLr p1 p2 hN hl
    go_enter Tryz.func38, Tryz.ntmps38
    go_wp2
    go_quiet ((go_at_call 18; exact Calls.quiet_of (HWi.out _)))
    go_wp2_with fail
    obtain ⟨W, hW⟩ : ∃ W, W = (wr.alloc (.cells #[.int .i64 D, .int .i64 n0, .int .i64 b] 87)).drewN nq := ⟨_, rfl⟩
    have hBW : Below (wr.alloc (.cells #[.int .i64 D, .int .i64 n0, .int .i64 b] 87)).heap.size (wr.alloc (.cells #[.int .i64 D, .int .i64 n0, .int .i64 b] 87)) W := by rw [hW]; exact pw_below_drewN (Below.refl _ _) _
    have HFD := HFD.out nq
    clear hcx hcx' HWi e0 e1 e2 c0 q1 q2
    rw [← hW] at HFD ⊢
    have HMS := Aside0.mk (HX.out.1.step hBW)
    have hbW : W.heap[wr.heap.size]? = some (.cells #[.int .i64 D, .int .i64 n0, .int .i64 b] 87 (0, 0)) := by
      rw [hBW.block _ (by rw [HX.out.2.2.1]; have := HX.out.2.2.2.2.2; omega)]
      have := HX.out.2.1
      rw [HX.out.2.2.2.2.2] at this
      exact this
    have hszW : wr.heap.size < W.heap.size := by have := hBW.size; rw [HX.out.2.2.1] at this; have := HX.out.2.2.2.2.2; omega
    have HAF := Aside0.mk (HFA.out.trans (AF.below (mb := mb) (ok := ok) (tv := tv) hBW))
    have HBX := Aside0.mk (And.intro hbW hszW)
    have c0 := HMS.out.mm.md.c0
    rw [HX.out.2.2.2.1] at c0
    have e0 := cell_of_row _ wr.heap.size 0 _ _ (0, 0) hbW
    have e1 := cell_of_row _ wr.heap.size 1 _ _ (0, 0) hbW
    have e2 := cell_of_row _ wr.heap.size 2 _ _ (0, 0) hbW
    replace e0 : W.cell? ⟨wr.heap.size, 0, none⟩ = some (.int .i64 D) := e0
    replace e1 : W.cell? ⟨wr.heap.size, 1, none⟩ = some (.int .i64 n0) := e1
    replace e2 : W.cell? ⟨wr.heap.size, 2, none⟩ = some (.int .i64 b) := e2
    clear hW hBW hbW hszW
    refine HFD.mono ?_
    rintro e w' ⟨rfl, rfl⟩
    clear HFD
    go_wp2_with (first
      | (go_at_call 18; refine (HW8.out _).mono ?_; rintro e w' ⟨rfl, m8, rfl⟩)
      | (go_at_call 39; refine (num13_any _ _).mono ?_; rintro e w' ⟨rfl, rfl⟩)
      | (go_at_call 76; refine (gsetroot_no (w := W.drewN m8) g b n0 hb).mono ?_; rintro e w1 ⟨rfl, rfl⟩))
    all_goals first
      | done
      | (go_ret; exact ⟨rfl, _, _, _, _, _, _, _, _, (HMS.out.step (pw_below_drewN (Below.refl _ _) m8)).more, (HAF.out.trans (AF.below (pw_below_drewN (Below.refl _ _) m8))), Int.le_max_left _ _⟩)
  · -- the number itself
    have hPk : (decide ((0 : Int) < l) && decide ((0 : Int) < b.tmod 5)) = false := by
      rw [← hll] at p1
      rw [Bool.and_eq_false_iff]
      by_cases h1 : 0 < l
      · right; simp; omega
      · left; simp; omega
    have HFD := HFD.out 0
    have HPk := Aside0.mk hPk
    clear h hb0 H hbx hsz hve hll hbxe hC hd hj p1 hN hl hPk
    go_enter Tryz.func38, Tryz.ntmps38
    by_cases q1 : (0 : Int) < l <;> by_cases q2 : (0 : Int) < b.tmod 5
    · exact absurd HPk.out (by rw [decide_eq_true q1, decide_eq_true q2]; decide)
    all_goals
      go_wp2_with fail
      obtain ⟨W, hW⟩ : ∃ W, W = (wr.alloc (.cells #[.int .i64 D, .int .i64 n, .int .i64 b] 87)) := ⟨_, rfl⟩
      have hBW : Below (wr.alloc (.cells #[.int .i64 D, .int .i64 n, .int .i64 b] 87)).heap.size (wr.alloc (.cells #[.int .i64 D, .int .i64 n, .int .i64 b] 87)) W := by rw [hW]; exact Below.refl _ _
      rw [World.drewN_zero] at HFD
      clear e0 e1 e2 c0 q1 q2
      rw [← hW] at HFD ⊢
      have HMS := Aside0.mk (HX.out.1.step hBW)
      have hbW : W.heap[wr.heap.size]? = some (.cells #[.int .i64 D, .int .i64 n, .int .i64 b] 87 (0, 0)) := by
        rw [hBW.block _ (by rw [HX.out.2.2.1]; have := HX.out.2.2.2.2.2; omega)]
        have := HX.out.2.1
        rw [HX.out.2.2.2.2.2] at this
        exact this
      have hszW : wr.heap.size < W.heap.size := by have := hBW.size; rw [HX.out.2.2.1] at this; have := HX.out.2.2.2.2.2; omega
      have HAF := Aside0.mk (HFA.out.trans (AF.below (mb := mb) (ok := ok) (tv := tv) hBW))
      have HBX := Aside0.mk (And.intro hbW hszW)
      have c0 := HMS.out.mm.md.c0
      rw [HX.out.2.2.2.1] at c0
      have e0 := cell_of_row _ wr.heap.size 0 _ _ (0, 0) hbW
      have e1 := cell_of_row _ wr.heap.size 1 _ _ (0, 0) hbW
      have e2 := cell_of_row _ wr.heap.size 2 _ _ (0, 0) hbW
      replace e0 : W.cell? ⟨wr.heap.size, 0, none⟩ = some (.int .i64 D) := e0
      replace e1 : W.cell? ⟨wr.heap.size, 1, none⟩ = some (.int .i64 n) := e1
      replace e2 : W.cell? ⟨wr.heap.size, 2, none⟩ = some (.int .i64 b) := e2
      clear hW hBW hbW hszW
      refine HFD.mono ?_
      rintro e w' ⟨rfl, rfl⟩
      clear HFD
      go_wp2_with (first
        | (go_at_call 18; refine (HW8.out _).mono ?_; rintro e w' ⟨rfl, m8, rfl⟩)
        | (go_at_call 39; refine (num13_any _ _).mono ?_; rintro e w' ⟨rfl, rfl⟩)
        | (go_at_call 76; refine (gsetroot_no (w := W.drewN m8) g b n hb).mono ?_; rintro e w1 ⟨rfl, rfl⟩))
      all_goals first
        | done
        | (go_ret; exact ⟨rfl, _, _, _, _, _, _, _, _, (HMS.out.step (pw_below_drewN (Below.refl _ _) m8)).more, (HAF.out.trans (AF.below (pw_below_drewN (Below.refl _ _) m8))), Int.le_max_left _ _⟩)
set_option maxHeartbeats 1000000 in
set_option maxRecDepth 100000 in
theorem act_root_in_yes (h : MS w wr g B V cnt ok mb hv tv L T R N) (hN : N ≤ 1000) (D n0 b n : Int) (hd : IntKind.u64.wrap D % 8 = 7) (hs : Speaks L n0 b n) (j : Nat) (hj : L[j]? = some n) (hb0' : 0 ≤ b) (hb1' : b < 8) :
    Calls Tryz.prog 38 #[dp mb, dp g, .agg #[.int .i64 D, .int .i64 n0, .int .i64 b]] wr fun e w' => AR w wr g B V ok mb tv N e w' := by
  have hb0 : Below wr.heap.size wr (wr.alloc (.cells #[.int .i64 D, .int .i64 n0, .int .i64 b] 87)) := (Below.refl _ _).alloc (Nat.le_refl _) _
  have H := h.step hb0
  have hbx : (wr.alloc (.cells #[.int .i64 D, .int .i64 n0, .int .i64 b] 87)).heap[wr.heap.size]? = some (.cells #[.int .i64 D, .int .i64 n0, .int .i64 b] 87 (0, 0)) := heap_alloc_new wr _
  have HFA := Aside0.mk (AF.below (mb := mb) (ok := ok) (tv := tv) hb0)
  have hl := h.len
  have hsz : (wr.alloc (.cells #[.int .i64 D, .int .i64 n0, .int .i64 b] 87)).heap.size = wr.heap.size + 1 := by simp
  obtain ⟨A, c, hve, hC, hc⟩ := R_rowk H.mm.md.held
  have c0 := H.mm.md.c0
  rw [hve] at c0
  obtain ⟨l, hll⟩ : ∃ l, l = L.length := ⟨_, rfl⟩
  rw [← hll] at hve hC hc c0 hl
  obtain ⟨bx, hbxe⟩ : ∃ bx, bx = wr.heap.size := ⟨_, rfl⟩
  rw [← hbxe] at hbx hsz
  have d0 := cell_of_row _ bx 0 _ _ (0, 0) hbx
  have d1 := cell_of_row _ bx 1 _ _ (0, 0) hbx
  have d2 := cell_of_row _ bx 2 _ _ (0, 0) hbx
  have e0 : (wr.alloc (.cells #[.int .i64 D, .int .i64 n0, .int .i64 b] 87)).cell? ⟨bx, 0, none⟩ = some (.int .i64 D) := d0
  have e1 : (wr.alloc (.cells #[.int .i64 D, .int .i64 n0, .int .i64 b] 87)).cell? ⟨bx, 1, none⟩ = some (.int .i64 n0) := d1
  have e2 : (wr.alloc (.cells #[.int .i64 D, .int .i64 n0, .int .i64 b] 87)).cell? ⟨bx, 2, none⟩ = some (.int .i64 b) := d2
  clear d0 d1 d2
  rw [hbxe] at e0 e1 e2
  have HFD := Aside0.mk (fun k : Nat => find_pos (w := (wr.alloc (.cells #[.int .i64 D, .int .i64 n0, .int .i64 b] 87)).drewN k) mb A l c L n j c0 (Kd.C_drewN hC k) (by omega) hj h.nodup)
  have HW8 := Aside0.mk (fun W : World => within_c D 8 7 (by decide) (by decide) (by rw [show ((8 : Nat) : Int) = 8 from rfl, hd]; rfl) W)
  have HB := Aside0.mk (And.intro hb0' hb1')
  clear hb0' hb1'
  have HX := Aside0.mk (And.intro H (And.intro hbx (And.intro hsz (And.intro hve (And.intro hll hbxe)))))
  have HJ := Aside0.mk hj
  rcases hs with ⟨p1, p2, r, hr, hLr⟩ | ⟨p1, rfl⟩
  · -- a held one is picked
    rw [← hll] at p1 hr
    obtain ⟨ad, rfl, hcx⟩ := Kd.at_int hC (r : Int) (by omega) (by have := (List.getElem?_eq_some_iff.1 hLr).1; omega)
    have hrl : r < l := by have := (List.getElem?_eq_some_iff.1 hLr).1; omega
    rw [Int.toNat_natCast, show rd L (r : Int) = n from by simp [rd, List.getD_eq_getElem?_getD, hLr]] at hcx
    have hcx' : ∀ k, ((wr.alloc (.cells #[.int .i64 D, .int .i64 n0, .int .i64 b] 87)).drewN k).cell? (ad.add r) = some (.int .i64 n) := fun k => hcx
    have HWi := Aside0.mk (fun W : World => within_c n0 l r (by omega) (by omega) hr W)
    have q1 : decide ((0 : Int) < l) = true := by simp; omega
    have q2 : decide ((0 : Int) < b.tmod 5) = true := by simp; omega
    clear h hb0 H hbx hsz hve hll hbxe hC hd hj hr hLr p1 p2 hN hl
    go_enter Tryz.func38, Tryz.ntmps38
    go_wp2
    go_quiet ((go_at_call 18; exact Calls.quiet_of (HWi.out _)))
    go_wp2_with fail
    obtain ⟨W, hW⟩ : ∃ W, W = (wr.alloc (.cells #[.int .i64 D, .int .i64 n0, .int .i64 b] 87)).drewN nq := ⟨_, rfl⟩
    have hBW : Below (wr.alloc (.cells #[.int .i64 D, .int .i64 n0, .int .i64 b] 87)).heap.size (wr.alloc (.cells #[.int .i64 D, .int .i64 n0, .int .i64 b] 87)) W := by rw [hW]; exact pw_below_drewN (Below.refl _ _) _
    have HFD := HFD.out nq
    clear hcx hcx' HWi e0 e1 e2 c0 q1 q2
    rw [← hW] at HFD ⊢
    have HMS := Aside0.mk (HX.out.1.step hBW)
    have hbW : W.heap[wr.heap.size]? = some (.cells #[.int .i64 D, .int .i64 n0, .int .i64 b] 87 (0, 0)) := by
      rw [hBW.block _ (by rw [HX.out.2.2.1]; have := HX.out.2.2.2.2.2; omega)]
      have := HX.out.2.1
      rw [HX.out.2.2.2.2.2] at this
      exact this
    have hszW : wr.heap.size < W.heap.size := by have := hBW.size; rw [HX.out.2.2.1] at this; have := HX.out.2.2.2.2.2; omega
    have HAF := Aside0.mk (HFA.out.trans (AF.below (mb := mb) (ok := ok) (tv := tv) hBW))
    have HBX := Aside0.mk (And.intro hbW hszW)
    have c0 := HMS.out.mm.md.c0
    rw [HX.out.2.2.2.1] at c0
    have e0 := cell_of_row _ wr.heap.size 0 _ _ (0, 0) hbW
    have e1 := cell_of_row _ wr.heap.size 1 _ _ (0, 0) hbW
    have e2 := cell_of_row _ wr.heap.size 2 _ _ (0, 0) hbW
    replace e0 : W.cell? ⟨wr.heap.size, 0, none⟩ = some (.int .i64 D) := e0
    replace e1 : W.cell? ⟨wr.heap.size, 1, none⟩ = some (.int .i64 n0) := e1
    replace e2 : W.cell? ⟨wr.heap.size, 2, none⟩ = some (.int .i64 b) := e2
    clear hW hBW hbW hszW
    refine HFD.mono ?_
    rintro e w' ⟨rfl, rfl⟩
    clear HFD
    go_wp2_with (first
      | (go_at_call 18; refine (HW8.out _).mono ?_; rintro e w' ⟨rfl, m8, rfl⟩)
      | (go_at_call 39; refine (num13_any _ _).mono ?_; rintro e w' ⟨rfl, rfl⟩)
      | (go_at_call 46; refine (groot_yes (HMS.out.fs.drewN m8).fat (HMS.out.fs.drewN m8).good b HB.out.1 HB.out.2).mono ?_; rintro e w1 ⟨rfl, hb1⟩; have hMs := (HMS.out.step (pw_below_drewN (Below.refl _ _) m8)).step hb1; have x3 := hMs.rootcell HB.out.1 HB.out.2; obtain ⟨i0, i1⟩ := HB.out; have e3 := (hb1.cell (p := ⟨wr.heap.size, 2, none⟩) (World.block_lt_of_cell? _ _ (show (W.drewN m8).cell? ⟨wr.heap.size, 2, none⟩ = _ from e2))).trans e2; have H1 := Aside0.mk hb1; clear hb1 hMs))
    go_quiet ((go_at_call 39; exact Calls.quiet_of_same ((num13_any _ _).mono (fun _ _ h => ⟨h.1, h.2.symm⟩))))
    go_wp2
    all_goals first
      | done
      | (go_ret; exact ⟨rfl, _, _, _, _, _, _, _, _, (((HMS.out.step (pw_below_drewN (Below.refl _ _) m8)).step H1.out).step (pw_below_drewN (Below.refl _ _) _)).more, ((HAF.out.trans (AF.below (pw_below_drewN (Below.refl _ _) m8))).trans (AF.below H1.out)).trans (AF.below (pw_below_drewN (Below.refl _ _) _)), Int.le_max_left _ _⟩)
  · -- the number itself
    have hPk : (decide ((0 : Int) < l) && decide ((0 : Int) < b.tmod 5)) = false := by
      rw [← hll] at p1
      rw [Bool.and_eq_false_iff]
      by_cases h1 : 0 < l
      · right; simp; omega
      · left; simp; omega
    have HFD := HFD.out 0
    have HPk := Aside0.mk hPk
    clear h hb0 H hbx hsz hve hll hbxe hC hd hj p1 hN hl hPk
    go_enter Tryz.func38, Tryz.ntmps38
    by_cases q1 : (0 : Int) < l <;> by_cases q2 : (0 : Int) < b.tmod 5
    · exact absurd HPk.out (by rw [decide_eq_true q1, decide_eq_true q2]; decide)
    all_goals
      go_wp2_with fail
      obtain ⟨W, hW⟩ : ∃ W, W = (wr.alloc (.cells #[.int .i64 D, .int .i64 n, .int .i64 b] 87)) := ⟨_, rfl⟩
      have hBW : Below (wr.alloc (.cells #[.int .i64 D, .int .i64 n, .int .i64 b] 87)).heap.size (wr.alloc (.cells #[.int .i64 D, .int .i64 n, .int .i64 b] 87)) W := by rw [hW]; exact Below.refl _ _
      rw [World.drewN_zero] at HFD
      clear e0 e1 e2 c0 q1 q2
      rw [← hW] at HFD ⊢
      have HMS := Aside0.mk (HX.out.1.step hBW)
      have hbW : W.heap[wr.heap.size]? = some (.cells #[.int .i64 D, .int .i64 n, .int .i64 b] 87 (0, 0)) := by
        rw [hBW.block _ (by rw [HX.out.2.2.1]; have := HX.out.2.2.2.2.2; omega)]
        have := HX.out.2.1
        rw [HX.out.2.2.2.2.2] at this
        exact this
      have hszW : wr.heap.size < W.heap.size := by have := hBW.size; rw [HX.out.2.2.1] at this; have := HX.out.2.2.2.2.2; omega
      have HAF := Aside0.mk (HFA.out.trans (AF.below (mb := mb) (ok := ok) (tv := tv) hBW))
      have HBX := Aside0.mk (And.intro hbW hszW)
      have c0 := HMS.out.mm.md.c0
      rw [HX.out.2.2.2.1] at c0
      have e0 := cell_of_row _ wr.heap.size 0 _ _ (0, 0) hbW
      have e1 := cell_of_row _ wr.heap.size 1 _ _ (0, 0) hbW
      have e2 := cell_of_row _ wr.heap.size 2 _ _ (0, 0) hbW
      replace e0 : W.cell? ⟨wr.heap.size, 0, none⟩ = some (.int .i64 D) := e0
      replace e1 : W.cell? ⟨wr.heap.size, 1, none⟩ = some (.int .i64 n) := e1
      replace e2 : W.cell? ⟨wr.heap.size, 2, none⟩ = some (.int .i64 b) := e2
      clear hW hBW hbW hszW
      refine HFD.mono ?_
      rintro e w' ⟨rfl, rfl⟩
      clear HFD
      go_wp2_with (first
        | (go_at_call 18; refine (HW8.out _).mono ?_; rintro e w' ⟨rfl, m8, rfl⟩)
        | (go_at_call 39; refine (num13_any _ _).mono ?_; rintro e w' ⟨rfl, rfl⟩)
        | (go_at_call 46; refine (groot_yes (HMS.out.fs.drewN m8).fat (HMS.out.fs.drewN m8).good b HB.out.1 HB.out.2).mono ?_; rintro e w1 ⟨rfl, hb1⟩; have hMs := (HMS.out.step (pw_below_drewN (Below.refl _ _) m8)).step hb1; have x3 := hMs.rootcell HB.out.1 HB.out.2; obtain ⟨i0, i1⟩ := HB.out; have e3 := (hb1.cell (p := ⟨wr.heap.size, 2, none⟩) (World.block_lt_of_cell? _ _ (show (W.drewN m8).cell? ⟨wr.heap.size, 2, none⟩ = _ from e2))).trans e2; have H1 := Aside0.mk hb1; clear hb1 hMs))
      go_quiet ((go_at_call 39; exact Calls.quiet_of_same ((num13_any _ _).mono (fun _ _ h => ⟨h.1, h.2.symm⟩))))
      go_wp2
      all_goals first
        | done
        | (go_ret; exact ⟨rfl, _, _, _, _, _, _, _, _, (((HMS.out.step (pw_below_drewN (Below.refl _ _) m8)).step H1.out).step (pw_below_drewN (Below.refl _ _) _)).more, ((HAF.out.trans (AF.below (pw_below_drewN (Below.refl _ _) m8))).trans (AF.below H1.out)).trans (AF.below (pw_below_drewN (Below.refl _ _) _)), Int.le_max_left _ _⟩)
set_option maxHeartbeats 1000000 in
set_option maxRecDepth 100000 in
theorem act_setroot_out_no (h : MS w wr g B V cnt ok mb hv tv L T R N) (hN : N ≤ 1000) (D n0 b n : Int) (hd : IntKind.u64.wrap D % 8 = 6) (hs : Speaks L n0 b n) (hj : n ∉ L) (hb : ¬ (0 ≤ b ∧ b < 8 ∧ 0 ≤ n0 ∧ n0 < 4096)) :
    Calls Tryz.prog 38 #[dp mb, dp g, .agg #[.int .i64 D, .int .i64 n0, .int .i64 b]] wr fun e w' => AR w wr g B V ok mb tv N e w' := by
  have hb0 : Below wr.heap.size wr (wr.alloc (.cells #[.int .i64 D, .int .i64 n0, .int .i64 b] 87)) := (Below.refl _ _).alloc (Nat.le_refl _) _
  have H := h.step hb0
  have hbx : (wr.alloc (.cells #[.int .i64 D, .int .i64 n0, .int .i64 b] 87)).heap[wr.heap.size]? = some (.cells #[.int .i64 D, .int .i64 n0, .int .i64 b] 87 (0, 0)) := heap_alloc_new wr _
  have HFA := Aside0.mk (AF.below (mb := mb) (ok := ok) (tv := tv) hb0)
  have hl := h.len
  have hsz : (wr.alloc (.cells #[.int .i64 D, .int .i64 n0, .int .i64 b] 87)).heap.size = wr.heap.size + 1 := by simp
  obtain ⟨A, c, hve, hC, hc⟩ := R_rowk H.mm.md.held
  have c0 := H.mm.md.c0
  rw [hve] at c0
  obtain ⟨l, hll⟩ : ∃ l, l = L.length := ⟨_, rfl⟩
  rw [← hll] at hve hC hc c0 hl
  obtain ⟨bx, hbxe⟩ : ∃ bx, bx = wr.heap.size := ⟨_, rfl⟩
  rw [← hbxe] at hbx hsz
  have d0 := cell_of_row _ bx 0 _ _ (0, 0) hbx
  have d1 := cell_of_row _ bx 1 _ _ (0, 0) hbx
  have d2 := cell_of_row _ bx 2 _ _ (0, 0) hbx
  have e0 : (wr.alloc (.cells #[.int .i64 D, .int .i64 n0, .int .i64 b] 87)).cell? ⟨bx, 0, none⟩ = some (.int .i64 D) := d0
  have e1 : (wr.alloc (.cells #[.int .i64 D, .int .i64 n0, .int .i64 b] 87)).cell? ⟨bx, 1, none⟩ = some (.int .i64 n0) := d1
  have e2 : (wr.alloc (.cells #[.int .i64 D, .int .i64 n0, .int .i64 b] 87)).cell? ⟨bx, 2, none⟩ = some (.int .i64 b) := d2
  clear d0 d1 d2
  rw [hbxe] at e0 e1 e2
  have HFD := Aside0.mk (fun k : Nat => find_neg (w := (wr.alloc (.cells #[.int .i64 D, .int .i64 n0, .int .i64 b] 87)).drewN k) mb A l c L n c0 (Kd.C_drewN hC k) (by omega) hj)
  have HW8 := Aside0.mk (fun W : World => within_c D 8 6 (by decide) (by decide) (by rw [show ((8 : Nat) : Int) = 8 from rfl, hd]; rfl) W)
  have HX := Aside0.mk (And.intro H (And.intro hbx (And.intro hsz (And.intro hve (And.intro hll hbxe)))))
  have HJ := Aside0.mk hj
  rcases hs with ⟨p1, p2, r, hr, hLr⟩ | ⟨p1, rfl⟩
  · -- a held one is picked
    rw [← hll] at p1 hr
    obtain ⟨ad, rfl, hcx⟩ := Kd.at_int hC (r : Int) (by omega) (by have := (List.getElem?_eq_some_iff.1 hLr).1; omega)
    have hrl : r < l := by have := (List.getElem?_eq_some_iff.1 hLr).1; omega
    rw [Int.toNat_natCast, show rd L (r : Int) = n from by simp [rd, List.getD_eq_getElem?_getD, hLr]] at hcx
    have hcx' : ∀ k, ((wr.alloc (.cells #[.int .i64 D, .int .i64 n0, .int .i64 b] 87)).drewN k).cell? (ad.add r) = some (.int .i64 n) := fun k => hcx
    have HWi := Aside0.mk (fun W : World => within_c n0 l r (by omega) (by omega) hr W)
    have q1 : decide ((0 : Int) < l) = true := by simp; omega
    have q2 : decide ((0 : Int) < b.tmod 5) = true := by simp; omega
    clear h hb0 H hbx hsz hve hll hbxe hC hd hj hr hLr p1 p2 hN hl
    go_enter Tryz.func38, Tryz.ntmps38
    go_wp2
    go_quiet ((go_at_call 18; exact Calls.quiet_of (HWi.out _)))
    go_wp2_with fail
    obtain ⟨W, hW⟩ : ∃ W, W = (wr.alloc (.cells #[.int .i64 D, .int .i64 n0, .int .i64 b] 87)).drewN nq := ⟨_, rfl⟩
    have hBW : Below (wr.alloc (.cells #[.int .i64 D, .int .i64 n0, .int .i64 b] 87)).heap.size (wr.alloc (.cells #[.int .i64 D, .int .i64 n0, .int .i64 b] 87)) W := by rw [hW]; exact pw_below_drewN (Below.refl _ _) _
    have HFD := HFD.out nq
    clear hcx hcx' HWi e0 e1 e2 c0 q1 q2
    rw [← hW] at HFD ⊢
    have HMS := Aside0.mk (HX.out.1.step hBW)
    have hbW : W.heap[wr.heap.size]? = some (.cells #[.int .i64 D, .int .i64 n0, .int .i64 b] 87 (0, 0)) := by
      rw [hBW.block _ (by rw [HX.out.2.2.1]; have := HX.out.2.2.2.2.2; omega)]
      have := HX.out.2.1
      rw [HX.out.2.2.2.2.2] at this
      exact this
    have hszW : wr.heap.size < W.heap.size := by have := hBW.size; rw [HX.out.2.2.1] at this; have := HX.out.2.2.2.2.2; omega
    have HAF := Aside0.mk (HFA.out.trans (AF.below (mb := mb) (ok := ok) (tv := tv) hBW))
    have HBX := Aside0.mk (And.intro hbW hszW)
    have c0 := HMS.out.mm.md.c0
    rw [HX.out.2.2.2.1] at c0
    have e0 := cell_of_row _ wr.heap.size 0 _ _ (0, 0) hbW
    have e1 := cell_of_row _ wr.heap.size 1 _ _ (0, 0) hbW
    have e2 := cell_of_row _ wr.heap.size 2 _ _ (0, 0) hbW
    replace e0 : W.cell? ⟨wr.heap.size, 0, none⟩ = some (.int .i64 D) := e0
    replace e1 : W.cell? ⟨wr.heap.size, 1, none⟩ = some (.int .i64 n0) := e1
    replace e2 : W.cell? ⟨wr.heap.size, 2, none⟩ = some (.int .i64 b) := e2
    clear hW hBW hbW hszW
    refine HFD.mono ?_
    rintro e w' ⟨rfl, rfl⟩
    clear HFD
    go_wp2_with (first
      | (go_at_call 18; refine (HW8.out _).mono ?_; rintro e w' ⟨rfl, m8, rfl⟩)
      | (go_at_call 39; refine (num13_any _ _).mono ?_; rintro e w' ⟨rfl, rfl⟩)
      | (go_at_call 76; refine (gsetroot_no (w := W.drewN m8) g b n0 hb).mono ?_; rintro e w1 ⟨rfl, rfl⟩))
    all_goals first
      | done
      | (go_ret; exact ⟨rfl, _, _, _, _, _, _, _, _, (HMS.out.step (pw_below_drewN (Below.refl _ _) m8)).more, (HAF.out.trans (AF.below (pw_below_drewN (Below.refl _ _) m8))), Int.le_max_left _ _⟩)
  · -- the number itself
    have hPk : (decide ((0 : Int) < l) && decide ((0 : Int) < b.tmod 5)) = false := by
      rw [← hll] at p1
      rw [Bool.and_eq_false_iff]
      by_cases h1 : 0 < l
      · right; simp; omega
      · left; simp; omega
    have HFD := HFD.out 0
    have HPk := Aside0.mk hPk
    clear h hb0 H hbx hsz hve hll hbxe hC hd hj p1 hN hl hPk
    go_enter Tryz.func38, Tryz.ntmps38
    by_cases q1 : (0 : Int) < l <;> by_cases q2 : (0 : Int) < b.tmod 5
    · exact absurd HPk.out (by rw [decide_eq_true q1, decide_eq_true q2]; decide)
    all_goals
      go_wp2_with fail
      obtain ⟨W, hW⟩ : ∃ W, W = (wr.alloc (.cells #[.int .i64 D, .int .i64 n, .int .i64 b] 87)) := ⟨_, rfl⟩
      have hBW : Below (wr.alloc (.cells #[.int .i64 D, .int .i64 n, .int .i64 b] 87)).heap.size (wr.alloc (.cells #[.int .i64 D, .int .i64 n, .int .i64 b] 87)) W := by rw [hW]; exact Below.refl _ _
      rw [World.drewN_zero] at HFD
      clear e0 e1 e2 c0 q1 q2
      rw [← hW] at HFD ⊢
      have HMS := Aside0.mk (HX.out.1.step hBW)
      have hbW : W.heap[wr.heap.size]? = some (.cells #[.int .i64 D, .int .i64 n, .int .i64 b] 87 (0, 0)) := by
        rw [hBW.block _ (by rw [HX.out.2.2.1]; have := HX.out.2.2.2.2.2; omega)]
        have := HX.out.2.1
        rw [HX.out.2.2.2.2.2] at this
        exact this
      have hszW : wr.heap.size < W.heap.size := by have := hBW.size; rw [HX.out.2.2.1] at this; have := HX.out.2.2.2.2.2; omega
      have HAF := Aside0.mk (HFA.out.trans (AF.below (mb := mb) (ok := ok) (tv := tv) hBW))
      have HBX := Aside0.mk (And.intro hbW hszW)
      have c0 := HMS.out.mm.md.c0
      rw [HX.out.2.2.2.1] at c0
      have e0 := cell_of_row _ wr.heap.size 0 _ _ (0, 0) hbW
      have e1 := cell_of_row _ wr.heap.size 1 _ _ (0, 0) hbW
      have e2 := cell_of_row _ wr.heap.size 2 _ _ (0, 0) hbW
      replace e0 : W.cell? ⟨wr.heap.size, 0, none⟩ = some (.int .i64 D) := e0
      replace e1 : W.cell? ⟨wr.heap.size, 1, none⟩ = some (.int .i64 n) := e1
      replace e2 : W.cell? ⟨wr.heap.size, 2, none⟩ = some (.int .i64 b) := e2
      clear hW hBW hbW hszW
      refine HFD.mono ?_
      rintro e w' ⟨rfl, rfl⟩
      clear HFD
      go_wp2_with (first
        | (go_at_call 18; refine (HW8.out _).mono ?_; rintro e w' ⟨rfl, m8, rfl⟩)
        | (go_at_call 39; refine (num13_any _ _).mono ?_; rintro e w' ⟨rfl, rfl⟩)
        | (go_at_call 76; refine (gsetroot_no (w := W.drewN m8) g b n hb).mono ?_; rintro e w1 ⟨rfl, rfl⟩))
      all_goals first
        | done
        | (go_ret; exact ⟨rfl, _, _, _, _, _, _, _, _, (HMS.out.step (pw_below_drewN (Below.refl _ _) m8)).more, (HAF.out.trans (AF.below (pw_below_drewN (Below.refl _ _) m8))), Int.le_max_left _ _⟩)
set_option maxHeartbeats 1000000 in
set_option maxRecDepth 100000 in
theorem act_root_in_no (h : MS w wr g B V cnt ok mb hv tv L T R N) (hN : N ≤ 1000) (D n0 b n : Int) (hd : IntKind.u64.wrap D % 8 = 7) (hs : Speaks L n0 b n) (hj : n ∉ L) (hb0' : 0 ≤ b) (hb1' : b < 8) :
    Calls Tryz.prog 38 #[dp mb, dp g, .agg #[.int .i64 D, .int .i64 n0, .int .i64 b]] wr fun e w' => AR w wr g B V ok mb tv N e w' := by
  have hb0 : Below wr.heap.size wr (wr.alloc (.cells #[.int .i64 D, .int .i64 n0, .int .i64 b] 87)) := (Below.refl _ _).alloc (Nat.le_refl _) _
  have H := h.step hb0
  have hbx : (wr.alloc (.cells #[.int .i64 D, .int .i64 n0, .int .i64 b] 87)).heap[wr.heap.size]? = some (.cells #[.int .i64 D, .int .i64 n0, .int .i64 b] 87 (0, 0)) := heap_alloc_new wr _
  have HFA := Aside0.mk (AF.below (mb := mb) (ok := ok) (tv := tv) hb0)
  have hl := h.len
  have hsz : (wr.alloc (.cells #[.int .i64 D, .int .i64 n0, .int .i64 b] 87)).heap.size = wr.heap.size + 1 := by simp
  obtain ⟨A, c, hve, hC, hc⟩ := R_rowk H.mm.md.held
  have c0 := H.mm.md.c0
  rw [hve] at c0
  obtain ⟨l, hll⟩ : ∃ l, l = L.length := ⟨_, rfl⟩
  rw [← hll] at hve hC hc c0 hl
  obtain ⟨bx, hbxe⟩ : ∃ bx, bx = wr.heap.size := ⟨_, rfl⟩
  rw [← hbxe] at hbx hsz
  have d0 := cell_of_row _ bx 0 _ _ (0, 0) hbx
  have d1 := cell_of_row _ bx 1 _ _ (0, 0) hbx
  have d2 := cell_of_row _ bx 2 _ _ (0, 0) hbx
  have e0 : (wr.alloc (.cells #[.int .i64 D, .int .i64 n0, .int .i64 b] 87)).cell? ⟨bx, 0, none⟩ = some (.int .i64 D) := d0
  have e1 : (wr.alloc (.cells #[.int .i64 D, .int .i64 n0, .int .i64 b] 87)).cell? ⟨bx, 1, none⟩ = some (.int .i64 n0) := d1
  have e2 : (wr.alloc (.cells #[.int .i64 D, .int .i64 n0, .int .i64 b] 87)).cell? ⟨bx, 2, none⟩ = some (.int .i64 b) := d2
  clear d0 d1 d2
  rw [hbxe] at e0 e1 e2
  have HFD := Aside0.mk (fun k : Nat => find_neg (w := (wr.alloc (.cells #[.int .i64 D, .int .i64 n0, .int .i64 b] 87)).drewN k) mb A l c L n c0 (Kd.C_drewN hC k) (by omega) hj)
  have HW8 := Aside0.mk (fun W : World => within_c D 8 7 (by decide) (by decide) (by rw [show ((8 : Nat) : Int) = 8 from rfl, hd]; rfl) W)
  have HB := Aside0.mk (And.intro hb0' hb1')
  clear hb0' hb1'
  have HX := Aside0.mk (And.intro H (And.intro hbx (And.intro hsz (And.intro hve (And.intro hll hbxe)))))
  have HJ := Aside0.mk hj
  rcases hs with ⟨p1, p2, r, hr, hLr⟩ | ⟨p1, rfl⟩
  · -- a held one is picked
    rw [← hll] at p1 hr
    obtain ⟨ad, rfl, hcx⟩ := Kd.at_int hC (r : Int) (by omega) (by have := (List.getElem?_eq_some_iff.1 hLr).1; omega)
    have hrl : r < l := by have := (List.getElem?_eq_some_iff.1 hLr).1; omega
    rw [Int.toNat_natCast, show rd L (r : Int) = n from by simp [rd, List.getD_eq_getElem?_getD, hLr]] at hcx
    have hcx' : ∀ k, ((wr.alloc (.cells #[.int .i64 D, .int .i64 n0, .int .i64 b] 87)).drewN k).cell? (ad.add r) = some (.int .i64 n) := fun k => hcx
    have HWi := Aside0.mk (fun W : World => within_c n0 l r (by omega) (by omega) hr W)
    have q1 : decide ((0 : Int) < l) = true := by simp; omega
    have q2 : decide ((0 : Int) < b.tmod 5) = true := by simp; omega
    clear h hb0 H hbx hsz hve hll hbxe hC hd hj hr hLr p1 p2 hN hl
    go_enter Tryz.func38, Tryz.ntmps38
    go_wp2
    go_quiet ((go_at_call 18; exact Calls.quiet_of (HWi.out _)))
    go_wp2_with fail
    obtain ⟨W, hW⟩ : ∃ W, W = (wr.alloc (.cells #[.int .i64 D, .int .i64 n0, .int .i64 b] 87)).drewN nq := ⟨_, rfl⟩
    have hBW : Below (wr.alloc (.cells #[.int .i64 D, .int .i64 n0, .int .i64 b] 87)).heap.size (wr.alloc (.cells #[.int .i64 D, .int .i64 n0, .int .i64 b] 87)) W := by rw [hW]; exact pw_below_drewN (Below.refl _ _) _
    have HFD := HFD.out nq
    clear hcx hcx' HWi e0 e1 e2 c0 q1 q2
    rw [← hW] at HFD ⊢
    have HMS := Aside0.mk (HX.out.1.step hBW)
    have hbW : W.heap[wr.heap.size]? = some (.cells #[.int .i64 D, .int .i64 n0, .int .i64 b] 87 (0, 0)) := by
      rw [hBW.block _ (by rw [HX.out.2.2.1]; have := HX.out.2.2.2.2.2; omega)]
      have := HX.out.2.1
      rw [HX.out.2.2.2.2.2] at this
      exact this
    have hszW : wr.heap.size < W.heap.size := by have := hBW.size; rw [HX.out.2.2.1] at this; have := HX.out.2.2.2.2.2; omega
    have HAF := Aside0.mk (HFA.out.trans (AF.below (mb := mb) (ok := ok) (tv := tv) hBW))
    have HBX := Aside0.mk (And.intro hbW hszW)
    have c0 := HMS.out.mm.md.c0
    rw [HX.out.2.2.2.1] at c0
    have e0 := cell_of_row _ wr.heap.size 0 _ _ (0, 0) hbW
    have e1 := cell_of_row _ wr.heap.size 1 _ _ (0, 0) hbW
    have e2 := cell_of_row _ wr.heap.size 2 _ _ (0, 0) hbW
    replace e0 : W.cell? ⟨wr.heap.size, 0, none⟩ = some (.int .i64 D) := e0
    replace e1 : W.cell? ⟨wr.heap.size, 1, none⟩ = some (.int .i64 n0) := e1
    replace e2 : W.cell? ⟨wr.heap.size, 2, none⟩ = some (.int .i64 b) := e2
    clear hW hBW hbW hszW
    refine HFD.mono ?_
    rintro e w' ⟨rfl, rfl⟩
    clear HFD
    go_wp2_with (first
      | (go_at_call 18; refine (HW8.out _).mono ?_; rintro e w' ⟨rfl, m8, rfl⟩)
      | (go_at_call 39; refine (num13_any _ _).mono ?_; rintro e w' ⟨rfl, rfl⟩)
      | (go_at_call 46; refine (groot_yes (HMS.out.fs.drewN m8).fat (HMS.out.fs.drewN m8).good b HB.out.1 HB.out.2).mono ?_; rintro e w1 ⟨rfl, hb1⟩; have hMs := (HMS.out.step (pw_below_drewN (Below.refl _ _) m8)).step hb1; have x3 := hMs.rootcell HB.out.1 HB.out.2; obtain ⟨i0, i1⟩ := HB.out; have e3 := (hb1.cell (p := ⟨wr.heap.size, 2, none⟩) (World.block_lt_of_cell? _ _ (show (W.drewN m8).cell? ⟨wr.heap.size, 2, none⟩ = _ from e2))).trans e2; have H1 := Aside0.mk hb1; clear hb1 hMs))
    go_quiet ((go_at_call 39; exact Calls.quiet_of_same ((num13_any _ _).mono (fun _ _ h => ⟨h.1, h.2.symm⟩))))
    go_wp2
    all_goals first
      | done
      | (go_ret; exact ⟨rfl, _, _, _, _, _, _, _, _, (((HMS.out.step (pw_below_drewN (Below.refl _ _) m8)).step H1.out).step (pw_below_drewN (Below.refl _ _) _)).more, ((HAF.out.trans (AF.below (pw_below_drewN (Below.refl _ _) m8))).trans (AF.below H1.out)).trans (AF.below (pw_below_drewN (Below.refl _ _) _)), Int.le_max_left _ _⟩)
  · -- the number itself
    have hPk : (decide ((0 : Int) < l) && decide ((0 : Int) < b.tmod 5)) = false := by
      rw [← hll] at p1
      rw [Bool.and_eq_false_iff]
      by_cases h1 : 0 < l
      · right; simp; omega
      · left; simp; omega
    have HFD := HFD.out 0
    have HPk := Aside0.mk hPk
    clear h hb0 H hbx hsz hve hll hbxe hC hd hj p1 hN hl hPk
    go_enter Tryz.func38, Tryz.ntmps38
    by_cases q1 : (0 : Int) < l <;> by_cases q2 : (0 : Int) < b.tmod 5
    · exact absurd HPk.out (by rw [decide_eq_true q1, decide_eq_true q2]; decide)
    all_goals
      go_wp2_with fail
      obtain ⟨W, hW⟩ : ∃ W, W = (wr.alloc (.cells #[.int .i64 D, .int .i64 n, .int .i64 b] 87)) := ⟨_, rfl⟩
      have hBW : Below (wr.alloc (.cells #[.int .i64 D, .int .i64 n, .int .i64 b] 87)).heap.size (wr.alloc (.cells #[.int .i64 D, .int .i64 n, .int .i64 b] 87)) W := by rw [hW]; exact Below.refl _ _
      rw [World.drewN_zero] at HFD
      clear e0 e1 e2 c0 q1 q2
      rw [← hW] at HFD ⊢
      have HMS := Aside0.mk (HX.out.1.step hBW)
      have hbW : W.heap[wr.heap.size]? = some (.cells #[.int .i64 D, .int .i64 n, .int .i64 b] 87 (0, 0)) := by
        rw [hBW.block _ (by rw [HX.out.2.2.1]; have := HX.out.2.2.2.2.2; omega)]
        have := HX.out.2.1
        rw [HX.out.2.2.2.2.2] at this
        exact this
      have hszW : wr.heap.size < W.heap.size := by have := hBW.size; rw [HX.out.2.2.1] at this; have := HX.out.2.2.2.2.2; omega
      have HAF := Aside0.mk (HFA.out.trans (AF.below (mb := mb) (ok := ok) (tv := tv) hBW))
      have HBX := Aside0.mk (And.intro hbW hszW)
      have c0 := HMS.out.mm.md.c0
      rw [HX.out.2.2.2.1] at c0
      have e0 := cell_of_row _ wr.heap.size 0 _ _ (0, 0) hbW
      have e1 := cell_of_row _ wr.heap.size 1 _ _ (0, 0) hbW
      have e2 := cell_of_row _ wr.heap.size 2 _ _ (0, 0) hbW
      replace e0 : W.cell? ⟨wr.heap.size, 0, none⟩ = some (.int .i64 D) := e0
      replace e1 : W.cell? ⟨wr.heap.size, 1, none⟩ = some (.int .i64 n) := e1
      replace e2 : W.cell? ⟨wr.heap.size, 2, none⟩ = some (.int .i64 b) := e2
      clear hW hBW hbW hszW
      refine HFD.mono ?_
      rintro e w' ⟨rfl, rfl⟩
      clear HFD
      go_wp2_with (first
        | (go_at_call 18; refine (HW8.out _).mono ?_; rintro e w' ⟨rfl, m8, rfl⟩)
        | (go_at_call 39; refine (num13_any _ _).mono ?_; rintro e w' ⟨rfl, rfl⟩)
        | (go_at_call 46; refine (groot_yes (HMS.out.fs.drewN m8).fat (HMS.out.fs.drewN m8).good b HB.out.1 HB.out.2).mono ?_; rintro e w1 ⟨rfl, hb1⟩; have hMs := (HMS.out.step (pw_below_drewN (Below.refl _ _) m8)).step hb1; have x3 := hMs.rootcell HB.out.1 HB.out.2; obtain ⟨i0, i1⟩ := HB.out; have e3 := (hb1.cell (p := ⟨wr.heap.size, 2, none⟩) (World.block_lt_of_cell? _ _ (show (W.drewN m8).cell? ⟨wr.heap.size, 2, none⟩ = _ from e2))).trans e2; have H1 := Aside0.mk hb1; clear hb1 hMs))
      go_quiet ((go_at_call 39; exact Calls.quiet_of_same ((num13_any _ _).mono (fun _ _ h => ⟨h.1, h.2.symm⟩))))
      go_wp2
      all_goals first
        | done
        | (go_ret; exact ⟨rfl, _, _, _, _, _, _, _, _, (((HMS.out.step (pw_below_drewN (Below.refl _ _) m8)).step H1.out).step (pw_below_drewN (Below.refl _ _) _)).more, ((HAF.out.trans (AF.below (pw_below_drewN (Below.refl _ _) m8))).trans (AF.below H1.out)).trans (AF.below (pw_below_drewN (Below.refl _ _) _)), Int.le_max_left _ _⟩)
end
end Go.Proofs.YtmdpgjdepflbmaaGreat
namespace Go.Proofs.YtmdpgjdepflbmaaGreat
open Go.RowKit Go.Maps Go.Proofs.YtmdpgjdepflbmaaGreatW.PrintWords Go.Proofs.YtmdpgjdepflbmaaGreatW.PrintLast Go.Proofs.YtmdpgjdepflbmaaGreatW.PrintMore
open Go.Proofs.YtmdpgjdepflbmaaGreat.PPagerFolds
set_option linter.unusedVariables false
set_option linter.unusedSimpArgs false

section
variable {w wr : World} {g : Nat} {B : PG} {V : Int → Bytes} {cnt : Int} {ok : Nat → Prop} {mb : Nat} {hv tv : Value} {L : List Int} {T : List (Nat × Nat)} {R : List Int} {N : Nat}
set_option maxHeartbeats 1000000 in
set_option maxRecDepth 100000 in
theorem act_alloc_yes (h : MS w wr g B V cnt ok mb hv tv L T R N) (hN : N ≤ 1000) (D n0 b n : Int) (k8 : Nat) (hd : IntKind.u64.wrap D % 8 = k8) (hs : Speaks L n0 b n) (j : Nat) (hj : L[j]? = some n) (hk8 : k8 < 3) :
    Calls Tryz.prog 38 #[dp mb, dp g, .agg #[.int .i64 D, .int .i64 n0, .int .i64 b]] wr fun e w' => AR w wr g B V ok mb tv N e w' := by
  have hb0 : Below wr.heap.size wr (wr.alloc (.cells #[.int .i64 D, .int .i64 n0, .int .i64 b] 87)) := (Below.refl _ _).alloc (Nat.le_refl _) _
  have H := h.step hb0
  have hbx : (wr.alloc (.cells #[.int .i64 D, .int .i64 n0, .int .i64 b] 87)).heap[wr.heap.size]? = some (.cells #[.int .i64 D, .int .i64 n0, .int .i64 b] 87 (0, 0)) := heap_alloc_new wr _
  have HFA := Aside0.mk (AF.below (mb := mb) (ok := ok) (tv := tv) hb0)
  have hl := h.len
  have hsz : (wr.alloc (.cells #[.int .i64 D, .int .i64 n0, .int .i64 b] 87)).heap.size = wr.heap.size + 1 := by simp
  obtain ⟨A, c, hve, hC, hc⟩ := R_rowk H.mm.md.held
  have c0 := H.mm.md.c0
  rw [hve] at c0
  obtain ⟨l, hll⟩ : ∃ l, l = L.length := ⟨_, rfl⟩
  rw [← hll] at hve hC hc c0 hl
  obtain ⟨bx, hbxe⟩ : ∃ bx, bx = wr.heap.size := ⟨_, rfl⟩
  rw [← hbxe] at hbx hsz
  have d0 := cell_of_row _ bx 0 _ _ (0, 0) hbx
  have d1 := cell_of_row _ bx 1 _ _ (0, 0) hbx
  have d2 := cell_of_row _ bx 2 _ _ (0, 0) hbx
  have e0 : (wr.alloc (.cells #[.int .i64 D, .int .i64 n0, .int .i64 b] 87)).cell? ⟨bx, 0, none⟩ = some (.int .i64 D) := d0
  have e1 : (wr.alloc (.cells #[.int .i64 D, .int .i64 n0, .int .i64 b] 87)).cell? ⟨bx, 1, none⟩ = some (.int .i64 n0) := d1
  have e2 : (wr.alloc (.cells #[.int .i64 D, .int .i64 n0, .int .i64 b] 87)).cell? ⟨bx, 2, none⟩ = some (.int .i64 b) := d2
  clear d0 d1 d2
  rw [hbxe] at e0 e1 e2
  have HFD := Aside0.mk (fun k : Nat => find_pos (w := (wr.alloc (.cells #[.int .i64 D, .int .i64 n0, .int .i64 b] 87)).drewN k) mb A l c L n j c0 (Kd.C_drewN hC k) (by omega) hj h.nodup)
  have HW8 := Aside0.mk (fun W : World => within_c D 8 k8 (by decide) (by decide) (by rw [show ((8 : Nat) : Int) = 8 from rfl, hd]) W)
  have q3 : ((k8 : Int) == 3) = false := by rw [beq_eq_false_iff_ne]; omega
  have q4 : ((k8 : Int) == 4) = false := by rw [beq_eq_false_iff_ne]; omega
  have q5 : ((k8 : Int) == 5) = false := by rw [beq_eq_false_iff_ne]; omega
  have q6 : ((k8 : Int) == 6) = false := by rw [beq_eq_false_iff_ne]; omega
  have q7 : ((k8 : Int) == 7) = false := by rw [beq_eq_false_iff_ne]; omega
  have HRoom := Aside0.mk (show wordZ (V 0) 16 < 3936 ∧ L.length ≤ 1000000 from ⟨by have := h.top; omega, by have := h.len; omega⟩)
  clear hk8
  have HX := Aside0.mk (And.intro H (And.intro hbx (And.intro hsz (And.intro hve (And.intro hll hbxe)))))
  have HJ := Aside0.mk hj
  rcases hs with ⟨p1, p2, r, hr, hLr⟩ | ⟨p1, rfl⟩
  · -- a held one is picked
    rw [← hll] at p1 hr
    obtain ⟨ad, rfl, hcx⟩ := Kd.at_int hC (r : Int) (by omega) (by have := (List.getElem?_eq_some_iff.1 hLr).1; omega)
    have hrl : r < l := by have := (List.getElem?_eq_some_iff.1 hLr).1; omega
    rw [Int.toNat_natCast, show rd L (r : Int) = n from by simp [rd, List.getD_eq_getElem?_getD, hLr]] at hcx
    have hcx' : ∀ k, ((wr.alloc (.cells #[.int .i64 D, .int .i64 n0, .int .i64 b] 87)).drewN k).cell? (ad.add r) = some (.int .i64 n) := fun k => hcx
    have HWi := Aside0.mk (fun W : World => within_c n0 l r (by omega) (by omega) hr W)
    have q1 : decide ((0 : Int) < l) = true := by simp; omega
    have q2 : decide ((0 : Int) < b.tmod 5) = true := by simp; omega
    clear h hb0 H hbx hsz hve hll hbxe hC hd hj hr hLr p1 p2 hN hl
    go_enter Tryz.func38, Tryz.ntmps38
    go_wp2
    go_quiet ((go_at_call 18; exact Calls.quiet_of (HWi.out _)))
    go_wp2_with fail
    obtain ⟨W, hW⟩ : ∃ W, W = (wr.alloc (.cells #[.int .i64 D, .int .i64 n0, .int .i64 b] 87)).drewN nq := ⟨_, rfl⟩
    have hBW : Below (wr.alloc (.cells #[.int .i64 D, .int .i64 n0, .int .i64 b] 87)).heap.size (wr.alloc (.cells #[.int .i64 D, .int .i64 n0, .int .i64 b] 87)) W := by rw [hW]; exact pw_below_drewN (Below.refl _ _) _
    have HFD := HFD.out nq
    clear hcx hcx' HWi e0 e1 e2 c0 q1 q2
    rw [← hW] at HFD ⊢
    have HMS := Aside0.mk (HX.out.1.step hBW)
    have hbW : W.heap[wr.heap.size]? = some (.cells #[.int .i64 D, .int .i64 n0, .int .i64 b] 87 (0, 0)) := by
      rw [hBW.block _ (by rw [HX.out.2.2.1]; have := HX.out.2.2.2.2.2; omega)]
      have := HX.out.2.1
      rw [HX.out.2.2.2.2.2] at this
      exact this
    have hszW : wr.heap.size < W.heap.size := by have := hBW.size; rw [HX.out.2.2.1] at this; have := HX.out.2.2.2.2.2; omega
    have HAF := Aside0.mk (HFA.out.trans (AF.below (mb := mb) (ok := ok) (tv := tv) hBW))
    have HBX := Aside0.mk (And.intro hbW hszW)
    have c0 := HMS.out.mm.md.c0
    rw [HX.out.2.2.2.1] at c0
    have e0 := cell_of_row _ wr.heap.size 0 _ _ (0, 0) hbW
    have e1 := cell_of_row _ wr.heap.size 1 _ _ (0, 0) hbW
    have e2 := cell_of_row _ wr.heap.size 2 _ _ (0, 0) hbW
    replace e0 : W.cell? ⟨wr.heap.size, 0, none⟩ = some (.int .i64 D) := e0
    replace e1 : W.cell? ⟨wr.heap.size, 1, none⟩ = some (.int .i64 n0) := e1
    replace e2 : W.cell? ⟨wr.heap.size, 2, none⟩ = some (.int .i64 b) := e2
    clear hW hBW hbW hszW
    refine HFD.mono ?_
    rintro e w' ⟨rfl, rfl⟩
    clear HFD
    go_wp2_with (first
      | (go_at_call 18; refine (HW8.out _).mono ?_; rintro e w' ⟨rfl, m8, rfl⟩)
      | (go_at_call 39; refine (num13_any _ _).mono ?_; rintro e w' ⟨rfl, rfl⟩)
      | (go_at_call 77; refine (fs_alloc (HMS.out.fs.drewN m8) HRoom.out.1).mono ?_; rintro e w1 ⟨x, V1, cnt1, rfl, hF, x1, x2, hno, hh, hV, ht, hr, hc, hnt⟩; obtain ⟨f1, f2, f3⟩ := (HMS.out.step (pw_below_drewN (Below.refl _ _) m8)).alloced hF x1 hno hh hV ht hr hc hnt; obtain ⟨A9, c9, hv9, hC9, hc9⟩ := R_rowk f1.held; have hcc := f1.c0; rw [hv9] at hcc; have HFi := Aside0.mk (find_neg mb A9 _ c9 L x hcc hC9 (Nat.lt_of_le_of_lt HRoom.out.2 (by decide)) f2); have HAd := Aside0.mk (add_any f1 x HRoom.out.2); have H1 := Aside0.mk f3; clear hF hno hh hV ht hr hc hnt f1 f2 f3 hC9 hc9 hcc hv9)
      | (go_at_call 71; refine (HFi.out).mono ?_; rintro e w' ⟨rfl, rfl⟩)
      | (go_at_call 78; refine (HAd.out).mono ?_; rintro e w2 ⟨rfl, hv', tv', k9, z9, hk, hlo, hhi, hmd, hg, hz, hz1, hz2⟩; have H2 := Aside0.mk (H1.out w2 hv' tv' k9 z9 hk hlo hhi hmd hg hz hz1 hz2); clear hk hlo hhi hmd hg hz hz1 hz2))
    all_goals first
      | done
      | (go_ret; exact ⟨rfl, _, _, _, _, _, _, _, _, H2.out.1, (HAF.out.trans (AF.below (pw_below_drewN (Below.refl _ _) m8))).trans H2.out.2.1, H2.out.2.2⟩)
  · -- the number itself
    have hPk : (decide ((0 : Int) < l) && decide ((0 : Int) < b.tmod 5)) = false := by
      rw [← hll] at p1
      rw [Bool.and_eq_false_iff]
      by_cases h1 : 0 < l
      · right; simp; omega
      · left; simp; omega
    have HFD := HFD.out 0
    have HPk := Aside0.mk hPk
    clear h hb0 H hbx hsz hve hll hbxe hC hd hj p1 hN hl hPk
    go_enter Tryz.func38, Tryz.ntmps38
    by_cases q1 : (0 : Int) < l <;> by_cases q2 : (0 : Int) < b.tmod 5
    · exact absurd HPk.out (by rw [decide_eq_true q1, decide_eq_true q2]; decide)
    all_goals
      go_wp2_with fail
      obtain ⟨W, hW⟩ : ∃ W, W = (wr.alloc (.cells #[.int .i64 D, .int .i64 n, .int .i64 b] 87)) := ⟨_, rfl⟩
      have hBW : Below (wr.alloc (.cells #[.int .i64 D, .int .i64 n, .int .i64 b] 87)).heap.size (wr.alloc (.cells #[.int .i64 D, .int .i64 n, .int .i64 b] 87)) W := by rw [hW]; exact Below.refl _ _
      rw [World.drewN_zero] at HFD
      clear e0 e1 e2 c0 q1 q2
      rw [← hW] at HFD ⊢
      have HMS := Aside0.mk (HX.out.1.step hBW)
      have hbW : W.heap[wr.heap.size]? = some (.cells #[.int .i64 D, .int .i64 n, .int .i64 b] 87 (0, 0)) := by
        rw [hBW.block _ (by rw [HX.out.2.2.1]; have := HX.out.2.2.2.2.2; omega)]
        have := HX.out.2.1
        rw [HX.out.2.2.2.2.2] at this
        exact this
      have hszW : wr.heap.size < W.heap.size := by have := hBW.size; rw [HX.out.2.2.1] at this; have := HX.out.2.2.2.2.2; omega
      have HAF := Aside0.mk (HFA.out.trans (AF.below (mb := mb) (ok := ok) (tv := tv) hBW))
      have HBX := Aside0.mk (And.intro hbW hszW)
      have c0 := HMS.out.mm.md.c0
      rw [HX.out.2.2.2.1] at c0
      have e0 := cell_of_row _ wr.heap.size 0 _ _ (0, 0) hbW
      have e1 := cell_of_row _ wr.heap.size 1 _ _ (0, 0) hbW
      have e2 := cell_of_row _ wr.heap.size 2 _ _ (0, 0) hbW
      replace e0 : W.cell? ⟨wr.heap.size, 0, none⟩ = some (.int .i64 D) := e0
      replace e1 : W.cell? ⟨wr.heap.size, 1, none⟩ = some (.int .i64 n) := e1
      replace e2 : W.cell? ⟨wr.heap.size, 2, none⟩ = some (.int .i64 b) := e2
      clear hW hBW hbW hszW
      refine HFD.mono ?_
      rintro e w' ⟨rfl, rfl⟩
      clear HFD
      go_wp2_with (first
        | (go_at_call 18; refine (HW8.out _).mono ?_; rintro e w' ⟨rfl, m8, rfl⟩)
        | (go_at_call 39; refine (num13_any _ _).mono ?_; rintro e w' ⟨rfl, rfl⟩)
        | (go_at_call 77; refine (fs_alloc (HMS.out.fs.drewN m8) HRoom.out.1).mono ?_; rintro e w1 ⟨x, V1, cnt1, rfl, hF, x1, x2, hno, hh, hV, ht, hr, hc, hnt⟩; obtain ⟨f1, f2, f3⟩ := (HMS.out.step (pw_below_drewN (Below.refl _ _) m8)).alloced hF x1 hno hh hV ht hr hc hnt; obtain ⟨A9, c9, hv9, hC9, hc9⟩ := R_rowk f1.held; have hcc := f1.c0; rw [hv9] at hcc; have HFi := Aside0.mk (find_neg mb A9 _ c9 L x hcc hC9 (Nat.lt_of_le_of_lt HRoom.out.2 (by decide)) f2); have HAd := Aside0.mk (add_any f1 x HRoom.out.2); have H1 := Aside0.mk f3; clear hF hno hh hV ht hr hc hnt f1 f2 f3 hC9 hc9 hcc hv9)
        | (go_at_call 71; refine (HFi.out).mono ?_; rintro e w' ⟨rfl, rfl⟩)
        | (go_at_call 78; refine (HAd.out).mono ?_; rintro e w2 ⟨rfl, hv', tv', k9, z9, hk, hlo, hhi, hmd, hg, hz, hz1, hz2⟩; have H2 := Aside0.mk (H1.out w2 hv' tv' k9 z9 hk hlo hhi hmd hg hz hz1 hz2); clear hk hlo hhi hmd hg hz hz1 hz2))
      all_goals first
        | done
        | (go_ret; exact ⟨rfl, _, _, _, _, _, _, _, _, H2.out.1, (HAF.out.trans (AF.below (pw_below_drewN (Below.refl _ _) m8))).trans H2.out.2.1, H2.out.2.2⟩)
set_option maxHeartbeats 1000000 in
set_option maxRecDepth 100000 in
theorem act_alloc_no (h : MS w wr g B V cnt ok mb hv tv L T R N) (hN : N ≤ 1000) (D n0 b n : Int) (k8 : Nat) (hd : IntKind.u64.wrap D % 8 = k8) (hs : Speaks L n0 b n) (hj : n ∉ L) (hk8 : k8 < 3) :
    Calls Tryz.prog 38 #[dp mb, dp g, .agg #[.int .i64 D, .int .i64 n0, .int .i64 b]] wr fun e w' => AR w wr g B V ok mb tv N e w' := by
  have hb0 : Below wr.heap.size wr (wr.alloc (.cells #[.int .i64 D, .int .i64 n0, .int .i64 b] 87)) := (Below.refl _ _).alloc (Nat.le_refl _) _
  have H := h.step hb0
  have hbx : (wr.alloc (.cells #[.int .i64 D, .int .i64 n0, .int .i64 b] 87)).heap[wr.heap.size]? = some (.cells #[.int .i64 D, .int .i64 n0, .int .i64 b] 87 (0, 0)) := heap_alloc_new wr _
  have HFA := Aside0.mk (AF.below (mb := mb) (ok := ok) (tv := tv) hb0)
  have hl := h.len
  have hsz : (wr.alloc (.cells #[.int .i64 D, .int .i64 n0, .int .i64 b] 87)).heap.size = wr.heap.size + 1 := by simp
  obtain ⟨A, c, hve, hC, hc⟩ := R_rowk H.mm.md.held
  have c0 := H.mm.md.c0
  rw [hve] at c0
  obtain ⟨l, hll⟩ : ∃ l, l = L.length := ⟨_, rfl⟩
  rw [← hll] at hve hC hc c0 hl
  obtain ⟨bx, hbxe⟩ : ∃ bx, bx = wr.heap.size := ⟨_, rfl⟩
  rw [← hbxe] at hbx hsz
  have d0 := cell_of_row _ bx 0 _ _ (0, 0) hbx
  have d1 := cell_of_row _ bx 1 _ _ (0, 0) hbx
  have d2 := cell_of_row _ bx 2 _ _ (0, 0) hbx
  have e0 : (wr.alloc (.cells #[.int .i64 D, .int .i64 n0, .int .i64 b] 87)).cell? ⟨bx, 0, none⟩ = some (.int .i64 D) := d0
  have e1 : (wr.alloc (.cells #[.int .i64 D, .int .i64 n0, .int .i64 b] 87)).cell? ⟨bx, 1, none⟩ = some (.int .i64 n0) := d1
  have e2 : (wr.alloc (.cells #[.int .i64 D, .int .i64 n0, .int .i64 b] 87)).cell? ⟨bx, 2, none⟩ = some (.int .i64 b) := d2
  clear d0 d1 d2
  rw [hbxe] at e0 e1 e2
  have HFD := Aside0.mk (fun k : Nat => find_neg (w := (wr.alloc (.cells #[.int .i64 D, .int .i64 n0, .int .i64 b] 87)).drewN k) mb A l c L n c0 (Kd.C_drewN hC k) (by omega) hj)
  have HW8 := Aside0.mk (fun W : World => within_c D 8 k8 (by decide) (by decide) (by rw [show ((8 : Nat) : Int) = 8 from rfl, hd]) W)
  have q3 : ((k8 : Int) == 3) = false := by rw [beq_eq_false_iff_ne]; omega
  have q4 : ((k8 : Int) == 4) = false := by rw [beq_eq_false_iff_ne]; omega
  have q5 : ((k8 : Int) == 5) = false := by rw [beq_eq_false_iff_ne]; omega
  have q6 : ((k8 : Int) == 6) = false := by rw [beq_eq_false_iff_ne]; omega
  have q7 : ((k8 : Int) == 7) = false := by rw [beq_eq_false_iff_ne]; omega
  have HRoom := Aside0.mk (show wordZ (V 0) 16 < 3936 ∧ L.length ≤ 1000000 from ⟨by have := h.top; omega, by have := h.len; omega⟩)
  clear hk8
  have HX := Aside0.mk (And.intro H (And.intro hbx (And.intro hsz (And.intro hve (And.intro hll hbxe)))))
  have HJ := Aside0.mk hj
  rcases hs with ⟨p1, p2, r, hr, hLr⟩ | ⟨p1, rfl⟩
  · -- a held one is picked
    rw [← hll] at p1 hr
    obtain ⟨ad, rfl, hcx⟩ := Kd.at_int hC (r : Int) (by omega) (by have := (List.getElem?_eq_some_iff.1 hLr).1; omega)
    have hrl : r < l := by have := (List.getElem?_eq_some_iff.1 hLr).1; omega
    rw [Int.toNat_natCast, show rd L (r : Int) = n from by simp [rd, List.getD_eq_getElem?_getD, hLr]] at hcx
    have hcx' : ∀ k, ((wr.alloc (.cells #[.int .i64 D, .int .i64 n0, .int .i64 b] 87)).drewN k).cell? (ad.add r) = some (.int .i64 n) := fun k => hcx
    have HWi := Aside0.mk (fun W : World => within_c n0 l r (by omega) (by omega) hr W)
    have q1 : decide ((0 : Int) < l) = true := by simp; omega
    have q2 : decide ((0 : Int) < b.tmod 5) = true := by simp; omega
    clear h hb0 H hbx hsz hve hll hbxe hC hd hj hr hLr p1 p2 hN hl
    go_enter Tryz.func38, Tryz.ntmps38
    go_wp2
    go_quiet ((go_at_call 18; exact Calls.quiet_of (HWi.out _)))
    go_wp2_with fail
    obtain ⟨W, hW⟩ : ∃ W, W = (wr.alloc (.cells #[.int .i64 D, .int .i64 n0, .int .i64 b] 87)).drewN nq := ⟨_, rfl⟩
    have hBW : Below (wr.alloc (.cells #[.int .i64 D, .int .i64 n0, .int .i64 b] 87)).heap.size (wr.alloc (.cells #[.int .i64 D, .int .i64 n0, .int .i64 b] 87)) W := by rw [hW]; exact pw_below_drewN (Below.refl _ _) _
    have HFD := HFD.out nq
    clear hcx hcx' HWi e0 e1 e2 c0 q1 q2
    rw [← hW] at HFD ⊢
    have HMS := Aside0.mk (HX.out.1.step hBW)
    have hbW : W.heap[wr.heap.size]? = some (.cells #[.int .i64 D, .int .i64 n0, .int .i64 b] 87 (0, 0)) := by
      rw [hBW.block _ (by rw [HX.out.2.2.1]; have := HX.out.2.2.2.2.2; omega)]
      have := HX.out.2.1
      rw [HX.out.2.2.2.2.2] at this
      exact this
    have hszW : wr.heap.size < W.heap.size := by have := hBW.size; rw [HX.out.2.2.1] at this; have := HX.out.2.2.2.2.2; omega
    have HAF := Aside0.mk (HFA.out.trans (AF.below (mb := mb) (ok := ok) (tv := tv) hBW))
    have HBX := Aside0.mk (And.intro hbW hszW)
    have c0 := HMS.out.mm.md.c0
    rw [HX.out.2.2.2.1] at c0
    have e0 := cell_of_row _ wr.heap.size 0 _ _ (0, 0) hbW
    have e1 := cell_of_row _ wr.heap.size 1 _ _ (0, 0) hbW
    have e2 := cell_of_row _ wr.heap.size 2 _ _ (0, 0) hbW
    replace e0 : W.cell? ⟨wr.heap.size, 0, none⟩ = some (.int .i64 D) := e0
    replace e1 : W.cell? ⟨wr.heap.size, 1, none⟩ = some (.int .i64 n0) := e1
    replace e2 : W.cell? ⟨wr.heap.size, 2, none⟩ = some (.int .i64 b) := e2
    clear hW hBW hbW hszW
    refine HFD.mono ?_
    rintro e w' ⟨rfl, rfl⟩
    clear HFD
    go_wp2_with (first
      | (go_at_call 18; refine (HW8.out _).mono ?_; rintro e w' ⟨rfl, m8, rfl⟩)
      | (go_at_call 39; refine (num13_any _ _).mono ?_; rintro e w' ⟨rfl, rfl⟩)
      | (go_at_call 77; refine (fs_alloc (HMS.out.fs.drewN m8) HRoom.out.1).mono ?_; rintro e w1 ⟨x, V1, cnt1, rfl, hF, x1, x2, hno, hh, hV, ht, hr, hc, hnt⟩; obtain ⟨f1, f2, f3⟩ := (HMS.out.step (pw_below_drewN (Below.refl _ _) m8)).alloced hF x1 hno hh hV ht hr hc hnt; obtain ⟨A9, c9, hv9, hC9, hc9⟩ := R_rowk f1.held; have hcc := f1.c0; rw [hv9] at hcc; have HFi := Aside0.mk (find_neg mb A9 _ c9 L x hcc hC9 (Nat.lt_of_le_of_lt HRoom.out.2 (by decide)) f2); have HAd := Aside0.mk (add_any f1 x HRoom.out.2); have H1 := Aside0.mk f3; clear hF hno hh hV ht hr hc hnt f1 f2 f3 hC9 hc9 hcc hv9)
      | (go_at_call 71; refine (HFi.out).mono ?_; rintro e w' ⟨rfl, rfl⟩)
      | (go_at_call 78; refine (HAd.out).mono ?_; rintro e w2 ⟨rfl, hv', tv', k9, z9, hk, hlo, hhi, hmd, hg, hz, hz1, hz2⟩; have H2 := Aside0.mk (H1.out w2 hv' tv' k9 z9 hk hlo hhi hmd hg hz hz1 hz2); clear hk hlo hhi hmd hg hz hz1 hz2))
    all_goals first
      | done
      | (go_ret; exact ⟨rfl, _, _, _, _, _, _, _, _, H2.out.1, (HAF.out.trans (AF.below (pw_below_drewN (Below.refl _ _) m8))).trans H2.out.2.1, H2.out.2.2⟩)
  · -- the number itself
    have hPk : (decide ((0 : Int) < l) && decide ((0 : Int) < b.tmod 5)) = false := by
      rw [← hll] at p1
      rw [Bool.and_eq_false_iff]
      by_cases h1 : 0 < l
      · right; simp; omega
      · left; simp; omega
    have HFD := HFD.out 0
    have HPk := Aside0.mk hPk
    clear h hb0 H hbx hsz hve hll hbxe hC hd hj p1 hN hl hPk
    go_enter Tryz.func38, Tryz.ntmps38
    by_cases q1 : (0 : Int) < l <;> by_cases q2 : (0 : Int) < b.tmod 5
    · exact absurd HPk.out (by rw [decide_eq_true q1, decide_eq_true q2]; decide)
    all_goals
      go_wp2_with fail
      obtain ⟨W, hW⟩ : ∃ W, W = (wr.alloc (.cells #[.int .i64 D, .int .i64 n, .int .i64 b] 87)) := ⟨_, rfl⟩
      have hBW : Below (wr.alloc (.cells #[.int .i64 D, .int .i64 n, .int .i64 b] 87)).heap.size (wr.alloc (.cells #[.int .i64 D, .int .i64 n, .int .i64 b] 87)) W := by rw [hW]; exact Below.refl _ _
      rw [World.drewN_zero] at HFD
      clear e0 e1 e2 c0 q1 q2
      rw [← hW] at HFD ⊢
      have HMS := Aside0.mk (HX.out.1.step hBW)
      have hbW : W.heap[wr.heap.size]? = some (.cells #[.int .i64 D, .int .i64 n, .int .i64 b] 87 (0, 0)) := by
        rw [hBW.block _ (by rw [HX.out.2.2.1]; have := HX.out.2.2.2.2.2; omega)]
        have := HX.out.2.1
        rw [HX.out.2.2.2.2.2] at this
        exact this
      have hszW : wr.heap.size < W.heap.size := by have := hBW.size; rw [HX.out.2.2.1] at this; have := HX.out.2.2.2.2.2; omega
      have HAF := Aside0.mk (HFA.out.trans (AF.below (mb := mb) (ok := ok) (tv := tv) hBW))
      have HBX := Aside0.mk (And.intro hbW hszW)
      have c0 := HMS.out.mm.md.c0
      rw [HX.out.2.2.2.1] at c0
      have e0 := cell_of_row _ wr.heap.size 0 _ _ (0, 0) hbW
      have e1 := cell_of_row _ wr.heap.size 1 _ _ (0, 0) hbW
      have e2 := cell_of_row _ wr.heap.size 2 _ _ (0, 0) hbW
      replace e0 : W.cell? ⟨wr.heap.size, 0, none⟩ = some (.int .i64 D) := e0
      replace e1 : W.cell? ⟨wr.heap.size, 1, none⟩ = some (.int .i64 n) := e1
      replace e2 : W.cell? ⟨wr.heap.size, 2, none⟩ = some (.int .i64 b) := e2
      clear hW hBW hbW hszW
      refine HFD.mono ?_
      rintro e w' ⟨rfl, rfl⟩
      clear HFD
      go_wp2_with (first
        | (go_at_call 18; refine (HW8.out _).mono ?_; rintro e w' ⟨rfl, m8, rfl⟩)
        | (go_at_call 39; refine (num13_any _ _).mono ?_; rintro e w' ⟨rfl, rfl⟩)
        | (go_at_call 77; refine (fs_alloc (HMS.out.fs.drewN m8) HRoom.out.1).mono ?_; rintro e w1 ⟨x, V1, cnt1, rfl, hF, x1, x2, hno, hh, hV, ht, hr, hc, hnt⟩; obtain ⟨f1, f2, f3⟩ := (HMS.out.step (pw_below_drewN (Below.refl _ _) m8)).alloced hF x1 hno hh hV ht hr hc hnt; obtain ⟨A9, c9, hv9, hC9, hc9⟩ := R_rowk f1.held; have hcc := f1.c0; rw [hv9] at hcc; have HFi := Aside0.mk (find_neg mb A9 _ c9 L x hcc hC9 (Nat.lt_of_le_of_lt HRoom.out.2 (by decide)) f2); have HAd := Aside0.mk (add_any f1 x HRoom.out.2); have H1 := Aside0.mk f3; clear hF hno hh hV ht hr hc hnt f1 f2 f3 hC9 hc9 hcc hv9)
        | (go_at_call 71; refine (HFi.out).mono ?_; rintro e w' ⟨rfl, rfl⟩)
        | (go_at_call 78; refine (HAd.out).mono ?_; rintro e w2 ⟨rfl, hv', tv', k9, z9, hk, hlo, hhi, hmd, hg, hz, hz1, hz2⟩; have H2 := Aside0.mk (H1.out w2 hv' tv' k9 z9 hk hlo hhi hmd hg hz hz1 hz2); clear hk hlo hhi hmd hg hz hz1 hz2))
      all_goals first
        | done
        | (go_ret; exact ⟨rfl, _, _, _, _, _, _, _, _, H2.out.1, (HAF.out.trans (AF.below (pw_below_drewN (Below.refl _ _) m8))).trans H2.out.2.1, H2.out.2.2⟩)
end
end Go.Proofs.YtmdpgjdepflbmaaGreat
namespace Go.Proofs.YtmdpgjdepflbmaaGreat
open Go.RowKit Go.Maps Go.Proofs.YtmdpgjdepflbmaaGreatW.PrintWords Go.Proofs.YtmdpgjdepflbmaaGreatW.PrintLast Go.Proofs.YtmdpgjdepflbmaaGreatW.PrintMore
open Go.Proofs.YtmdpgjdepflbmaaGreat.PPagerFolds
set_option linter.unusedVariables false
set_option linter.unusedSimpArgs false

section
variable {w wr : World} {g : Nat} {B : PG} {V : Int → Bytes} {cnt : Int} {ok : Nat → Prop} {mb : Nat} {hv tv : Value} {L : List Int} {T : List (Nat × Nat)} {R : List Int} {N : Nat}
set_option maxHeartbeats 1000000 in
set_option maxRecDepth 100000 in
theorem act_setroot_in_yes (h : MS w wr g B V cnt ok mb hv tv L T R N) (hN : N ≤ 1000) (D n0 b n : Int) (hd : IntKind.u64.wrap D % 8 = 6) (hs : Speaks L n0 b n) (j : Nat) (hj : L[j]? = some n) (hb0' : 0 ≤ b) (hb1' : b < 8) (hn0' : 0 ≤ n0) (hn1' : n0 < 4096) :
    Calls Tryz.prog 38 #[dp mb, dp g, .agg #[.int .i64 D, .int .i64 n0, .int .i64 b]] wr fun e w' => AR w wr g B V ok mb tv N e w' := by
  have hb0 : Below wr.heap.size wr (wr.alloc (.cells #[.int .i64 D, .int .i64 n0, .int .i64 b] 87)) := (Below.refl _ _).alloc (Nat.le_refl _) _
  have H := h.step hb0
  have hbx : (wr.alloc (.cells #[.int .i64 D, .int .i64 n0, .int .i64 b] 87)).heap[wr.heap.size]? = some (.cells #[.int .i64 D, .int .i64 n0, .int .i64 b] 87 (0, 0)) := heap_alloc_new wr _
  have HFA := Aside0.mk (AF.below (mb := mb) (ok := ok) (tv := tv) hb0)
  have hl := h.len
  have hsz : (wr.alloc (.cells #[.int .i64 D, .int .i64 n0, .int .i64 b] 87)).heap.size = wr.heap.size + 1 := by simp
  obtain ⟨A, c, hve, hC, hc⟩ := R_rowk H.mm.md.held
  have c0 := H.mm.md.c0
  rw [hve] at c0
  obtain ⟨l, hll⟩ : ∃ l, l = L.length := ⟨_, rfl⟩
  rw [← hll] at hve hC hc c0 hl
  obtain ⟨bx, hbxe⟩ : ∃ bx, bx = wr.heap.size := ⟨_, rfl⟩
  rw [← hbxe] at hbx hsz
  have d0 := cell_of_row _ bx 0 _ _ (0, 0) hbx
  have d1 := cell_of_row _ bx 1 _ _ (0, 0) hbx
  have d2 := cell_of_row _ bx 2 _ _ (0, 0) hbx
  have e0 : (wr.alloc (.cells #[.int .i64 D, .int .i64 n0, .int .i64 b] 87)).cell? ⟨bx, 0, none⟩ = some (.int .i64 D) := d0
  have e1 : (wr.alloc (.cells #[.int .i64 D, .int .i64 n0, .int .i64 b] 87)).cell? ⟨bx, 1, none⟩ = some (.int .i64 n0) := d1
  have e2 : (wr.alloc (.cells #[.int .i64 D, .int .i64 n0, .int .i64 b] 87)).cell? ⟨bx, 2, none⟩ = some (.int .i64 b) := d2
  clear d0 d1 d2
  rw [hbxe] at e0 e1 e2
  have HFD := Aside0.mk (fun k : Nat => find_pos (w := (wr.alloc (.cells #[.int .i64 D, .int .i64 n0, .int .i64 b] 87)).drewN k) mb A l c L n j c0 (Kd.C_drewN hC k) (by omega) hj h.nodup)
  have HW8 := Aside0.mk (fun W : World => within_c D 8 6 (by decide) (by decide) (by rw [show ((8 : Nat) : Int) = 8 from rfl, hd]; rfl) W)
  have HB := Aside0.mk (And.intro hb0' (And.intro hb1' (And.intro hn0' hn1')))
  clear hb0' hb1' hn0' hn1'
  have HBO := Aside0.mk (show ¬ ok wr.heap.size from fun h' => Nat.lt_irrefl _ (h.fs.lt _ h'))
  have HX := Aside0.mk (And.intro H (And.intro hbx (And.intro hsz (And.intro hve (And.intro hll hbxe)))))
  have HJ := Aside0.mk hj
  rcases hs with ⟨p1, p2, r, hr, hLr⟩ | ⟨p1, rfl⟩
  · -- a held one is picked
    rw [← hll] at p1 hr
    obtain ⟨ad, rfl, hcx⟩ := Kd.at_int hC (r : Int) (by omega) (by have := (List.getElem?_eq_some_iff.1 hLr).1; omega)
    have hrl : r < l := by have := (List.getElem?_eq_some_iff.1 hLr).1; omega
    rw [Int.toNat_natCast, show rd L (r : Int) = n from by simp [rd, List.getD_eq_getElem?_getD, hLr]] at hcx
    have hcx' : ∀ k, ((wr.alloc (.cells #[.int .i64 D, .int .i64 n0, .int .i64 b] 87)).drewN k).cell? (ad.add r) = some (.int .i64 n) := fun k => hcx
    have HWi := Aside0.mk (fun W : World => within_c n0 l r (by omega) (by omega) hr W)
    have q1 : decide ((0 : Int) < l) = true := by simp; omega
    have q2 : decide ((0 : Int) < b.tmod 5) = true := by simp; omega
    clear h hb0 H hbx hsz hve hll hbxe hC hd hj hr hLr p1 p2 hN hl
    go_enter Tryz.func38, Tryz.ntmps38
    go_wp2
    go_quiet ((go_at_call 18; exact Calls.quiet_of (HWi.out _)))
    go_wp2_with fail
    obtain ⟨W, hW⟩ : ∃ W, W = (wr.alloc (.cells #[.int .i64 D, .int .i64 n0, .int .i64 b] 87)).drewN nq := ⟨_, rfl⟩
    have hBW : Below (wr.alloc (.cells #[.int .i64 D, .int .i64 n0, .int .i64 b] 87)).heap.size (wr.alloc (.cells #[.int .i64 D, .int .i64 n0, .int .i64 b] 87)) W := by rw [hW]; exact pw_below_drewN (Below.refl _ _) _
    have HFD := HFD.out nq
    clear hcx hcx' HWi e0 e1 e2 c0 q1 q2
    rw [← hW] at HFD ⊢
    have HMS := Aside0.mk (HX.out.1.step hBW)
    have hbW : W.heap[wr.heap.size]? = some (.cells #[.int .i64 D, .int .i64 n0, .int .i64 b] 87 (0, 0)) := by
      rw [hBW.block _ (by rw [HX.out.2.2.1]; have := HX.out.2.2.2.2.2; omega)]
      have := HX.out.2.1
      rw [HX.out.2.2.2.2.2] at this
      exact this
    have hszW : wr.heap.size < W.heap.size := by have := hBW.size; rw [HX.out.2.2.1] at this; have := HX.out.2.2.2.2.2; omega
    have HAF := Aside0.mk (HFA.out.trans (AF.below (mb := mb) (ok := ok) (tv := tv) hBW))
    have HBX := Aside0.mk (And.intro hbW hszW)
    have c0 := HMS.out.mm.md.c0
    rw [HX.out.2.2.2.1] at c0
    have e0 := cell_of_row _ wr.heap.size 0 _ _ (0, 0) hbW
    have e1 := cell_of_row _ wr.heap.size 1 _ _ (0, 0) hbW
    have e2 := cell_of_row _ wr.heap.size 2 _ _ (0, 0) hbW
    replace e0 : W.cell? ⟨wr.heap.size, 0, none⟩ = some (.int .i64 D) := e0
    replace e1 : W.cell? ⟨wr.heap.size, 1, none⟩ = some (.int .i64 n0) := e1
    replace e2 : W.cell? ⟨wr.heap.size, 2, none⟩ = some (.int .i64 b) := e2
    clear hW hBW hbW hszW
    refine HFD.mono ?_
    rintro e w' ⟨rfl, rfl⟩
    clear HFD
    go_wp2_with (first
      | (go_at_call 18; refine (HW8.out _).mono ?_; rintro e w' ⟨rfl, m8, rfl⟩)
      | (go_at_call 39; refine (num13_any _ _).mono ?_; rintro e w' ⟨rfl, rfl⟩)
      | (go_at_call 76; refine (gsetroot_yes (HMS.out.fs.drewN m8).fat (HMS.out.fs.drewN m8).good b n0 HB.out.1 HB.out.2.1 HB.out.2.2.1 HB.out.2.2.2).mono ?_; rintro e w1 ⟨rfl, hL⟩; have x3 := (HMS.out.step (pw_below_drewN (Below.refl _ _) m8)).rootcell HB.out.1 HB.out.2.1; have hlx : wr.heap.size < (W.drewN m8).heap.size := HBX.out.2; have hnx : ¬ ok wr.heap.size := HBO.out; obtain ⟨g1, g2, g3, g4⟩ := (HMS.out.step (pw_below_drewN (Below.refl _ _) m8)).rooted HB.out.1 HB.out.2.1 HB.out.2.2.1 HB.out.2.2.2 hL; have y3 := (g1 (2 + b.toNat)).trans x3; have y1 := (World.cell?_of_block (a := ⟨wr.heap.size, 1, none⟩) (hL.2.block wr.heap.size hlx hnx)).trans (show (W.drewN m8).cell? ⟨wr.heap.size, 1, none⟩ = _ from e1); have y2 := (World.cell?_of_block (a := ⟨wr.heap.size, 2, none⟩) (hL.2.block wr.heap.size hlx hnx)).trans (show (W.drewN m8).cell? ⟨wr.heap.size, 2, none⟩ = _ from e2); obtain ⟨i0, i1, i2, i3⟩ := HB.out; have H1 := Aside0.mk (And.intro g3 g4); clear hL g1 g3 g4 hlx hnx x3))
    go_still_tail 8, (by kernel_rfl)
    go_wp2
    all_goals first
      | done
      | (go_ret; exact ⟨rfl, _, _, _, _, _, _, _, _, (H1.out.1.step (below_drew (Below.refl _ _))).more, (HAF.out.trans (AF.below (pw_below_drewN (Below.refl _ _) m8))).trans (H1.out.2.1.trans (AF.below (below_drew (Below.refl _ _)))), H1.out.2.2⟩)
  · -- the number itself
    have hPk : (decide ((0 : Int) < l) && decide ((0 : Int) < b.tmod 5)) = false := by
      rw [← hll] at p1
      rw [Bool.and_eq_false_iff]
      by_cases h1 : 0 < l
      · right; simp; omega
      · left; simp; omega
    have HFD := HFD.out 0
    have HPk := Aside0.mk hPk
    clear h hb0 H hbx hsz hve hll hbxe hC hd hj p1 hN hl hPk
    go_enter Tryz.func38, Tryz.ntmps38
    by_cases q1 : (0 : Int) < l <;> by_cases q2 : (0 : Int) < b.tmod 5
    · exact absurd HPk.out (by rw [decide_eq_true q1, decide_eq_true q2]; decide)
    all_goals
      go_wp2_with fail
      obtain ⟨W, hW⟩ : ∃ W, W = (wr.alloc (.cells #[.int .i64 D, .int .i64 n, .int .i64 b] 87)) := ⟨_, rfl⟩
      have hBW : Below (wr.alloc (.cells #[.int .i64 D, .int .i64 n, .int .i64 b] 87)).heap.size (wr.alloc (.cells #[.int .i64 D, .int .i64 n, .int .i64 b] 87)) W := by rw [hW]; exact Below.refl _ _
      rw [World.drewN_zero] at HFD
      clear e0 e1 e2 c0 q1 q2
      rw [← hW] at HFD ⊢
      have HMS := Aside0.mk (HX.out.1.step hBW)
      have hbW : W.heap[wr.heap.size]? = some (.cells #[.int .i64 D, .int .i64 n, .int .i64 b] 87 (0, 0)) := by
        rw [hBW.block _ (by rw [HX.out.2.2.1]; have := HX.out.2.2.2.2.2; omega)]
        have := HX.out.2.1
        rw [HX.out.2.2.2.2.2] at this
        exact this
      have hszW : wr.heap.size < W.heap.size := by have := hBW.size; rw [HX.out.2.2.1] at this; have := HX.out.2.2.2.2.2; omega
      have HAF := Aside0.mk (HFA.out.trans (AF.below (mb := mb) (ok := ok) (tv := tv) hBW))
      have HBX := Aside0.mk (And.intro hbW hszW)
      have c0 := HMS.out.mm.md.c0
      rw [HX.out.2.2.2.1] at c0
      have e0 := cell_of_row _ wr.heap.size 0 _ _ (0, 0) hbW
      have e1 := cell_of_row _ wr.heap.size 1 _ _ (0, 0) hbW
      have e2 := cell_of_row _ wr.heap.size 2 _ _ (0, 0) hbW
      replace e0 : W.cell? ⟨wr.heap.size, 0, none⟩ = some (.int .i64 D) := e0
      replace e1 : W.cell? ⟨wr.heap.size, 1, none⟩ = some (.int .i64 n) := e1
      replace e2 : W.cell? ⟨wr.heap.size, 2, none⟩ = some (.int .i64 b) := e2
      clear hW hBW hbW hszW
      refine HFD.mono ?_
      rintro e w' ⟨rfl, rfl⟩
      clear HFD
      go_wp2_with (first
        | (go_at_call 18; refine (HW8.out _).mono ?_; rintro e w' ⟨rfl, m8, rfl⟩)
        | (go_at_call 39; refine (num13_any _ _).mono ?_; rintro e w' ⟨rfl, rfl⟩)
        | (go_at_call 76; refine (gsetroot_yes (HMS.out.fs.drewN m8).fat (HMS.out.fs.drewN m8).good b n HB.out.1 HB.out.2.1 HB.out.2.2.1 HB.out.2.2.2).mono ?_; rintro e w1 ⟨rfl, hL⟩; have x3 := (HMS.out.step (pw_below_drewN (Below.refl _ _) m8)).rootcell HB.out.1 HB.out.2.1; have hlx : wr.heap.size < (W.drewN m8).heap.size := HBX.out.2; have hnx : ¬ ok wr.heap.size := HBO.out; obtain ⟨g1, g2, g3, g4⟩ := (HMS.out.step (pw_below_drewN (Below.refl _ _) m8)).rooted HB.out.1 HB.out.2.1 HB.out.2.2.1 HB.out.2.2.2 hL; have y3 := (g1 (2 + b.toNat)).trans x3; have y1 := (World.cell?_of_block (a := ⟨wr.heap.size, 1, none⟩) (hL.2.block wr.heap.size hlx hnx)).trans (show (W.drewN m8).cell? ⟨wr.heap.size, 1, none⟩ = _ from e1); have y2 := (World.cell?_of_block (a := ⟨wr.heap.size, 2, none⟩) (hL.2.block wr.heap.size hlx hnx)).trans (show (W.drewN m8).cell? ⟨wr.heap.size, 2, none⟩ = _ from e2); obtain ⟨i0, i1, i2, i3⟩ := HB.out; have H1 := Aside0.mk (And.intro g3 g4); clear hL g1 g3 g4 hlx hnx x3))
      go_still_tail 8, (by kernel_rfl)
      go_wp2
      all_goals first
        | done
        | (go_ret; exact ⟨rfl, _, _, _, _, _, _, _, _, (H1.out.1.step (below_drew (Below.refl _ _))).more, (HAF.out.trans (AF.below (pw_below_drewN (Below.refl _ _) m8))).trans (H1.out.2.1.trans (AF.below (below_drew (Below.refl _ _)))), H1.out.2.2⟩)
set_option maxHeartbeats 1000000 in
set_option maxRecDepth 100000 in
theorem act_setroot_in_no (h : MS w wr g B V cnt ok mb hv tv L T R N) (hN : N ≤ 1000) (D n0 b n : Int) (hd : IntKind.u64.wrap D % 8 = 6) (hs : Speaks L n0 b n) (hj : n ∉ L) (hb0' : 0 ≤ b) (hb1' : b < 8) (hn0' : 0 ≤ n0) (hn1' : n0 < 4096) :
    Calls Tryz.prog 38 #[dp mb, dp g, .agg #[.int .i64 D, .int .i64 n0, .int .i64 b]] wr fun e w' => AR w wr g B V ok mb tv N e w' := by
  have hb0 : Below wr.heap.size wr (wr.alloc (.cells #[.int .i64 D, .int .i64 n0, .int .i64 b] 87)) := (Below.refl _ _).alloc (Nat.le_refl _) _
  have H := h.step hb0
  have hbx : (wr.alloc (.cells #[.int .i64 D, .int .i64 n0, .int .i64 b] 87)).heap[wr.heap.size]? = some (.cells #[.int .i64 D, .int .i64 n0, .int .i64 b] 87 (0, 0)) := heap_alloc_new wr _
  have HFA := Aside0.mk (AF.below (mb := mb) (ok := ok) (tv := tv) hb0)
  have hl := h.len
  have hsz : (wr.alloc (.cells #[.int .i64 D, .int .i64 n0, .int .i64 b] 87)).heap.size = wr.heap.size + 1 := by simp
  obtain ⟨A, c, hve, hC, hc⟩ := R_rowk H.mm.md.held
  have c0 := H.mm.md.c0
  rw [hve] at c0
  obtain ⟨l, hll⟩ : ∃ l, l = L.length := ⟨_, rfl⟩
  rw [← hll] at hve hC hc c0 hl
  obtain ⟨bx, hbxe⟩ : ∃ bx, bx = wr.heap.size := ⟨_, rfl⟩
  rw [← hbxe] at hbx hsz
  have d0 := cell_of_row _ bx 0 _ _ (0, 0) hbx
  have d1 := cell_of_row _ bx 1 _ _ (0, 0) hbx
  have d2 := cell_of_row _ bx 2 _ _ (0, 0) hbx
  have e0 : (wr.alloc (.cells #[.int .i64 D, .int .i64 n0, .int .i64 b] 87)).cell? ⟨bx, 0, none⟩ = some (.int .i64 D) := d0
  have e1 : (wr.alloc (.cells #[.int .i64 D, .int .i64 n0, .int .i64 b] 87)).cell? ⟨bx, 1, none⟩ = some (.int .i64 n0) := d1
  have e2 : (wr.alloc (.cells #[.int .i64 D, .int .i64 n0, .int .i64 b] 87)).cell? ⟨bx, 2, none⟩ = some (.int .i64 b) := d2
  clear d0 d1 d2
  rw [hbxe] at e0 e1 e2
  have HFD := Aside0.mk (fun k : Nat => find_neg (w := (wr.alloc (.cells #[.int .i64 D, .int .i64 n0, .int .i64 b] 87)).drewN k) mb A l c L n c0 (Kd.C_drewN hC k) (by omega) hj)
  have HW8 := Aside0.mk (fun W : World => within_c D 8 6 (by decide) (by decide) (by rw [show ((8 : Nat) : Int) = 8 from rfl, hd]; rfl) W)
  have HB := Aside0.mk (And.intro hb0' (And.intro hb1' (And.intro hn0' hn1')))
  clear hb0' hb1' hn0' hn1'
  have HBO := Aside0.mk (show ¬ ok wr.heap.size from fun h' => Nat.lt_irrefl _ (h.fs.lt _ h'))
  have HX := Aside0.mk (And.intro H (And.intro hbx (And.intro hsz (And.intro hve (And.intro hll hbxe)))))
  have HJ := Aside0.mk hj
  rcases hs with ⟨p1, p2, r, hr, hLr⟩ | ⟨p1, rfl⟩
  · -- a held one is picked
    rw [← hll] at p1 hr
    obtain ⟨ad, rfl, hcx⟩ := Kd.at_int hC (r : Int) (by omega) (by have := (List.getElem?_eq_some_iff.1 hLr).1; omega)
    have hrl : r < l := by have := (List.getElem?_eq_some_iff.1 hLr).1; omega
    rw [Int.toNat_natCast, show rd L (r : Int) = n from by simp [rd, List.getD_eq_getElem?_getD, hLr]] at hcx
    have hcx' : ∀ k, ((wr.alloc (.cells #[.int .i64 D, .int .i64 n0, .int .i64 b] 87)).drewN k).cell? (ad.add r) = some (.int .i64 n) := fun k => hcx
    have HWi := Aside0.mk (fun W : World => within_c n0 l r (by omega) (by omega) hr W)
    have q1 : decide ((0 : Int) < l) = true := by simp; omega
    have q2 : decide ((0 : Int) < b.tmod 5) = true := by simp; omega
    clear h hb0 H hbx hsz hve hll hbxe hC hd hj hr hLr p1 p2 hN hl
    go_enter Tryz.func38, Tryz.ntmps38
    go_wp2
    go_quiet ((go_at_call 18; exact Calls.quiet_of (HWi.out _)))
    go_wp2_with fail
    obtain ⟨W, hW⟩ : ∃ W, W = (wr.alloc (.cells #[.int .i64 D, .int .i64 n0, .int .i64 b] 87)).drewN nq := ⟨_, rfl⟩
    have hBW : Below (wr.alloc (.cells #[.int .i64 D, .int .i64 n0, .int .i64 b] 87)).heap.size (wr.alloc (.cells #[.int .i64 D, .int .i64 n0, .int .i64 b] 87)) W := by rw [hW]; exact pw_below_drewN (Below.refl _ _) _
    have HFD := HFD.out nq
    clear hcx hcx' HWi e0 e1 e2 c0 q1 q2
    rw [← hW] at HFD ⊢
    have HMS := Aside0.mk (HX.out.1.step hBW)
    have hbW : W.heap[wr.heap.size]? = some (.cells #[.int .i64 D, .int .i64 n0, .int .i64 b] 87 (0, 0)) := by
      rw [hBW.block _ (by rw [HX.out.2.2.1]; have := HX.out.2.2.2.2.2; omega)]
      have := HX.out.2.1
      rw [HX.out.2.2.2.2.2] at this
      exact this
    have hszW : wr.heap.size < W.heap.size := by have := hBW.size; rw [HX.out.2.2.1] at this; have := HX.out.2.2.2.2.2; omega
    have HAF := Aside0.mk (HFA.out.trans (AF.below (mb := mb) (ok := ok) (tv := tv) hBW))
    have HBX := Aside0.mk (And.intro hbW hszW)
    have c0 := HMS.out.mm.md.c0
    rw [HX.out.2.2.2.1] at c0
    have e0 := cell_of_row _ wr.heap.size 0 _ _ (0, 0) hbW
    have e1 := cell_of_row _ wr.heap.size 1 _ _ (0, 0) hbW
    have e2 := cell_of_row _ wr.heap.size 2 _ _ (0, 0) hbW
    replace e0 : W.cell? ⟨wr.heap.size, 0, none⟩ = some (.int .i64 D) := e0
    replace e1 : W.cell? ⟨wr.heap.size, 1, none⟩ = some (.int .i64 n0) := e1
    replace e2 : W.cell? ⟨wr.heap.size, 2, none⟩ = some (.int .i64 b) := e2
    clear hW hBW hbW hszW
    refine HFD.mono ?_
    rintro e w' ⟨rfl, rfl⟩
    clear HFD
    go_wp2_with (first
      | (go_at_call 18; refine (HW8.out _).mono ?_; rintro e w' ⟨rfl, m8, rfl⟩)
      | (go_at_call 39; refine (num13_any _ _).mono ?_; rintro e w' ⟨rfl, rfl⟩)
      | (go_at_call 76; refine (gsetroot_yes (HMS.out.fs.drewN m8).fat (HMS.out.fs.drewN m8).good b n0 HB.out.1 HB.out.2.1 HB.out.2.2.1 HB.out.2.2.2).mono ?_; rintro e w1 ⟨rfl, hL⟩; have x3 := (HMS.out.step (pw_below_drewN (Below.refl _ _) m8)).rootcell HB.out.1 HB.out.2.1; have hlx : wr.heap.size < (W.drewN m8).heap.size := HBX.out.2; have hnx : ¬ ok wr.heap.size := HBO.out; obtain ⟨g1, g2, g3, g4⟩ := (HMS.out.step (pw_below_drewN (Below.refl _ _) m8)).rooted HB.out.1 HB.out.2.1 HB.out.2.2.1 HB.out.2.2.2 hL; have y3 := (g1 (2 + b.toNat)).trans x3; have y1 := (World.cell?_of_block (a := ⟨wr.heap.size, 1, none⟩) (hL.2.block wr.heap.size hlx hnx)).trans (show (W.drewN m8).cell? ⟨wr.heap.size, 1, none⟩ = _ from e1); have y2 := (World.cell?_of_block (a := ⟨wr.heap.size, 2, none⟩) (hL.2.block wr.heap.size hlx hnx)).trans (show (W.drewN m8).cell? ⟨wr.heap.size, 2, none⟩ = _ from e2); obtain ⟨i0, i1, i2, i3⟩ := HB.out; have H1 := Aside0.mk (And.intro g3 g4); clear hL g1 g3 g4 hlx hnx x3))
    go_still_tail 8, (by kernel_rfl)
    go_wp2
    all_goals first
      | done
      | (go_ret; exact ⟨rfl, _, _, _, _, _, _, _, _, (H1.out.1.step (below_drew (Below.refl _ _))).more, (HAF.out.trans (AF.below (pw_below_drewN (Below.refl _ _) m8))).trans (H1.out.2.1.trans (AF.below (below_drew (Below.refl _ _)))), H1.out.2.2⟩)
  · -- the number itself
    have hPk : (decide ((0 : Int) < l) && decide ((0 : Int) < b.tmod 5)) = false := by
      rw [← hll] at p1
      rw [Bool.and_eq_false_iff]
      by_cases h1 : 0 < l
      · right; simp; omega
      · left; simp; omega
    have HFD := HFD.out 0
    have HPk := Aside0.mk hPk
    clear h hb0 H hbx hsz hve hll hbxe hC hd hj p1 hN hl hPk
    go_enter Tryz.func38, Tryz.ntmps38
    by_cases q1 : (0 : Int) < l <;> by_cases q2 : (0 : Int) < b.tmod 5
    · exact absurd HPk.out (by rw [decide_eq_true q1, decide_eq_true q2]; decide)
    all_goals
      go_wp2_with fail
      obtain ⟨W, hW⟩ : ∃ W, W = (wr.alloc (.cells #[.int .i64 D, .int .i64 n, .int .i64 b] 87)) := ⟨_, rfl⟩
      have hBW : Below (wr.alloc (.cells #[.int .i64 D, .int .i64 n, .int .i64 b] 87)).heap.size (wr.alloc (.cells #[.int .i64 D, .int .i64 n, .int .i64 b] 87)) W := by rw [hW]; exact Below.refl _ _
      rw [World.drewN_zero] at HFD
      clear e0 e1 e2 c0 q1 q2
      rw [← hW] at HFD ⊢
      have HMS := Aside0.mk (HX.out.1.step hBW)
      have hbW : W.heap[wr.heap.size]? = some (.cells #[.int .i64 D, .int .i64 n, .int .i64 b] 87 (0, 0)) := by
        rw [hBW.block _ (by rw [HX.out.2.2.1]; have := HX.out.2.2.2.2.2; omega)]
        have := HX.out.2.1
        rw [HX.out.2.2.2.2.2] at this
        exact this
      have hszW : wr.heap.size < W.heap.size := by have := hBW.size; rw [HX.out.2.2.1] at this; have := HX.out.2.2.2.2.2; omega
      have HAF := Aside0.mk (HFA.out.trans (AF.below (mb := mb) (ok := ok) (tv := tv) hBW))
      have HBX := Aside0.mk (And.intro hbW hszW)
      have c0 := HMS.out.mm.md.c0
      rw [HX.out.2.2.2.1] at c0
      have e0 := cell_of_row _ wr.heap.size 0 _ _ (0, 0) hbW
      have e1 := cell_of_row _ wr.heap.size 1 _ _ (0, 0) hbW
      have e2 := cell_of_row _ wr.heap.size 2 _ _ (0, 0) hbW
      replace e0 : W.cell? ⟨wr.heap.size, 0, none⟩ = some (.int .i64 D) := e0
      replace e1 : W.cell? ⟨wr.heap.size, 1, none⟩ = some (.int .i64 n) := e1
      replace e2 : W.cell? ⟨wr.heap.size, 2, none⟩ = some (.int .i64 b) := e2
      clear hW hBW hbW hszW
      refine HFD.mono ?_
      rintro e w' ⟨rfl, rfl⟩
      clear HFD
      go_wp2_with (first
        | (go_at_call 18; refine (HW8.out _).mono ?_; rintro e w' ⟨rfl, m8, rfl⟩)
        | (go_at_call 39; refine (num13_any _ _).mono ?_; rintro e w' ⟨rfl, rfl⟩)
        | (go_at_call 76; refine (gsetroot_yes (HMS.out.fs.drewN m8).fat (HMS.out.fs.drewN m8).good b n HB.out.1 HB.out.2.1 HB.out.2.2.1 HB.out.2.2.2).mono ?_; rintro e w1 ⟨rfl, hL⟩; have x3 := (HMS.out.step (pw_below_drewN (Below.refl _ _) m8)).rootcell HB.out.1 HB.out.2.1; have hlx : wr.heap.size < (W.drewN m8).heap.size := HBX.out.2; have hnx : ¬ ok wr.heap.size := HBO.out; obtain ⟨g1, g2, g3, g4⟩ := (HMS.out.step (pw_below_drewN (Below.refl _ _) m8)).rooted HB.out.1 HB.out.2.1 HB.out.2.2.1 HB.out.2.2.2 hL; have y3 := (g1 (2 + b.toNat)).trans x3; have y1 := (World.cell?_of_block (a := ⟨wr.heap.size, 1, none⟩) (hL.2.block wr.heap.size hlx hnx)).trans (show (W.drewN m8).cell? ⟨wr.heap.size, 1, none⟩ = _ from e1); have y2 := (World.cell?_of_block (a := ⟨wr.heap.size, 2, none⟩) (hL.2.block wr.heap.size hlx hnx)).trans (show (W.drewN m8).cell? ⟨wr.heap.size, 2, none⟩ = _ from e2); obtain ⟨i0, i1, i2, i3⟩ := HB.out; have H1 := Aside0.mk (And.intro g3 g4); clear hL g1 g3 g4 hlx hnx x3))
      go_still_tail 8, (by kernel_rfl)
      go_wp2
      all_goals first
        | done
        | (go_ret; exact ⟨rfl, _, _, _, _, _, _, _, _, (H1.out.1.step (below_drew (Below.refl _ _))).more, (HAF.out.trans (AF.below (pw_below_drewN (Below.refl _ _) m8))).trans (H1.out.2.1.trans (AF.below (below_drew (Below.refl _ _)))), H1.out.2.2⟩)
end
end Go.Proofs.YtmdpgjdepflbmaaGreat
namespace Go.Proofs.YtmdpgjdepflbmaaGreat
open Go.RowKit Go.Maps Go.Proofs.YtmdpgjdepflbmaaGreatW.PrintWords Go.Proofs.YtmdpgjdepflbmaaGreatW.PrintLast Go.Proofs.YtmdpgjdepflbmaaGreatW.PrintMore
open Go.Proofs.YtmdpgjdepflbmaaGreat.PPagerFolds
set_option linter.unusedVariables false
set_option linter.unusedSimpArgs false

section
variable {w wr : World} {g : Nat} {B : PG} {V : Int → Bytes} {cnt : Int} {ok : Nat → Prop} {mb : Nat} {hv tv : Value} {L : List Int} {T : List (Nat × Nat)} {R : List Int} {N : Nat}

theorem MS.scribbled {hv tv : Value} (h : MS w wr g B V cnt ok mb hv tv L T R N) {w3 w4 w5 : World} {r3 : Nat} {V1 : Int → Bytes} {cnt1 : Int} (hb3 : Below wr.heap.size wr w3) (hr3 : wr.heap.size ≤ r3) (hr3' : r3 < w3.heap.size) (hF4 : FS' w w3 w4 g B M0 V1 cnt1 ok) (hg5 : w4.grownBy w5 (some r3)) :
    FS w w5 g B M0 V1 cnt1 (Grow w3 ok w4) ∧ MM w w5 (Grow w3 ok w4) mb hv tv L T R V ∧ AF mb wr ok tv w5 (Grow w3 ok w4) tv := by
  have hs := h.fs.below.size
  have hs3 := hb3.size
  have hs4 := hF4.fr.size
  have hs5 := hg5.size
  have hnok : ¬ Grow w3 ok w4 r3 := fun hk => hk.elim (fun h' => by have := h.fs.lt r3 h'; omega) (fun h' => by omega)
  have hm3 := h.mm.move (w' := w3) (ok' := ok) hs3 (fun k hk _ _ => hb3.block k hk) (fun _ h => .inl h)
  have hm4 := hm3.move (w' := w4) (ok' := Grow w3 ok w4) hs4 (fun k hk hn _ => hF4.fr.block k hk hn) (fun k hk => hk.elim .inl (fun h => .inr h.1))
  have hl1 := h.mm.lt
  refine ⟨hF4.st.grown hg5 (fun k hk => by injection hk with hk; subst hk; exact ⟨hnok, by omega⟩), hm4.kept hg5 (by omega) (fun e => by have := own_lt (Kd.own_of_R h.mm.md.held) r3 e; omega) (fun e => by have := own_lt (Kd.own_of_R h.mm.md.text) r3 e; omega) (fun t ht => ?_), ⟨by omega, fun k hk => hk.elim .inl (fun h => .inr (by omega)), fun k hk hn _ _ => ?_, fun _ h => .inl h⟩⟩
  · obtain ⟨i, hi⟩ := List.getElem?_of_mem ht
    have hil := (List.getElem?_eq_some_iff.1 hi).1
    rw [h.mm.md.tl] at hil
    have := trow_lt (h.mm.text i _ t (List.getElem?_eq_getElem hil) hi).1
    omega
  · rw [hg5.block k (by omega) (fun e => by injection e with e; omega), hF4.fr.block k (by omega) hn, hb3.block k hk]
theorem box_kept {W w3 w4 w5 : World} {bx r3 : Nat} {ok : Nat → Prop} {v : Value} (e2 : W.cell? ⟨bx, 2, none⟩ = some v) (hbx : bx < W.heap.size) (hbo : ¬ ok bx) (hb3 : Below W.heap.size W w3) (hr3 : W.heap.size ≤ r3) (hF : Fr ok w3 w4) (hg : w4.grownBy w5 (some r3)) : w5.cell? ⟨bx, 2, none⟩ = some v := by
  have hs3 := hb3.size
  have hs4 := hF.size
  refine (World.cell?_of_block (a := ⟨bx, 2, none⟩) ?_).trans e2
  rw [hg.block bx (by omega) (fun e => by injection e with e; omega), hF.block bx (by omega) hbo, hb3.block bx hbx]
theorem MS.bx_ne {hv tv : Value} (h : MS w wr g B V cnt ok mb hv tv L T R N) {bx tb tc l : Nat} {cs0 : Array Value} (hb : wr.heap[bx]? = some (.cells cs0 87 (0, 0))) (ht : tv = .slice (some ⟨tb, 0, none⟩) l tc) : bx ≠ tb := fun e => by
  subst ht
  obtain ⟨cs, h'⟩ := own_typed (Kd.own_of_R h.mm.md.text) tb rfl
  rw [← e, hb] at h'
  injection h' with h'
  injection h' with _ h'
  exact absurd h' (by decide)
theorem row_one {W : World} {base : Nat} {P : Nat → Prop} {r n c : Nat} {l : Bytes} (h : U8.R 5 W base P (.slice (some ⟨r, 0, none⟩) n c) l) : U8.R 5 W 0 (fun k => k = r) (.slice (some ⟨r, 0, none⟩) n c) l :=
  Kd.R_of_own (own_weaken (Kd.own_of_R h) (Nat.zero_le _)) (fun k hk => by simp [Value.ownBlock] at hk; exact hk.symm)
set_option maxHeartbeats 1000000 in
set_option maxRecDepth 100000 in
theorem act_write_yes (h : MS w wr g B V cnt ok mb hv tv L T R N) (hN : N ≤ 1000) (D n0 b n : Int) (hd : IntKind.u64.wrap D % 8 = 4) (hs : Speaks L n0 b n) (j : Nat) (hj : L[j]? = some n) :
    Calls Tryz.prog 38 #[dp mb, dp g, .agg #[.int .i64 D, .int .i64 n0, .int .i64 b]] wr fun e w' => AR w wr g B V ok mb tv N e w' := by
  have hb0 : Below wr.heap.size wr (wr.alloc (.cells #[.int .i64 D, .int .i64 n0, .int .i64 b] 87)) := (Below.refl _ _).alloc (Nat.le_refl _) _
  have H := h.step hb0
  have hbx : (wr.alloc (.cells #[.int .i64 D, .int .i64 n0, .int .i64 b] 87)).heap[wr.heap.size]? = some (.cells #[.int .i64 D, .int .i64 n0, .int .i64 b] 87 (0, 0)) := heap_alloc_new wr _
  have HFA := Aside0.mk (AF.below (mb := mb) (ok := ok) (tv := tv) hb0)
  have hl := h.len
  have hsz : (wr.alloc (.cells #[.int .i64 D, .int .i64 n0, .int .i64 b] 87)).heap.size = wr.heap.size + 1 := by simp
  obtain ⟨A, c, hve, hC, hc⟩ := R_rowk H.mm.md.held
  have c0 := H.mm.md.c0
  rw [hve] at c0
  obtain ⟨l, hll⟩ : ∃ l, l = L.length := ⟨_, rfl⟩
  rw [← hll] at hve hC hc c0 hl
  obtain ⟨bx, hbxe⟩ : ∃ bx, bx = wr.heap.size := ⟨_, rfl⟩
  rw [← hbxe] at hbx hsz
  have d0 := cell_of_row _ bx 0 _ _ (0, 0) hbx
  have d1 := cell_of_row _ bx 1 _ _ (0, 0) hbx
  have d2 := cell_of_row _ bx 2 _ _ (0, 0) hbx
  have e0 : (wr.alloc (.cells #[.int .i64 D, .int .i64 n0, .int .i64 b] 87)).cell? ⟨bx, 0, none⟩ = some (.int .i64 D) := d0
  have e1 : (wr.alloc (.cells #[.int .i64 D, .int .i64 n0, .int .i64 b] 87)).cell? ⟨bx, 1, none⟩ = some (.int .i64 n0) := d1
  have e2 : (wr.alloc (.cells #[.int .i64 D, .int .i64 n0, .int .i64 b] 87)).cell? ⟨bx, 2, none⟩ = some (.int .i64 b) := d2
  clear d0 d1 d2
  rw [hbxe] at e0 e1 e2
  have HFD := Aside0.mk (fun k : Nat => find_pos (w := (wr.alloc (.cells #[.int .i64 D, .int .i64 n0, .int .i64 b] 87)).drewN k) mb A l c L n j c0 (Kd.C_drewN hC k) (by omega) hj h.nodup)
  have HW8 := Aside0.mk (fun W : World => within_c D 8 4 (by decide) (by decide) (by rw [show ((8 : Nat) : Int) = 8 from rfl, hd]; rfl) W)
  have HBO := Aside0.mk (show ¬ ok wr.heap.size from fun h' => Nat.lt_irrefl _ (h.fs.lt _ h'))
  have HX := Aside0.mk (And.intro H (And.intro hbx (And.intro hsz (And.intro hve (And.intro hll hbxe)))))
  have HJ := Aside0.mk hj
  rcases hs with ⟨p1, p2, r, hr, hLr⟩ | ⟨p1, rfl⟩
  · -- a held one is picked
    rw [← hll] at p1 hr
    obtain ⟨ad, rfl, hcx⟩ := Kd.at_int hC (r : Int) (by omega) (by have := (List.getElem?_eq_some_iff.1 hLr).1; omega)
    have hrl : r < l := by have := (List.getElem?_eq_some_iff.1 hLr).1; omega
    rw [Int.toNat_natCast, show rd L (r : Int) = n from by simp [rd, List.getD_eq_getElem?_getD, hLr]] at hcx
    have hcx' : ∀ k, ((wr.alloc (.cells #[.int .i64 D, .int .i64 n0, .int .i64 b] 87)).drewN k).cell? (ad.add r) = some (.int .i64 n) := fun k => hcx
    have HWi := Aside0.mk (fun W : World => within_c n0 l r (by omega) (by omega) hr W)
    have q1 : decide ((0 : Int) < l) = true := by simp; omega
    have q2 : decide ((0 : Int) < b.tmod 5) = true := by simp; omega
    clear h hb0 H hbx hsz hve hll hbxe hC hd hj hr hLr p1 p2 hN hl
    go_enter Tryz.func38, Tryz.ntmps38
    go_wp2
    go_quiet ((go_at_call 18; exact Calls.quiet_of (HWi.out _)))
    go_wp2_with fail
    obtain ⟨W, hW⟩ : ∃ W, W = (wr.alloc (.cells #[.int .i64 D, .int .i64 n0, .int .i64 b] 87)).drewN nq := ⟨_, rfl⟩
    have hBW : Below (wr.alloc (.cells #[.int .i64 D, .int .i64 n0, .int .i64 b] 87)).heap.size (wr.alloc (.cells #[.int .i64 D, .int .i64 n0, .int .i64 b] 87)) W := by rw [hW]; exact pw_below_drewN (Below.refl _ _) _
    have HFD := HFD.out nq
    clear hcx hcx' HWi e0 e1 e2 c0 q1 q2
    rw [← hW] at HFD ⊢
    have HMS := Aside0.mk (HX.out.1.step hBW)
    have hbW : W.heap[wr.heap.size]? = some (.cells #[.int .i64 D, .int .i64 n0, .int .i64 b] 87 (0, 0)) := by
      rw [hBW.block _ (by rw [HX.out.2.2.1]; have := HX.out.2.2.2.2.2; omega)]
      have := HX.out.2.1
      rw [HX.out.2.2.2.2.2] at this
      exact this
    have hszW : wr.heap.size < W.heap.size := by have := hBW.size; rw [HX.out.2.2.1] at this; have := HX.out.2.2.2.2.2; omega
    have HAF := Aside0.mk (HFA.out.trans (AF.below (mb := mb) (ok := ok) (tv := tv) hBW))
    have HBX := Aside0.mk (And.intro hbW hszW)
    have c0 := HMS.out.mm.md.c0
    rw [HX.out.2.2.2.1] at c0
    have e0 := cell_of_row _ wr.heap.size 0 _ _ (0, 0) hbW
    have e1 := cell_of_row _ wr.heap.size 1 _ _ (0, 0) hbW
    have e2 := cell_of_row _ wr.heap.size 2 _ _ (0, 0) hbW
    replace e0 : W.cell? ⟨wr.heap.size, 0, none⟩ = some (.int .i64 D) := e0
    replace e1 : W.cell? ⟨wr.heap.size, 1, none⟩ = some (.int .i64 n0) := e1
    replace e2 : W.cell? ⟨wr.heap.size, 2, none⟩ = some (.int .i64 b) := e2
    clear hW hBW hbW hszW
    refine HFD.mono ?_
    rintro e w' ⟨rfl, rfl⟩
    clear HFD
    go_wp2_with (first
      | (go_at_call 18; refine (HW8.out _).mono ?_; rintro e w' ⟨rfl, m8, rfl⟩)
      | (go_at_call 39; refine (num13_any _ _).mono ?_; rintro e w' ⟨rfl, rfl⟩)
      | (go_at_call 74; refine (lpage_any _ _).mono ?_; rintro e w3 ⟨v3, rfl, hv3, hb3⟩; obtain ⟨r3, c3, rfl, hr3, hr3', _⟩ := Kd.R_form hv3 (by rw [pageB_length]; decide); rw [pageB_length] at hv3 ⊢; have hv3' := row_new (HMS.out.fs.drewN m8) hv3; have HWr := Aside0.mk (fs_write ((HMS.out.fs.drewN m8).step hb3) n ((HMS.out.held n).2 (List.mem_of_getElem? HJ.out)) hv3' (pageB_length _)); have H3 := Aside0.mk (And.intro hv3' (And.intro hb3 (And.intro hr3 hr3'))); clear hv3 hv3' hb3 hr3 hr3')
      | (go_at_call 75; refine (HWr.out).mono ?_; rintro e w4 ⟨rfl, hF4⟩; have HBy := Aside0.mk (bytes_row (row_one (row_fr H3.out.1 hF4.fr)) (by rw [pageB_length]; decide)); have H4 := Aside0.mk hF4; clear hF4)
      | (go_at_call 66; refine (HBy.out).mono ?_; rintro e w5 ⟨rfl, hg5⟩; obtain ⟨s1, s2, s3⟩ := (HMS.out.step (pw_below_drewN (Below.refl _ _) m8)).scribbled H3.out.2.1 H3.out.2.2.1 H3.out.2.2.2 H4.out hg5; obtain ⟨-, tb, tc, t0, hte, -⟩ := HMS.out.textcell HJ.out; have x1 := s2.md.c1; rw [hte, ← HX.out.2.2.2.2.1] at x1; have hjl : j < l := (by rw [HX.out.2.2.2.2.1]; exact (List.getElem?_eq_some_iff.1 HJ.out).1); have HTE := Aside0.mk hte; have y2 := box_kept (W := W.drewN m8) e2 HBX.out.2 HBO.out H3.out.2.1 H3.out.2.2.1 H4.out.fr hg5; have H5 := Aside0.mk (And.intro s1 (And.intro s2 s3)); clear hg5 s1 s2 s3 hte))
    all_goals
      go_region_held3 (fun w' => w'.cell? ⟨mb, 1, none⟩ = some (.slice (some ⟨tb, 0, none⟩) l tc) ∧ w'.cell? ⟨wr.heap.size, 2, none⟩ = some (.int .i64 b)) (first | go_keep | exact ⟨x6, y6⟩ | exact ⟨x7, y7⟩)
        (first | (go_at_call 74; go_loud (refine (lpage_any _ _).mono ?_; rintro e w6 ⟨v6, rfl, hv6, hb6⟩; obtain ⟨r6, c6, rfl, hr6, hr6', _⟩ := Kd.R_form hv6 (by rw [pageB_length]; decide); rw [pageB_length] at hv6 ⊢; have hb6' : Below w5.heap.size w5 w6 := (by first | exact hb6 | exact (pw_below_drewN (Below.refl _ _) _).trans hb6 | exact (below_drew (Below.refl _ _)).trans hb6); have hr6'' : w5.heap.size ≤ r6 := hr6; have x6 := (hb6'.cell (p := ⟨mb, 1, none⟩) (World.block_lt_of_cell? _ _ x1)).trans x1; have y6 := (hb6'.cell (p := ⟨wr.heap.size, 2, none⟩) (World.block_lt_of_cell? _ _ y2)).trans y2; obtain ⟨tb', tc', hte', -, -, q2, ⟨u, q3, -⟩, q4, q5⟩ := (HMS.out.step (pw_below_drewN (Below.refl _ _) m8)).wrote HJ.out (t := (r6, c6)) (H5.out.1.step hb6') (H5.out.2.1.move hb6'.size (fun k hk _ _ => hb6'.block k hk) (fun _ h => .inl h)) (H5.out.2.2.trans (AF.below hb6')) (row_one hv6) ⟨Nat.le_trans H5.out.1.below.size hr6'', fun h' => Nat.lt_irrefl _ (Nat.lt_of_lt_of_le (H5.out.1.lt _ h') hr6'')⟩; have hteq := HTE.out.symm.trans hte'; injection hteq with ht1 _ ht3; injection ht1 with ht1; injection ht1 with ht1; subst ht1; have x7 := q4.mm.md.c1; rw [HTE.out, ← HX.out.2.2.2.2.1] at x7; have y7 := (World.cell?_of_block (a := ⟨wr.heap.size, 2, none⟩) (Below.heap_setCell w6 ⟨tb, j, none⟩ (.slice (some ⟨r6, 0, none⟩) 512 c6) wr.heap.size (HMS.out.bx_ne HBX.out.1 HTE.out))).trans y6; have H6 := Aside0.mk (And.intro q4 q5); clear q4 q5 hv6 hb6 hb6' hr6 hr6' hr6'' hte' ht3)))
      go_wp2
      go_ret
      exact ⟨rfl, _, _, _, _, _, _, _, _, H6.out.1.more, (HAF.out.trans (AF.below (pw_below_drewN (Below.refl _ _) m8))).trans H6.out.2.1, H6.out.2.2⟩
  · -- the number itself
    have hPk : (decide ((0 : Int) < l) && decide ((0 : Int) < b.tmod 5)) = false := by
      rw [← hll] at p1
      rw [Bool.and_eq_false_iff]
      by_cases h1 : 0 < l
      · right; simp; omega
      · left; simp; omega
    have HFD := HFD.out 0
    have HPk := Aside0.mk hPk
    clear h hb0 H hbx hsz hve hll hbxe hC hd hj p1 hN hl hPk
    go_enter Tryz.func38, Tryz.ntmps38
    by_cases q1 : (0 : Int) < l <;> by_cases q2 : (0 : Int) < b.tmod 5
    · exact absurd HPk.out (by rw [decide_eq_true q1, decide_eq_true q2]; decide)
    all_goals
      go_wp2_with fail
      obtain ⟨W, hW⟩ : ∃ W, W = (wr.alloc (.cells #[.int .i64 D, .int .i64 n, .int .i64 b] 87)) := ⟨_, rfl⟩
      have hBW : Below (wr.alloc (.cells #[.int .i64 D, .int .i64 n, .int .i64 b] 87)).heap.size (wr.alloc (.cells #[.int .i64 D, .int .i64 n, .int .i64 b] 87)) W := by rw [hW]; exact Below.refl _ _
      rw [World.drewN_zero] at HFD
      clear e0 e1 e2 c0 q1 q2
      rw [← hW] at HFD ⊢
      have HMS := Aside0.mk (HX.out.1.step hBW)
      have hbW : W.heap[wr.heap.size]? = some (.cells #[.int .i64 D, .int .i64 n, .int .i64 b] 87 (0, 0)) := by
        rw [hBW.block _ (by rw [HX.out.2.2.1]; have := HX.out.2.2.2.2.2; omega)]
        have := HX.out.2.1
        rw [HX.out.2.2.2.2.2] at this
        exact this
      have hszW : wr.heap.size < W.heap.size := by have := hBW.size; rw [HX.out.2.2.1] at this; have := HX.out.2.2.2.2.2; omega
      have HAF := Aside0.mk (HFA.out.trans (AF.below (mb := mb) (ok := ok) (tv := tv) hBW))
      have HBX := Aside0.mk (And.intro hbW hszW)
      have c0 := HMS.out.mm.md.c0
      rw [HX.out.2.2.2.1] at c0
      have e0 := cell_of_row _ wr.heap.size 0 _ _ (0, 0) hbW
      have e1 := cell_of_row _ wr.heap.size 1 _ _ (0, 0) hbW
      have e2 := cell_of_row _ wr.heap.size 2 _ _ (0, 0) hbW
      replace e0 : W.cell? ⟨wr.heap.size, 0, none⟩ = some (.int .i64 D) := e0
      replace e1 : W.cell? ⟨wr.heap.size, 1, none⟩ = some (.int .i64 n) := e1
      replace e2 : W.cell? ⟨wr.heap.size, 2, none⟩ = some (.int .i64 b) := e2
      clear hW hBW hbW hszW
      refine HFD.mono ?_
      rintro e w' ⟨rfl, rfl⟩
      clear HFD
      go_wp2_with (first
        | (go_at_call 18; refine (HW8.out _).mono ?_; rintro e w' ⟨rfl, m8, rfl⟩)
        | (go_at_call 39; refine (num13_any _ _).mono ?_; rintro e w' ⟨rfl, rfl⟩)
        | (go_at_call 74; refine (lpage_any _ _).mono ?_; rintro e w3 ⟨v3, rfl, hv3, hb3⟩; obtain ⟨r3, c3, rfl, hr3, hr3', _⟩ := Kd.R_form hv3 (by rw [pageB_length]; decide); rw [pageB_length] at hv3 ⊢; have hv3' := row_new (HMS.out.fs.drewN m8) hv3; have HWr := Aside0.mk (fs_write ((HMS.out.fs.drewN m8).step hb3) n ((HMS.out.held n).2 (List.mem_of_getElem? HJ.out)) hv3' (pageB_length _)); have H3 := Aside0.mk (And.intro hv3' (And.intro hb3 (And.intro hr3 hr3'))); clear hv3 hv3' hb3 hr3 hr3')
        | (go_at_call 75; refine (HWr.out).mono ?_; rintro e w4 ⟨rfl, hF4⟩; have HBy := Aside0.mk (bytes_row (row_one (row_fr H3.out.1 hF4.fr)) (by rw [pageB_length]; decide)); have H4 := Aside0.mk hF4; clear hF4)
        | (go_at_call 66; refine (HBy.out).mono ?_; rintro e w5 ⟨rfl, hg5⟩; obtain ⟨s1, s2, s3⟩ := (HMS.out.step (pw_below_drewN (Below.refl _ _) m8)).scribbled H3.out.2.1 H3.out.2.2.1 H3.out.2.2.2 H4.out hg5; obtain ⟨-, tb, tc, t0, hte, -⟩ := HMS.out.textcell HJ.out; have x1 := s2.md.c1; rw [hte, ← HX.out.2.2.2.2.1] at x1; have hjl : j < l := (by rw [HX.out.2.2.2.2.1]; exact (List.getElem?_eq_some_iff.1 HJ.out).1); have HTE := Aside0.mk hte; have y2 := box_kept (W := W.drewN m8) e2 HBX.out.2 HBO.out H3.out.2.1 H3.out.2.2.1 H4.out.fr hg5; have H5 := Aside0.mk (And.intro s1 (And.intro s2 s3)); clear hg5 s1 s2 s3 hte))
      all_goals
        go_region_held3 (fun w' => w'.cell? ⟨mb, 1, none⟩ = some (.slice (some ⟨tb, 0, none⟩) l tc) ∧ w'.cell? ⟨wr.heap.size, 2, none⟩ = some (.int .i64 b)) (first | go_keep | exact ⟨x6, y6⟩ | exact ⟨x7, y7⟩)
          (first | (go_at_call 74; go_loud (refine (lpage_any _ _).mono ?_; rintro e w6 ⟨v6, rfl, hv6, hb6⟩; obtain ⟨r6, c6, rfl, hr6, hr6', _⟩ := Kd.R_form hv6 (by rw [pageB_length]; decide); rw [pageB_length] at hv6 ⊢; have hb6' : Below w5.heap.size w5 w6 := (by first | exact hb6 | exact (pw_below_drewN (Below.refl _ _) _).trans hb6 | exact (below_drew (Below.refl _ _)).trans hb6); have hr6'' : w5.heap.size ≤ r6 := hr6; have x6 := (hb6'.cell (p := ⟨mb, 1, none⟩) (World.block_lt_of_cell? _ _ x1)).trans x1; have y6 := (hb6'.cell (p := ⟨wr.heap.size, 2, none⟩) (World.block_lt_of_cell? _ _ y2)).trans y2; obtain ⟨tb', tc', hte', -, -, q2, ⟨u, q3, -⟩, q4, q5⟩ := (HMS.out.step (pw_below_drewN (Below.refl _ _) m8)).wrote HJ.out (t := (r6, c6)) (H5.out.1.step hb6') (H5.out.2.1.move hb6'.size (fun k hk _ _ => hb6'.block k hk) (fun _ h => .inl h)) (H5.out.2.2.trans (AF.below hb6')) (row_one hv6) ⟨Nat.le_trans H5.out.1.below.size hr6'', fun h' => Nat.lt_irrefl _ (Nat.lt_of_lt_of_le (H5.out.1.lt _ h') hr6'')⟩; have hteq := HTE.out.symm.trans hte'; injection hteq with ht1 _ ht3; injection ht1 with ht1; injection ht1 with ht1; subst ht1; have x7 := q4.mm.md.c1; rw [HTE.out, ← HX.out.2.2.2.2.1] at x7; have y7 := (World.cell?_of_block (a := ⟨wr.heap.size, 2, none⟩) (Below.heap_setCell w6 ⟨tb, j, none⟩ (.slice (some ⟨r6, 0, none⟩) 512 c6) wr.heap.size (HMS.out.bx_ne HBX.out.1 HTE.out))).trans y6; have H6 := Aside0.mk (And.intro q4 q5); clear q4 q5 hv6 hb6 hb6' hr6 hr6' hr6'' hte' ht3)))
        go_wp2
        go_ret
        exact ⟨rfl, _, _, _, _, _, _, _, _, H6.out.1.more, (HAF.out.trans (AF.below (pw_below_drewN (Below.refl _ _) m8))).trans H6.out.2.1, H6.out.2.2⟩
end
end Go.Proofs.YtmdpgjdepflbmaaGreat
namespace Go.Proofs.YtmdpgjdepflbmaaGreat
open Go.RowKit Go.Maps Go.Proofs.YtmdpgjdepflbmaaGreatW.PrintWords Go.Proofs.YtmdpgjdepflbmaaGreatW.PrintLast Go.Proofs.YtmdpgjdepflbmaaGreatW.PrintMore
open Go.Proofs.YtmdpgjdepflbmaaGreat.PPagerFolds
set_option linter.unusedVariables false
set_option linter.unusedSimpArgs false

theorem speaks (L : List Int) (n0 b : Int) : ∃ n, Speaks L n0 b n := by
  by_cases h : 0 < L.length ∧ 0 < b.tmod 5
  · obtain ⟨h1, h2⟩ := h
    have hr0 := Int.emod_nonneg (IntKind.u64.wrap n0) (show ((L.length : Nat) : Int) ≠ 0 by omega)
    have hr1 := Int.emod_lt_of_pos (IntKind.u64.wrap n0) (show (0 : Int) < L.length by omega)
    obtain ⟨r, hr⟩ : ∃ r : Nat, (r : Int) = (IntKind.u64.wrap n0) % L.length := ⟨((IntKind.u64.wrap n0) % L.length).toNat, by omega⟩
    have hrl : r < L.length := by omega
    exact ⟨L[r], .inl ⟨h1, h2, r, hr, List.getElem?_eq_getElem hrl⟩⟩
  · exact ⟨n0, .inr ⟨h, rfl⟩⟩
theorem act_any {w wr : World} {g : Nat} {B : PG} {V : Int → Bytes} {cnt : Int} {ok : Nat → Prop} {mb : Nat} {hv tv : Value} {L : List Int} {T : List (Nat × Nat)} {R : List Int} {N : Nat}
    (h : MS w wr g B V cnt ok mb hv tv L T R N) (hN : N ≤ 1000) (D n0 b : Int) :
    Calls Tryz.prog 38 #[dp mb, dp g, .agg #[.int .i64 D, .int .i64 n0, .int .i64 b]] wr fun e w' => AR w wr g B V ok mb tv N e w' := by
  obtain ⟨n, hs⟩ := speaks L n0 b
  have hd0 := Int.emod_nonneg (IntKind.u64.wrap D) (show (8 : Int) ≠ 0 by decide)
  have hd1 := Int.emod_lt_of_pos (IntKind.u64.wrap D) (show (0 : Int) < 8 by decide)
  obtain ⟨k, hk⟩ : ∃ k : Nat, IntKind.u64.wrap D % 8 = (k : Int) := ⟨(IntKind.u64.wrap D % 8).toNat, by omega⟩
  have hk8 : k < 8 := by omega
  by_cases hn : n ∈ L
  · obtain ⟨j, hj⟩ := List.getElem?_of_mem hn
    rcases Nat.lt_or_ge k 3 with h3 | h3
    · exact act_alloc_yes h hN D n0 b n k hk hs j hj h3
    · obtain rfl | rfl | rfl | rfl | rfl : k = 3 ∨ k = 4 ∨ k = 5 ∨ k = 6 ∨ k = 7 := by omega
      · exact act_free_yes h hN D n0 b n hk hs j hj
      · exact act_write_yes h hN D n0 b n hk hs j hj
      · exact act_read_yes h hN D n0 b n hk hs j hj
      · by_cases hb : 0 ≤ b ∧ b < 8 ∧ 0 ≤ n0 ∧ n0 < 4096
        · exact act_setroot_in_yes h hN D n0 b n hk hs j hj hb.1 hb.2.1 hb.2.2.1 hb.2.2.2
        · exact act_setroot_out_yes h hN D n0 b n hk hs j hj hb
      · by_cases hb : 0 ≤ b ∧ b < 8
        · exact act_root_in_yes h hN D n0 b n hk hs j hj hb.1 hb.2
        · exact act_root_out_yes h hN D n0 b n hk hs j hj hb (by omega)
  · rcases Nat.lt_or_ge k 3 with h3 | h3
    · exact act_alloc_no h hN D n0 b n k hk hs hn h3
    · obtain rfl | rfl | rfl | rfl | rfl : k = 3 ∨ k = 4 ∨ k = 5 ∨ k = 6 ∨ k = 7 := by omega
      · exact act_free_no h hN D n0 b n hk hs hn
      · exact act_write_no h hN D n0 b n hk hs hn
      · exact act_read_no h hN D n0 b n hk hs hn
      · by_cases hb : 0 ≤ b ∧ b < 8 ∧ 0 ≤ n0 ∧ n0 < 4096
        · exact act_setroot_in_no h hN D n0 b n hk hs hn hb.1 hb.2.1 hb.2.2.1 hb.2.2.2
        · exact act_setroot_out_no h hN D n0 b n hk hs hn hb
      · by_cases hb : 0 ≤ b ∧ b < 8
        · exact act_root_in_no h hN D n0 b n hk hs hn hb.1 hb.2
        · exact act_root_out_no h hN D n0 b n hk hs hn hb (by omega)
end Go.Proofs.YtmdpgjdepflbmaaGreat

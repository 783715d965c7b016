/-
  The law's own model: act, an arm a theorem. (Printed by wip/tools/actgen.py.)
-/
import Derived.Test.YtmdpgjdepflbmaaGreatCD
namespace Go.Proofs.YtmdpgjdepflbmaaGreat
open Go.RowKit Go.Maps Go.Proofs.YtmdpgjdepflbmaaGreatW.PrintWords Go.Proofs.YtmdpgjdepflbmaaGreatW.PrintLast Go.Proofs.YtmdpgjdepflbmaaGreatW.PrintMore
open Go.Proofs.YtmdpgjdepflbmaaGreat.PPagerFolds
set_option linter.unusedVariables false
set_option linter.unusedSimpArgs false

theorem within_c (a : Int) (n r : Nat) (h0 : 1 ≤ n) (h1 : n < 1000000) (hr : (r : Int) = (IntKind.u64.wrap a) % n) (w : World) : Calls Tryz.prog 18 #[.int .i64 a, .int .i64 n] w fun e w' => e = .returned (.int .i64 r) ∧ ∃ m, w' = w.drewN m := by
  refine (within_any a n h0 h1 w).mono ?_
  rintro e w' ⟨r', rfl, _, h2, hm⟩
  have : r' = r := by omega
  subst this
  exact ⟨rfl, hm⟩
theorem find_pos {w : World} (mb : Nat) (A : Option Addr) (n c : Nat) (L : List Int) (x : Int) (j : Nat) (hm : w.cell? ⟨mb, 0, none⟩ = some (.slice A n c)) (hC : I64.C w A n L) (hn : n < 4611686018427387904) (hj : L[j]? = some x) (hnd : L.Nodup) :
    Calls Tryz.prog 71 #[dp mb, .int .i64 x] w fun e w' => e = .returned (.int .i64 j) ∧ w = w' := by
  refine (find_any mb A n c L x hm hC hn).mono ?_
  rintro e w' ⟨r, rfl, hw, h | ⟨k, rfl, hk⟩⟩
  · exact absurd (List.mem_of_getElem? hj) h.2
  · obtain ⟨h1, h2⟩ := List.getElem?_eq_some_iff.1 hj
    obtain ⟨h3, h4⟩ := List.getElem?_eq_some_iff.1 hk
    have : k = j := (List.getElem_inj hnd).1 (h4.trans h2.symm)
    subst this
    exact ⟨rfl, hw⟩
theorem find_neg {w : World} (mb : Nat) (A : Option Addr) (n c : Nat) (L : List Int) (x : Int) (hm : w.cell? ⟨mb, 0, none⟩ = some (.slice A n c)) (hC : I64.C w A n L) (hn : n < 4611686018427387904) (hj : x ∉ L) :
    Calls Tryz.prog 71 #[dp mb, .int .i64 x] w fun e w' => e = .returned (.int .i64 (-1)) ∧ w = w' := by
  refine (find_any mb A n c L x hm hC hn).mono ?_
  rintro e w' ⟨r, rfl, hw, h | ⟨k, rfl, hk⟩⟩
  · rw [h.1]; exact ⟨rfl, hw⟩
  · exact absurd (List.mem_of_getElem? hk) hj

/-- the page that an act speaks of -/
def Speaks (L : List Int) (n0 b n : Int) : Prop :=
  (0 < L.length ∧ 0 < b.tmod 5 ∧ ∃ r : Nat, (r : Int) = (IntKind.u64.wrap n0) % L.length ∧ L[r]? = some n) ∨ (¬ (0 < L.length ∧ 0 < b.tmod 5) ∧ n = n0)

theorem MS.textcell {w wr : World} {g : Nat} {B : PG} {V : Int → Bytes} {cnt : Int} {ok : Nat → Prop} {mb : Nat} {hv tv : Value} {L : List Int} {T : List (Nat × Nat)} {R : List Int} {N : Nat} (h : MS w wr g B V cnt ok mb hv tv L T R N) {j : Nat} {n : Int} (hj : L[j]? = some n) :
    (V n).length = 512 ∧ ∃ tb tc t, tv = .slice (some ⟨tb, 0, none⟩) L.length tc ∧ T[j]? = some t ∧ wr.cell? ⟨tb, j, none⟩ = some (.slice (some ⟨t.1, 0, none⟩) 512 t.2) ∧ U8.C wr (some ⟨t.1, 0, none⟩) 512 (V n) ∧ 512 ≤ t.2 := by
  have hjl := (List.getElem?_eq_some_iff.1 hj).1
  have htl := h.mm.md.tl
  obtain ⟨tb, tc, hte, _, _, cs, hcs⟩ := Kd.R_form h.mm.md.text (by omega)
  rw [htl] at hte
  subst hte
  have hcell := (Kd.R_celln (0, 0) h.mm.md.text (j : Int) (by omega) (by omega)).1
  rw [Int.toNat_natCast] at hcell
  have hT : T[j]? = some (rdOf (0, 0) T (j : Int)) := by
    rw [List.getElem?_eq_getElem (by omega)]
    simp [rdOf, List.getD_eq_getElem?_getD, show j < T.length by omega]
  obtain ⟨h3, _, _⟩ := h.mm.text j n _ hj hT
  obtain ⟨hC, hc, hl⟩ := C_of_row h3
  exact ⟨hl, tb, tc, _, rfl, hT, hcell, hC, hc⟩

section
variable {w wr : World} {g : Nat} {B : PG} {V : Int → Bytes} {cnt : Int} {ok : Nat → Prop} {mb : Nat} {hv tv : Value} {L : List Int} {T : List (Nat × Nat)} {R : List Int} {N : Nat}
def AR (w wr : World) (g : Nat) (B : PG) (V : Int → Bytes) (ok : Nat → Prop) (mb : Nat) (tv : Value) (N : Nat) (e : Ending) (w' : World) : Prop :=
  e = .returned (.bool true) ∧ ∃ V' cnt' ok' hv' tv' L' T' R', MS w w' g B V' cnt' ok' mb hv' tv' L' T' R' (N + 1) ∧ AF mb wr ok tv w' ok' tv' ∧ wordZ (V' 0) 16 ≤ max (wordZ (V 0) 16) (L'.length : Int)
set_option maxHeartbeats 1000000 in
set_option maxRecDepth 100000 in
theorem act_free_yes (h : MS w wr g B V cnt ok mb hv tv L T R N) (hN : N ≤ 1000) (D n0 b n : Int) (hd : IntKind.u64.wrap D % 8 = 3) (hs : Speaks L n0 b n) (j : Nat) (hj : L[j]? = some n) :
    Calls Tryz.prog 38 #[dp mb, dp g, .agg #[.int .i64 D, .int .i64 n0, .int .i64 b]] wr fun e w' => AR w wr g B V ok mb tv N e w' := by
  have hb0 : Below wr.heap.size wr (wr.alloc (.cells #[.int .i64 D, .int .i64 n0, .int .i64 b] 87)) := (Below.refl _ _).alloc (Nat.le_refl _) _
  have H := h.step hb0
  have hbx : (wr.alloc (.cells #[.int .i64 D, .int .i64 n0, .int .i64 b] 87)).heap[wr.heap.size]? = some (.cells #[.int .i64 D, .int .i64 n0, .int .i64 b] 87 (0, 0)) := heap_alloc_new wr _
  have HFA := Aside0.mk (AF.below (mb := mb) (ok := ok) (tv := tv) hb0)
  have hl := h.len
  have hsz : (wr.alloc (.cells #[.int .i64 D, .int .i64 n0, .int .i64 b] 87)).heap.size = wr.heap.size + 1 := by simp
  obtain ⟨A, c, hve, hC, hc⟩ := R_rowk H.mm.md.held
  have c0 := H.mm.md.c0
  rw [hve] at c0
  obtain ⟨l, hll⟩ : ∃ l, l = L.length := ⟨_, rfl⟩
  rw [← hll] at hve hC hc c0 hl
  obtain ⟨bx, hbxe⟩ : ∃ bx, bx = wr.heap.size := ⟨_, rfl⟩
  rw [← hbxe] at hbx hsz
  have d0 := cell_of_row _ bx 0 _ _ (0, 0) hbx
  have d1 := cell_of_row _ bx 1 _ _ (0, 0) hbx
  have d2 := cell_of_row _ bx 2 _ _ (0, 0) hbx
  have e0 : (wr.alloc (.cells #[.int .i64 D, .int .i64 n0, .int .i64 b] 87)).cell? ⟨bx, 0, none⟩ = some (.int .i64 D) := d0
  have e1 : (wr.alloc (.cells #[.int .i64 D, .int .i64 n0, .int .i64 b] 87)).cell? ⟨bx, 1, none⟩ = some (.int .i64 n0) := d1
  have e2 : (wr.alloc (.cells #[.int .i64 D, .int .i64 n0, .int .i64 b] 87)).cell? ⟨bx, 2, none⟩ = some (.int .i64 b) := d2
  clear d0 d1 d2
  rw [hbxe] at e0 e1 e2
  have HFD := Aside0.mk (fun k : Nat => find_pos (w := (wr.alloc (.cells #[.int .i64 D, .int .i64 n0, .int .i64 b] 87)).drewN k) mb A l c L n j c0 (Kd.C_drewN hC k) (by omega) hj h.nodup)
  have HW8 := Aside0.mk (fun W : World => within_c D 8 3 (by decide) (by decide) (by rw [show ((8 : Nat) : Int) = 8 from rfl, hd]; rfl) W)
  have HL := Aside0.mk (show L.length ≤ 1000000 by have := h.len; omega)
  have HX := Aside0.mk (And.intro H (And.intro hbx (And.intro hsz (And.intro hve (And.intro hll hbxe)))))
  have HJ := Aside0.mk hj
  rcases hs with ⟨p1, p2, r, hr, hLr⟩ | ⟨p1, rfl⟩
  · -- a held one is picked
    rw [← hll] at p1 hr
    obtain ⟨ad, rfl, hcx⟩ := Kd.at_int hC (r : Int) (by omega) (by have := (List.getElem?_eq_some_iff.1 hLr).1; omega)
    have hrl : r < l := by have := (List.getElem?_eq_some_iff.1 hLr).1; omega
    rw [Int.toNat_natCast, show rd L (r : Int) = n from by simp [rd, List.getD_eq_getElem?_getD, hLr]] at hcx
    have hcx' : ∀ k, ((wr.alloc (.cells #[.int .i64 D, .int .i64 n0, .int .i64 b] 87)).drewN k).cell? (ad.add r) = some (.int .i64 n) := fun k => hcx
    have HWi := Aside0.mk (fun W : World => within_c n0 l r (by omega) (by omega) hr W)
    have q1 : decide ((0 : Int) < l) = true := by simp; omega
    have q2 : decide ((0 : Int) < b.tmod 5) = true := by simp; omega
    clear h hb0 H hbx hsz hve hll hbxe hC hd hj hr hLr p1 p2 hN hl
    go_enter Tryz.func38, Tryz.ntmps38
    go_wp2
    go_quiet ((go_at_call 18; exact Calls.quiet_of (HWi.out _)))
    go_wp2_with fail
    obtain ⟨W, hW⟩ : ∃ W, W = (wr.alloc (.cells #[.int .i64 D, .int .i64 n0, .int .i64 b] 87)).drewN nq := ⟨_, rfl⟩
    have hBW : Below (wr.alloc (.cells #[.int .i64 D, .int .i64 n0, .int .i64 b] 87)).heap.size (wr.alloc (.cells #[.int .i64 D, .int .i64 n0, .int .i64 b] 87)) W := by rw [hW]; exact pw_below_drewN (Below.refl _ _) _
    have HFD := HFD.out nq
    clear hcx hcx' HWi e0 e1 e2 c0 q1 q2
    rw [← hW] at HFD ⊢
    have HMS := Aside0.mk (HX.out.1.step hBW)
    have hbW : W.heap[wr.heap.size]? = some (.cells #[.int .i64 D, .int .i64 n0, .int .i64 b] 87 (0, 0)) := by
      rw [hBW.block _ (by rw [HX.out.2.2.1]; have := HX.out.2.2.2.2.2; omega)]
      have := HX.out.2.1
      rw [HX.out.2.2.2.2.2] at this
      exact this
    have hszW : wr.heap.size < W.heap.size := by have := hBW.size; rw [HX.out.2.2.1] at this; have := HX.out.2.2.2.2.2; omega
    have HAF := Aside0.mk (HFA.out.trans (AF.below (mb := mb) (ok := ok) (tv := tv) hBW))
    have HBX := Aside0.mk (And.intro hbW hszW)
    have c0 := HMS.out.mm.md.c0
    rw [HX.out.2.2.2.1] at c0
    have e0 := cell_of_row _ wr.heap.size 0 _ _ (0, 0) hbW
    have e1 := cell_of_row _ wr.heap.size 1 _ _ (0, 0) hbW
    have e2 := cell_of_row _ wr.heap.size 2 _ _ (0, 0) hbW
    replace e0 : W.cell? ⟨wr.heap.size, 0, none⟩ = some (.int .i64 D) := e0
    replace e1 : W.cell? ⟨wr.heap.size, 1, none⟩ = some (.int .i64 n0) := e1
    replace e2 : W.cell? ⟨wr.heap.size, 2, none⟩ = some (.int .i64 b) := e2
    clear hW hBW hbW hszW
    refine HFD.mono ?_
    rintro e w' ⟨rfl, rfl⟩
    clear HFD
    go_wp2_with (first
      | (go_at_call 18; refine (HW8.out _).mono ?_; rintro e w' ⟨rfl, m8, rfl⟩)
      | (go_at_call 39; refine (num13_any _ _).mono ?_; rintro e w' ⟨rfl, rfl⟩)
      | (go_at_call 72; refine (fs_free (HMS.out.fs.drewN m8) n ((HMS.out.held n).2 (List.mem_of_getElem? HJ.out))).mono ?_; rintro e w1 ⟨V1, cnt1, rfl, hF, hh, hV, ht, hr, hc⟩; obtain ⟨f1, f2, f3⟩ := (HMS.out.step (pw_below_drewN (Below.refl _ _) m8)).freed HJ.out hF hh hV ht hr hc; have HDr := Aside0.mk (drop_any f1 j f2 HL.out); have H1 := Aside0.mk f3; clear hF hh hV ht hr hc f1 f2 f3)
      | (go_at_call 73; refine (HDr.out).mono ?_; rintro e w2 ⟨rfl, hv', tv', hmd, hg⟩; have H2 := Aside0.mk (H1.out w2 hv' tv' hmd hg); clear hmd hg))
    all_goals first
      | done
      | (go_ret; exact ⟨rfl, _, _, _, _, _, _, _, _, H2.out.1.more, (HAF.out.trans (AF.below (pw_below_drewN (Below.refl _ _) m8))).trans H2.out.2.1, H2.out.2.2⟩)
  · -- the number itself
    have hPk : (decide ((0 : Int) < l) && decide ((0 : Int) < b.tmod 5)) = false := by
      rw [← hll] at p1
      rw [Bool.and_eq_false_iff]
      by_cases h1 : 0 < l
      · right; simp; omega
      · left; simp; omega
    have HFD := HFD.out 0
    have HPk := Aside0.mk hPk
    clear h hb0 H hbx hsz hve hll hbxe hC hd hj p1 hN hl hPk
    go_enter Tryz.func38, Tryz.ntmps38
    by_cases q1 : (0 : Int) < l <;> by_cases q2 : (0 : Int) < b.tmod 5
    · exact absurd HPk.out (by rw [decide_eq_true q1, decide_eq_true q2]; decide)
    all_goals
      go_wp2_with fail
      obtain ⟨W, hW⟩ : ∃ W, W = (wr.alloc (.cells #[.int .i64 D, .int .i64 n, .int .i64 b] 87)) := ⟨_, rfl⟩
      have hBW : Below (wr.alloc (.cells #[.int .i64 D, .int .i64 n, .int .i64 b] 87)).heap.size (wr.alloc (.cells #[.int .i64 D, .int .i64 n, .int .i64 b] 87)) W := by rw [hW]; exact Below.refl _ _
      rw [World.drewN_zero] at HFD
      clear e0 e1 e2 c0 q1 q2
      rw [← hW] at HFD ⊢
      have HMS := Aside0.mk (HX.out.1.step hBW)
      have hbW : W.heap[wr.heap.size]? = some (.cells #[.int .i64 D, .int .i64 n, .int .i64 b] 87 (0, 0)) := by
        rw [hBW.block _ (by rw [HX.out.2.2.1]; have := HX.out.2.2.2.2.2; omega)]
        have := HX.out.2.1
        rw [HX.out.2.2.2.2.2] at this
        exact this
      have hszW : wr.heap.size < W.heap.size := by have := hBW.size; rw [HX.out.2.2.1] at this; have := HX.out.2.2.2.2.2; omega
      have HAF := Aside0.mk (HFA.out.trans (AF.below (mb := mb) (ok := ok) (tv := tv) hBW))
      have HBX := Aside0.mk (And.intro hbW hszW)
      have c0 := HMS.out.mm.md.c0
      rw [HX.out.2.2.2.1] at c0
      have e0 := cell_of_row _ wr.heap.size 0 _ _ (0, 0) hbW
      have e1 := cell_of_row _ wr.heap.size 1 _ _ (0, 0) hbW
      have e2 := cell_of_row _ wr.heap.size 2 _ _ (0, 0) hbW
      replace e0 : W.cell? ⟨wr.heap.size, 0, none⟩ = some (.int .i64 D) := e0
      replace e1 : W.cell? ⟨wr.heap.size, 1, none⟩ = some (.int .i64 n) := e1
      replace e2 : W.cell? ⟨wr.heap.size, 2, none⟩ = some (.int .i64 b) := e2
      clear hW hBW hbW hszW
      refine HFD.mono ?_
      rintro e w' ⟨rfl, rfl⟩
      clear HFD
      go_wp2_with (first
        | (go_at_call 18; refine (HW8.out _).mono ?_; rintro e w' ⟨rfl, m8, rfl⟩)
        | (go_at_call 39; refine (num13_any _ _).mono ?_; rintro e w' ⟨rfl, rfl⟩)
        | (go_at_call 72; refine (fs_free (HMS.out.fs.drewN m8) n ((HMS.out.held n).2 (List.mem_of_getElem? HJ.out))).mono ?_; rintro e w1 ⟨V1, cnt1, rfl, hF, hh, hV, ht, hr, hc⟩; obtain ⟨f1, f2, f3⟩ := (HMS.out.step (pw_below_drewN (Below.refl _ _) m8)).freed HJ.out hF hh hV ht hr hc; have HDr := Aside0.mk (drop_any f1 j f2 HL.out); have H1 := Aside0.mk f3; clear hF hh hV ht hr hc f1 f2 f3)
        | (go_at_call 73; refine (HDr.out).mono ?_; rintro e w2 ⟨rfl, hv', tv', hmd, hg⟩; have H2 := Aside0.mk (H1.out w2 hv' tv' hmd hg); clear hmd hg))
      all_goals first
        | done
        | (go_ret; exact ⟨rfl, _, _, _, _, _, _, _, _, H2.out.1.more, (HAF.out.trans (AF.below (pw_below_drewN (Below.refl _ _) m8))).trans H2.out.2.1, H2.out.2.2⟩)
set_option maxHeartbeats 1000000 in
set_option maxRecDepth 100000 in
theorem act_free_no (h : MS w wr g B V cnt ok mb hv tv L T R N) (hN : N ≤ 1000) (D n0 b n : Int) (hd : IntKind.u64.wrap D % 8 = 3) (hs : Speaks L n0 b n) (hj : n ∉ L) :
    Calls Tryz.prog 38 #[dp mb, dp g, .agg #[.int .i64 D, .int .i64 n0, .int .i64 b]] wr fun e w' => AR w wr g B V ok mb tv N e w' := by
  have hb0 : Below wr.heap.size wr (wr.alloc (.cells #[.int .i64 D, .int .i64 n0, .int .i64 b] 87)) := (Below.refl _ _).alloc (Nat.le_refl _) _
  have H := h.step hb0
  have hbx : (wr.alloc (.cells #[.int .i64 D, .int .i64 n0, .int .i64 b] 87)).heap[wr.heap.size]? = some (.cells #[.int .i64 D, .int .i64 n0, .int .i64 b] 87 (0, 0)) := heap_alloc_new wr _
  have HFA := Aside0.mk (AF.below (mb := mb) (ok := ok) (tv := tv) hb0)
  have hl := h.len
  have hsz : (wr.alloc (.cells #[.int .i64 D, .int .i64 n0, .int .i64 b] 87)).heap.size = wr.heap.size + 1 := by simp
  obtain ⟨A, c, hve, hC, hc⟩ := R_rowk H.mm.md.held
  have c0 := H.mm.md.c0
  rw [hve] at c0
  obtain ⟨l, hll⟩ : ∃ l, l = L.length := ⟨_, rfl⟩
  rw [← hll] at hve hC hc c0 hl
  obtain ⟨bx, hbxe⟩ : ∃ bx, bx = wr.heap.size := ⟨_, rfl⟩
  rw [← hbxe] at hbx hsz
  have d0 := cell_of_row _ bx 0 _ _ (0, 0) hbx
  have d1 := cell_of_row _ bx 1 _ _ (0, 0) hbx
  have d2 := cell_of_row _ bx 2 _ _ (0, 0) hbx
  have e0 : (wr.alloc (.cells #[.int .i64 D, .int .i64 n0, .int .i64 b] 87)).cell? ⟨bx, 0, none⟩ = some (.int .i64 D) := d0
  have e1 : (wr.alloc (.cells #[.int .i64 D, .int .i64 n0, .int .i64 b] 87)).cell? ⟨bx, 1, none⟩ = some (.int .i64 n0) := d1
  have e2 : (wr.alloc (.cells #[.int .i64 D, .int .i64 n0, .int .i64 b] 87)).cell? ⟨bx, 2, none⟩ = some (.int .i64 b) := d2
  clear d0 d1 d2
  rw [hbxe] at e0 e1 e2
  have HFD := Aside0.mk (fun k : Nat => find_neg (w := (wr.alloc (.cells #[.int .i64 D, .int .i64 n0, .int .i64 b] 87)).drewN k) mb A l c L n c0 (Kd.C_drewN hC k) (by omega) hj)
  have HW8 := Aside0.mk (fun W : World => within_c D 8 3 (by decide) (by decide) (by rw [show ((8 : Nat) : Int) = 8 from rfl, hd]; rfl) W)
  have HX := Aside0.mk (And.intro H (And.intro hbx (And.intro hsz (And.intro hve (And.intro hll hbxe)))))
  have HJ := Aside0.mk hj
  rcases hs with ⟨p1, p2, r, hr, hLr⟩ | ⟨p1, rfl⟩
  · -- a held one is picked
    rw [← hll] at p1 hr
    obtain ⟨ad, rfl, hcx⟩ := Kd.at_int hC (r : Int) (by omega) (by have := (List.getElem?_eq_some_iff.1 hLr).1; omega)
    have hrl : r < l := by have := (List.getElem?_eq_some_iff.1 hLr).1; omega
    rw [Int.toNat_natCast, show rd L (r : Int) = n from by simp [rd, List.getD_eq_getElem?_getD, hLr]] at hcx
    have hcx' : ∀ k, ((wr.alloc (.cells #[.int .i64 D, .int .i64 n0, .int .i64 b] 87)).drewN k).cell? (ad.add r) = some (.int .i64 n) := fun k => hcx
    have HWi := Aside0.mk (fun W : World => within_c n0 l r (by omega) (by omega) hr W)
    have q1 : decide ((0 : Int) < l) = true := by simp; omega
    have q2 : decide ((0 : Int) < b.tmod 5) = true := by simp; omega
    clear h hb0 H hbx hsz hve hll hbxe hC hd hj hr hLr p1 p2 hN hl
    go_enter Tryz.func38, Tryz.ntmps38
    go_wp2
    go_quiet ((go_at_call 18; exact Calls.quiet_of (HWi.out _)))
    go_wp2_with fail
    obtain ⟨W, hW⟩ : ∃ W, W = (wr.alloc (.cells #[.int .i64 D, .int .i64 n0, .int .i64 b] 87)).drewN nq := ⟨_, rfl⟩
    have hBW : Below (wr.alloc (.cells #[.int .i64 D, .int .i64 n0, .int .i64 b] 87)).heap.size (wr.alloc (.cells #[.int .i64 D, .int .i64 n0, .int .i64 b] 87)) W := by rw [hW]; exact pw_below_drewN (Below.refl _ _) _
    have HFD := HFD.out nq
    clear hcx hcx' HWi e0 e1 e2 c0 q1 q2
    rw [← hW] at HFD ⊢
    have HMS := Aside0.mk (HX.out.1.step hBW)
    have hbW : W.heap[wr.heap.size]? = some (.cells #[.int .i64 D, .int .i64 n0, .int .i64 b] 87 (0, 0)) := by
      rw [hBW.block _ (by rw [HX.out.2.2.1]; have := HX.out.2.2.2.2.2; omega)]
      have := HX.out.2.1
      rw [HX.out.2.2.2.2.2] at this
      exact this
    have hszW : wr.heap.size < W.heap.size := by have := hBW.size; rw [HX.out.2.2.1] at this; have := HX.out.2.2.2.2.2; omega
    have HAF := Aside0.mk (HFA.out.trans (AF.below (mb := mb) (ok := ok) (tv := tv) hBW))
    have HBX := Aside0.mk (And.intro hbW hszW)
    have c0 := HMS.out.mm.md.c0
    rw [HX.out.2.2.2.1] at c0
    have e0 := cell_of_row _ wr.heap.size 0 _ _ (0, 0) hbW
    have e1 := cell_of_row _ wr.heap.size 1 _ _ (0, 0) hbW
    have e2 := cell_of_row _ wr.heap.size 2 _ _ (0, 0) hbW
    replace e0 : W.cell? ⟨wr.heap.size, 0, none⟩ = some (.int .i64 D) := e0
    replace e1 : W.cell? ⟨wr.heap.size, 1, none⟩ = some (.int .i64 n0) := e1
    replace e2 : W.cell? ⟨wr.heap.size, 2, none⟩ = some (.int .i64 b) := e2
    clear hW hBW hbW hszW
    refine HFD.mono ?_
    rintro e w' ⟨rfl, rfl⟩
    clear HFD
    go_wp2_with (first
      | (go_at_call 18; refine (HW8.out _).mono ?_; rintro e w' ⟨rfl, m8, rfl⟩)
      | (go_at_call 39; refine (num13_any _ _).mono ?_; rintro e w' ⟨rfl, rfl⟩)
      | (go_at_call 72; refine (fs_free_no (HMS.out.fs.drewN m8) n (fun h => HJ.out ((HMS.out.held n).1 h))).mono ?_; rintro e w1 ⟨rfl, hb1⟩; have H1 := Aside0.mk hb1; clear hb1))
    all_goals first
      | done
      | (go_ret; exact ⟨rfl, _, _, _, _, _, _, _, _, ((HMS.out.step (pw_below_drewN (Below.refl _ _) m8)).step H1.out).more, (HAF.out.trans (AF.below (pw_below_drewN (Below.refl _ _) m8))).trans (AF.below H1.out), Int.le_max_left _ _⟩)
  · -- the number itself
    have hPk : (decide ((0 : Int) < l) && decide ((0 : Int) < b.tmod 5)) = false := by
      rw [← hll] at p1
      rw [Bool.and_eq_false_iff]
      by_cases h1 : 0 < l
      · right; simp; omega
      · left; simp; omega
    have HFD := HFD.out 0
    have HPk := Aside0.mk hPk
    clear h hb0 H hbx hsz hve hll hbxe hC hd hj p1 hN hl hPk
    go_enter Tryz.func38, Tryz.ntmps38
    by_cases q1 : (0 : Int) < l <;> by_cases q2 : (0 : Int) < b.tmod 5
    · exact absurd HPk.out (by rw [decide_eq_true q1, decide_eq_true q2]; decide)
    all_goals
      go_wp2_with fail
      obtain ⟨W, hW⟩ : ∃ W, W = (wr.alloc (.cells #[.int .i64 D, .int .i64 n, .int .i64 b] 87)) := ⟨_, rfl⟩
      have hBW : Below (wr.alloc (.cells #[.int .i64 D, .int .i64 n, .int .i64 b] 87)).heap.size (wr.alloc (.cells #[.int .i64 D, .int .i64 n, .int .i64 b] 87)) W := by rw [hW]; exact Below.refl _ _
      rw [World.drewN_zero] at HFD
      clear e0 e1 e2 c0 q1 q2
      rw [← hW] at HFD ⊢
      have HMS := Aside0.mk (HX.out.1.step hBW)
      have hbW : W.heap[wr.heap.size]? = some (.cells #[.int .i64 D, .int .i64 n, .int .i64 b] 87 (0, 0)) := by
        rw [hBW.block _ (by rw [HX.out.2.2.1]; have := HX.out.2.2.2.2.2; omega)]
        have := HX.out.2.1
        rw [HX.out.2.2.2.2.2] at this
        exact this
      have hszW : wr.heap.size < W.heap.size := by have := hBW.size; rw [HX.out.2.2.1] at this; have := HX.out.2.2.2.2.2; omega
      have HAF := Aside0.mk (HFA.out.trans (AF.below (mb := mb) (ok := ok) (tv := tv) hBW))
      have HBX := Aside0.mk (And.intro hbW hszW)
      have c0 := HMS.out.mm.md.c0
      rw [HX.out.2.2.2.1] at c0
      have e0 := cell_of_row _ wr.heap.size 0 _ _ (0, 0) hbW
      have e1 := cell_of_row _ wr.heap.size 1 _ _ (0, 0) hbW
      have e2 := cell_of_row _ wr.heap.size 2 _ _ (0, 0) hbW
      replace e0 : W.cell? ⟨wr.heap.size, 0, none⟩ = some (.int .i64 D) := e0
      replace e1 : W.cell? ⟨wr.heap.size, 1, none⟩ = some (.int .i64 n) := e1
      replace e2 : W.cell? ⟨wr.heap.size, 2, none⟩ = some (.int .i64 b) := e2
      clear hW hBW hbW hszW
      refine HFD.mono ?_
      rintro e w' ⟨rfl, rfl⟩
      clear HFD
      go_wp2_with (first
        | (go_at_call 18; refine (HW8.out _).mono ?_; rintro e w' ⟨rfl, m8, rfl⟩)
        | (go_at_call 39; refine (num13_any _ _).mono ?_; rintro e w' ⟨rfl, rfl⟩)
        | (go_at_call 72; refine (fs_free_no (HMS.out.fs.drewN m8) n (fun h => HJ.out ((HMS.out.held n).1 h))).mono ?_; rintro e w1 ⟨rfl, hb1⟩; have H1 := Aside0.mk hb1; clear hb1))
      all_goals first
        | done
        | (go_ret; exact ⟨rfl, _, _, _, _, _, _, _, _, ((HMS.out.step (pw_below_drewN (Below.refl _ _) m8)).step H1.out).more, (HAF.out.trans (AF.below (pw_below_drewN (Below.refl _ _) m8))).trans (AF.below H1.out), Int.le_max_left _ _⟩)
set_option maxHeartbeats 1000000 in
set_option maxRecDepth 100000 in
theorem act_read_no (h : MS w wr g B V cnt ok mb hv tv L T R N) (hN : N ≤ 1000) (D n0 b n : Int) (hd : IntKind.u64.wrap D % 8 = 5) (hs : Speaks L n0 b n) (hj : n ∉ L) :
    Calls Tryz.prog 38 #[dp mb, dp g, .agg #[.int .i64 D, .int .i64 n0, .int .i64 b]] wr fun e w' => AR w wr g B V ok mb tv N e w' := by
  have hb0 : Below wr.heap.size wr (wr.alloc (.cells #[.int .i64 D, .int .i64 n0, .int .i64 b] 87)) := (Below.refl _ _).alloc (Nat.le_refl _) _
  have H := h.step hb0
  have hbx : (wr.alloc (.cells #[.int .i64 D, .int .i64 n0, .int .i64 b] 87)).heap[wr.heap.size]? = some (.cells #[.int .i64 D, .int .i64 n0, .int .i64 b] 87 (0, 0)) := heap_alloc_new wr _
  have HFA := Aside0.mk (AF.below (mb := mb) (ok := ok) (tv := tv) hb0)
  have hl := h.len
  have hsz : (wr.alloc (.cells #[.int .i64 D, .int .i64 n0, .int .i64 b] 87)).heap.size = wr.heap.size + 1 := by simp
  obtain ⟨A, c, hve, hC, hc⟩ := R_rowk H.mm.md.held
  have c0 := H.mm.md.c0
  rw [hve] at c0
  obtain ⟨l, hll⟩ : ∃ l, l = L.length := ⟨_, rfl⟩
  rw [← hll] at hve hC hc c0 hl
  obtain ⟨bx, hbxe⟩ : ∃ bx, bx = wr.heap.size := ⟨_, rfl⟩
  rw [← hbxe] at hbx hsz
  have d0 := cell_of_row _ bx 0 _ _ (0, 0) hbx
  have d1 := cell_of_row _ bx 1 _ _ (0, 0) hbx
  have d2 := cell_of_row _ bx 2 _ _ (0, 0) hbx
  have e0 : (wr.alloc (.cells #[.int .i64 D, .int .i64 n0, .int .i64 b] 87)).cell? ⟨bx, 0, none⟩ = some (.int .i64 D) := d0
  have e1 : (wr.alloc (.cells #[.int .i64 D, .int .i64 n0, .int .i64 b] 87)).cell? ⟨bx, 1, none⟩ = some (.int .i64 n0) := d1
  have e2 : (wr.alloc (.cells #[.int .i64 D, .int .i64 n0, .int .i64 b] 87)).cell? ⟨bx, 2, none⟩ = some (.int .i64 b) := d2
  clear d0 d1 d2
  rw [hbxe] at e0 e1 e2
  have HFD := Aside0.mk (fun k : Nat => find_neg (w := (wr.alloc (.cells #[.int .i64 D, .int .i64 n0, .int .i64 b] 87)).drewN k) mb A l c L n c0 (Kd.C_drewN hC k) (by omega) hj)
  have HW8 := Aside0.mk (fun W : World => within_c D 8 5 (by decide) (by decide) (by rw [show ((8 : Nat) : Int) = 8 from rfl, hd]; rfl) W)
  have HX := Aside0.mk (And.intro H (And.intro hbx (And.intro hsz (And.intro hve (And.intro hll hbxe)))))
  have HJ := Aside0.mk hj
  rcases hs with ⟨p1, p2, r, hr, hLr⟩ | ⟨p1, rfl⟩
  · -- a held one is picked
    rw [← hll] at p1 hr
    obtain ⟨ad, rfl, hcx⟩ := Kd.at_int hC (r : Int) (by omega) (by have := (List.getElem?_eq_some_iff.1 hLr).1; omega)
    have hrl : r < l := by have := (List.getElem?_eq_some_iff.1 hLr).1; omega
    rw [Int.toNat_natCast, show rd L (r : Int) = n from by simp [rd, List.getD_eq_getElem?_getD, hLr]] at hcx
    have hcx' : ∀ k, ((wr.alloc (.cells #[.int .i64 D, .int .i64 n0, .int .i64 b] 87)).drewN k).cell? (ad.add r) = some (.int .i64 n) := fun k => hcx
    have HWi := Aside0.mk (fun W : World => within_c n0 l r (by omega) (by omega) hr W)
    have q1 : decide ((0 : Int) < l) = true := by simp; omega
    have q2 : decide ((0 : Int) < b.tmod 5) = true := by simp; omega
    clear h hb0 H hbx hsz hve hll hbxe hC hd hj hr hLr p1 p2 hN hl
    go_enter Tryz.func38, Tryz.ntmps38
    go_wp2
    go_quiet ((go_at_call 18; exact Calls.quiet_of (HWi.out _)))
    go_wp2_with fail
    obtain ⟨W, hW⟩ : ∃ W, W = (wr.alloc (.cells #[.int .i64 D, .int .i64 n0, .int .i64 b] 87)).drewN nq := ⟨_, rfl⟩
    have hBW : Below (wr.alloc (.cells #[.int .i64 D, .int .i64 n0, .int .i64 b] 87)).heap.size (wr.alloc (.cells #[.int .i64 D, .int .i64 n0, .int .i64 b] 87)) W := by rw [hW]; exact pw_below_drewN (Below.refl _ _) _
    have HFD := HFD.out nq
    clear hcx hcx' HWi e0 e1 e2 c0 q1 q2
    rw [← hW] at HFD ⊢
    have HMS := Aside0.mk (HX.out.1.step hBW)
    have hbW : W.heap[wr.heap.size]? = some (.cells #[.int .i64 D, .int .i64 n0, .int .i64 b] 87 (0, 0)) := by
      rw [hBW.block _ (by rw [HX.out.2.2.1]; have := HX.out.2.2.2.2.2; omega)]
      have := HX.out.2.1
      rw [HX.out.2.2.2.2.2] at this
      exact this
    have hszW : wr.heap.size < W.heap.size := by have := hBW.size; rw [HX.out.2.2.1] at this; have := HX.out.2.2.2.2.2; omega
    have HAF := Aside0.mk (HFA.out.trans (AF.below (mb := mb) (ok := ok) (tv := tv) hBW))
    have HBX := Aside0.mk (And.intro hbW hszW)
    have c0 := HMS.out.mm.md.c0
    rw [HX.out.2.2.2.1] at c0
    have e0 := cell_of_row _ wr.heap.size 0 _ _ (0, 0) hbW
    have e1 := cell_of_row _ wr.heap.size 1 _ _ (0, 0) hbW
    have e2 := cell_of_row _ wr.heap.size 2 _ _ (0, 0) hbW
    replace e0 : W.cell? ⟨wr.heap.size, 0, none⟩ = some (.int .i64 D) := e0
    replace e1 : W.cell? ⟨wr.heap.size, 1, none⟩ = some (.int .i64 n0) := e1
    replace e2 : W.cell? ⟨wr.heap.size, 2, none⟩ = some (.int .i64 b) := e2
    clear hW hBW hbW hszW
    refine HFD.mono ?_
    rintro e w' ⟨rfl, rfl⟩
    clear HFD
    go_wp2_with (first
      | (go_at_call 18; refine (HW8.out _).mono ?_; rintro e w' ⟨rfl, m8, rfl⟩)
      | (go_at_call 39; refine (num13_any _ _).mono ?_; rintro e w' ⟨rfl, rfl⟩)
      | (go_at_call 42; refine (gread_no (HMS.out.fs.drewN m8).fat (HMS.out.fs.drewN m8).good n (fun h => HJ.out ((HMS.out.held n).1 h))).mono ?_; rintro e w1 ⟨rfl, hb1⟩; have H1 := Aside0.mk hb1; have HBy := Aside0.mk (bytes_any (w0 := w1) (w := w1) (P0 := fun _ => True) (Below.refl _ _) (Kd.R_nil _ _ _ _ _) (by decide)); clear hb1)
      | (go_at_call 66; refine (HBy.out).mono ?_; rintro e w2 ⟨rfl, hb2, -⟩; have H2 := Aside0.mk hb2; clear hb2))
    all_goals first
      | done
      | (go_ret; exact ⟨rfl, _, _, _, _, _, _, _, _, (((HMS.out.step (pw_below_drewN (Below.refl _ _) m8)).step H1.out).step H2.out).more, ((HAF.out.trans (AF.below (pw_below_drewN (Below.refl _ _) m8))).trans (AF.below H1.out)).trans (AF.below H2.out), Int.le_max_left _ _⟩)
  · -- the number itself
    have hPk : (decide ((0 : Int) < l) && decide ((0 : Int) < b.tmod 5)) = false := by
      rw [← hll] at p1
      rw [Bool.and_eq_false_iff]
      by_cases h1 : 0 < l
      · right; simp; omega
      · left; simp; omega
    have HFD := HFD.out 0
    have HPk := Aside0.mk hPk
    clear h hb0 H hbx hsz hve hll hbxe hC hd hj p1 hN hl hPk
    go_enter Tryz.func38, Tryz.ntmps38
    by_cases q1 : (0 : Int) < l <;> by_cases q2 : (0 : Int) < b.tmod 5
    · exact absurd HPk.out (by rw [decide_eq_true q1, decide_eq_true q2]; decide)
    all_goals
      go_wp2_with fail
      obtain ⟨W, hW⟩ : ∃ W, W = (wr.alloc (.cells #[.int .i64 D, .int .i64 n, .int .i64 b] 87)) := ⟨_, rfl⟩
      have hBW : Below (wr.alloc (.cells #[.int .i64 D, .int .i64 n, .int .i64 b] 87)).heap.size (wr.alloc (.cells #[.int .i64 D, .int .i64 n, .int .i64 b] 87)) W := by rw [hW]; exact Below.refl _ _
      rw [World.drewN_zero] at HFD
      clear e0 e1 e2 c0 q1 q2
      rw [← hW] at HFD ⊢
      have HMS := Aside0.mk (HX.out.1.step hBW)
      have hbW : W.heap[wr.heap.size]? = some (.cells #[.int .i64 D, .int .i64 n, .int .i64 b] 87 (0, 0)) := by
        rw [hBW.block _ (by rw [HX.out.2.2.1]; have := HX.out.2.2.2.2.2; omega)]
        have := HX.out.2.1
        rw [HX.out.2.2.2.2.2] at this
        exact this
      have hszW : wr.heap.size < W.heap.size := by have := hBW.size; rw [HX.out.2.2.1] at this; have := HX.out.2.2.2.2.2; omega
      have HAF := Aside0.mk (HFA.out.trans (AF.below (mb := mb) (ok := ok) (tv := tv) hBW))
      have HBX := Aside0.mk (And.intro hbW hszW)
      have c0 := HMS.out.mm.md.c0
      rw [HX.out.2.2.2.1] at c0
      have e0 := cell_of_row _ wr.heap.size 0 _ _ (0, 0) hbW
      have e1 := cell_of_row _ wr.heap.size 1 _ _ (0, 0) hbW
      have e2 := cell_of_row _ wr.heap.size 2 _ _ (0, 0) hbW
      replace e0 : W.cell? ⟨wr.heap.size, 0, none⟩ = some (.int .i64 D) := e0
      replace e1 : W.cell? ⟨wr.heap.size, 1, none⟩ = some (.int .i64 n) := e1
      replace e2 : W.cell? ⟨wr.heap.size, 2, none⟩ = some (.int .i64 b) := e2
      clear hW hBW hbW hszW
      refine HFD.mono ?_
      rintro e w' ⟨rfl, rfl⟩
      clear HFD
      go_wp2_with (first
        | (go_at_call 18; refine (HW8.out _).mono ?_; rintro e w' ⟨rfl, m8, rfl⟩)
        | (go_at_call 39; refine (num13_any _ _).mono ?_; rintro e w' ⟨rfl, rfl⟩)
        | (go_at_call 42; refine (gread_no (HMS.out.fs.drewN m8).fat (HMS.out.fs.drewN m8).good n (fun h => HJ.out ((HMS.out.held n).1 h))).mono ?_; rintro e w1 ⟨rfl, hb1⟩; have H1 := Aside0.mk hb1; have HBy := Aside0.mk (bytes_any (w0 := w1) (w := w1) (P0 := fun _ => True) (Below.refl _ _) (Kd.R_nil _ _ _ _ _) (by decide)); clear hb1)
        | (go_at_call 66; refine (HBy.out).mono ?_; rintro e w2 ⟨rfl, hb2, -⟩; have H2 := Aside0.mk hb2; clear hb2))
      all_goals first
        | done
        | (go_ret; exact ⟨rfl, _, _, _, _, _, _, _, _, (((HMS.out.step (pw_below_drewN (Below.refl _ _) m8)).step H1.out).step H2.out).more, ((HAF.out.trans (AF.below (pw_below_drewN (Below.refl _ _) m8))).trans (AF.below H1.out)).trans (AF.below H2.out), Int.le_max_left _ _⟩)
set_option maxHeartbeats 1000000 in
set_option maxRecDepth 100000 in
theorem act_read_yes (h : MS w wr g B V cnt ok mb hv tv L T R N) (hN : N ≤ 1000) (D n0 b n : Int) (hd : IntKind.u64.wrap D % 8 = 5) (hs : Speaks L n0 b n) (j : Nat) (hj : L[j]? = some n) :
    Calls Tryz.prog 38 #[dp mb, dp g, .agg #[.int .i64 D, .int .i64 n0, .int .i64 b]] wr fun e w' => AR w wr g B V ok mb tv N e w' := by
  have hb0 : Below wr.heap.size wr (wr.alloc (.cells #[.int .i64 D, .int .i64 n0, .int .i64 b] 87)) := (Below.refl _ _).alloc (Nat.le_refl _) _
  have H := h.step hb0
  have hbx : (wr.alloc (.cells #[.int .i64 D, .int .i64 n0, .int .i64 b] 87)).heap[wr.heap.size]? = some (.cells #[.int .i64 D, .int .i64 n0, .int .i64 b] 87 (0, 0)) := heap_alloc_new wr _
  have HFA := Aside0.mk (AF.below (mb := mb) (ok := ok) (tv := tv) hb0)
  have hl := h.len
  have hsz : (wr.alloc (.cells #[.int .i64 D, .int .i64 n0, .int .i64 b] 87)).heap.size = wr.heap.size + 1 := by simp
  obtain ⟨A, c, hve, hC, hc⟩ := R_rowk H.mm.md.held
  have c0 := H.mm.md.c0
  rw [hve] at c0
  obtain ⟨l, hll⟩ : ∃ l, l = L.length := ⟨_, rfl⟩
  rw [← hll] at hve hC hc c0 hl
  obtain ⟨bx, hbxe⟩ : ∃ bx, bx = wr.heap.size := ⟨_, rfl⟩
  rw [← hbxe] at hbx hsz
  have d0 := cell_of_row _ bx 0 _ _ (0, 0) hbx
  have d1 := cell_of_row _ bx 1 _ _ (0, 0) hbx
  have d2 := cell_of_row _ bx 2 _ _ (0, 0) hbx
  have e0 : (wr.alloc (.cells #[.int .i64 D, .int .i64 n0, .int .i64 b] 87)).cell? ⟨bx, 0, none⟩ = some (.int .i64 D) := d0
  have e1 : (wr.alloc (.cells #[.int .i64 D, .int .i64 n0, .int .i64 b] 87)).cell? ⟨bx, 1, none⟩ = some (.int .i64 n0) := d1
  have e2 : (wr.alloc (.cells #[.int .i64 D, .int .i64 n0, .int .i64 b] 87)).cell? ⟨bx, 2, none⟩ = some (.int .i64 b) := d2
  clear d0 d1 d2
  rw [hbxe] at e0 e1 e2
  have HFD := Aside0.mk (fun k : Nat => find_pos (w := (wr.alloc (.cells #[.int .i64 D, .int .i64 n0, .int .i64 b] 87)).drewN k) mb A l c L n j c0 (Kd.C_drewN hC k) (by omega) hj h.nodup)
  have HW8 := Aside0.mk (fun W : World => within_c D 8 5 (by decide) (by decide) (by rw [show ((8 : Nat) : Int) = 8 from rfl, hd]; rfl) W)
  have HX := Aside0.mk (And.intro H (And.intro hbx (And.intro hsz (And.intro hve (And.intro hll hbxe)))))
  have HJ := Aside0.mk hj
  rcases hs with ⟨p1, p2, r, hr, hLr⟩ | ⟨p1, rfl⟩
  · -- a held one is picked
    rw [← hll] at p1 hr
    obtain ⟨ad, rfl, hcx⟩ := Kd.at_int hC (r : Int) (by omega) (by have := (List.getElem?_eq_some_iff.1 hLr).1; omega)
    have hrl : r < l := by have := (List.getElem?_eq_some_iff.1 hLr).1; omega
    rw [Int.toNat_natCast, show rd L (r : Int) = n from by simp [rd, List.getD_eq_getElem?_getD, hLr]] at hcx
    have hcx' : ∀ k, ((wr.alloc (.cells #[.int .i64 D, .int .i64 n0, .int .i64 b] 87)).drewN k).cell? (ad.add r) = some (.int .i64 n) := fun k => hcx
    have HWi := Aside0.mk (fun W : World => within_c n0 l r (by omega) (by omega) hr W)
    have q1 : decide ((0 : Int) < l) = true := by simp; omega
    have q2 : decide ((0 : Int) < b.tmod 5) = true := by simp; omega
    clear h hb0 H hbx hsz hve hll hbxe hC hd hj hr hLr p1 p2 hN hl
    go_enter Tryz.func38, Tryz.ntmps38
    go_wp2
    go_quiet ((go_at_call 18; exact Calls.quiet_of (HWi.out _)))
    go_wp2_with fail
    obtain ⟨W, hW⟩ : ∃ W, W = (wr.alloc (.cells #[.int .i64 D, .int .i64 n0, .int .i64 b] 87)).drewN nq := ⟨_, rfl⟩
    have hBW : Below (wr.alloc (.cells #[.int .i64 D, .int .i64 n0, .int .i64 b] 87)).heap.size (wr.alloc (.cells #[.int .i64 D, .int .i64 n0, .int .i64 b] 87)) W := by rw [hW]; exact pw_below_drewN (Below.refl _ _) _
    have HFD := HFD.out nq
    clear hcx hcx' HWi e0 e1 e2 c0 q1 q2
    rw [← hW] at HFD ⊢
    have HMS := Aside0.mk (HX.out.1.step hBW)
    have hbW : W.heap[wr.heap.size]? = some (.cells #[.int .i64 D, .int .i64 n0, .int .i64 b] 87 (0, 0)) := by
      rw [hBW.block _ (by rw [HX.out.2.2.1]; have := HX.out.2.2.2.2.2; omega)]
      have := HX.out.2.1
      rw [HX.out.2.2.2.2.2] at this
      exact this
    have hszW : wr.heap.size < W.heap.size := by have := hBW.size; rw [HX.out.2.2.1] at this; have := HX.out.2.2.2.2.2; omega
    have HAF := Aside0.mk (HFA.out.trans (AF.below (mb := mb) (ok := ok) (tv := tv) hBW))
    have HBX := Aside0.mk (And.intro hbW hszW)
    have c0 := HMS.out.mm.md.c0
    rw [HX.out.2.2.2.1] at c0
    have e0 := cell_of_row _ wr.heap.size 0 _ _ (0, 0) hbW
    have e1 := cell_of_row _ wr.heap.size 1 _ _ (0, 0) hbW
    have e2 := cell_of_row _ wr.heap.size 2 _ _ (0, 0) hbW
    replace e0 : W.cell? ⟨wr.heap.size, 0, none⟩ = some (.int .i64 D) := e0
    replace e1 : W.cell? ⟨wr.heap.size, 1, none⟩ = some (.int .i64 n0) := e1
    replace e2 : W.cell? ⟨wr.heap.size, 2, none⟩ = some (.int .i64 b) := e2
    clear hW hBW hbW hszW
    refine HFD.mono ?_
    rintro e w' ⟨rfl, rfl⟩
    clear HFD
    go_wp2_with (first
      | (go_at_call 18; refine (HW8.out _).mono ?_; rintro e w' ⟨rfl, m8, rfl⟩)
      | (go_at_call 39; refine (num13_any _ _).mono ?_; rintro e w' ⟨rfl, rfl⟩)
      | (go_at_call 42; refine (fs_read (HMS.out.fs.drewN m8) n ((HMS.out.held n).2 (List.mem_of_getElem? HJ.out))).mono ?_; rintro e w1 ⟨v, rfl, hv, hb1⟩; have hM1 := (HMS.out.step (pw_below_drewN (Below.refl _ _) m8)).step hb1; have hlen : (V n).length = 512 := (hM1.textcell HJ.out).1; obtain ⟨-, tb, tc, t, hte, hTj, x0, hCt, hct⟩ := hM1.textcell HJ.out; have x1 := hM1.mm.md.c1; rw [hte, ← HX.out.2.2.2.2.1] at x1; obtain ⟨A1, c1, rfl⟩ := Kd.R_slice hv; have hjl : j < l := (by rw [HX.out.2.2.2.2.1]; exact (List.getElem?_eq_some_iff.1 HJ.out).1); rw [hlen] at hv ⊢; obtain ⟨hC1, hc1, _⟩ := C_of_row hv; have HQ := eqbytes_any hC1 hc1 hCt hct (by omega); rw [decide_eq_true rfl] at HQ; replace HQ := Aside0.mk HQ; have HBy := Aside0.mk (fun k => bytes_any (w0 := W.drewN m8) (w := w1.drewN k) (pw_below_drewN hb1 k) (Kd.R_drewN hv k) (by rw [hlen]; decide)); have H1 := Aside0.mk hb1; clear hb1 hM1 hlen hte hTj hCt hct hv hC1 hc1)
      | (go_at_call 24; refine (HQ.out).mono ?_; rintro e w' ⟨rfl, m4, rfl⟩)
      | (go_at_call 66; refine (HBy.out _).mono ?_; rintro e w2 ⟨rfl, hb2, -⟩; have H2 := Aside0.mk hb2; clear hb2))
    all_goals first
      | done
      | (go_ret; exact ⟨rfl, _, _, _, _, _, _, _, _, ((HMS.out.step (pw_below_drewN (Below.refl _ _) m8)).step H2.out).more, (HAF.out.trans (AF.below (pw_below_drewN (Below.refl _ _) m8))).trans (AF.below H2.out), Int.le_max_left _ _⟩)
  · -- the number itself
    have hPk : (decide ((0 : Int) < l) && decide ((0 : Int) < b.tmod 5)) = false := by
      rw [← hll] at p1
      rw [Bool.and_eq_false_iff]
      by_cases h1 : 0 < l
      · right; simp; omega
      · left; simp; omega
    have HFD := HFD.out 0
    have HPk := Aside0.mk hPk
    clear h hb0 H hbx hsz hve hll hbxe hC hd hj p1 hN hl hPk
    go_enter Tryz.func38, Tryz.ntmps38
    by_cases q1 : (0 : Int) < l <;> by_cases q2 : (0 : Int) < b.tmod 5
    · exact absurd HPk.out (by rw [decide_eq_true q1, decide_eq_true q2]; decide)
    all_goals
      go_wp2_with fail
      obtain ⟨W, hW⟩ : ∃ W, W = (wr.alloc (.cells #[.int .i64 D, .int .i64 n, .int .i64 b] 87)) := ⟨_, rfl⟩
      have hBW : Below (wr.alloc (.cells #[.int .i64 D, .int .i64 n, .int .i64 b] 87)).heap.size (wr.alloc (.cells #[.int .i64 D, .int .i64 n, .int .i64 b] 87)) W := by rw [hW]; exact Below.refl _ _
      rw [World.drewN_zero] at HFD
      clear e0 e1 e2 c0 q1 q2
      rw [← hW] at HFD ⊢
      have HMS := Aside0.mk (HX.out.1.step hBW)
      have hbW : W.heap[wr.heap.size]? = some (.cells #[.int .i64 D, .int .i64 n, .int .i64 b] 87 (0, 0)) := by
        rw [hBW.block _ (by rw [HX.out.2.2.1]; have := HX.out.2.2.2.2.2; omega)]
        have := HX.out.2.1
        rw [HX.out.2.2.2.2.2] at this
        exact this
      have hszW : wr.heap.size < W.heap.size := by have := hBW.size; rw [HX.out.2.2.1] at this; have := HX.out.2.2.2.2.2; omega
      have HAF := Aside0.mk (HFA.out.trans (AF.below (mb := mb) (ok := ok) (tv := tv) hBW))
      have HBX := Aside0.mk (And.intro hbW hszW)
      have c0 := HMS.out.mm.md.c0
      rw [HX.out.2.2.2.1] at c0
      have e0 := cell_of_row _ wr.heap.size 0 _ _ (0, 0) hbW
      have e1 := cell_of_row _ wr.heap.size 1 _ _ (0, 0) hbW
      have e2 := cell_of_row _ wr.heap.size 2 _ _ (0, 0) hbW
      replace e0 : W.cell? ⟨wr.heap.size, 0, none⟩ = some (.int .i64 D) := e0
      replace e1 : W.cell? ⟨wr.heap.size, 1, none⟩ = some (.int .i64 n) := e1
      replace e2 : W.cell? ⟨wr.heap.size, 2, none⟩ = some (.int .i64 b) := e2
      clear hW hBW hbW hszW
      refine HFD.mono ?_
      rintro e w' ⟨rfl, rfl⟩
      clear HFD
      go_wp2_with (first
        | (go_at_call 18; refine (HW8.out _).mono ?_; rintro e w' ⟨rfl, m8, rfl⟩)
        | (go_at_call 39; refine (num13_any _ _).mono ?_; rintro e w' ⟨rfl, rfl⟩)
        | (go_at_call 42; refine (fs_read (HMS.out.fs.drewN m8) n ((HMS.out.held n).2 (List.mem_of_getElem? HJ.out))).mono ?_; rintro e w1 ⟨v, rfl, hv, hb1⟩; have hM1 := (HMS.out.step (pw_below_drewN (Below.refl _ _) m8)).step hb1; have hlen : (V n).length = 512 := (hM1.textcell HJ.out).1; obtain ⟨-, tb, tc, t, hte, hTj, x0, hCt, hct⟩ := hM1.textcell HJ.out; have x1 := hM1.mm.md.c1; rw [hte, ← HX.out.2.2.2.2.1] at x1; obtain ⟨A1, c1, rfl⟩ := Kd.R_slice hv; have hjl : j < l := (by rw [HX.out.2.2.2.2.1]; exact (List.getElem?_eq_some_iff.1 HJ.out).1); rw [hlen] at hv ⊢; obtain ⟨hC1, hc1, _⟩ := C_of_row hv; have HQ := eqbytes_any hC1 hc1 hCt hct (by omega); rw [decide_eq_true rfl] at HQ; replace HQ := Aside0.mk HQ; have HBy := Aside0.mk (fun k => bytes_any (w0 := W.drewN m8) (w := w1.drewN k) (pw_below_drewN hb1 k) (Kd.R_drewN hv k) (by rw [hlen]; decide)); have H1 := Aside0.mk hb1; clear hb1 hM1 hlen hte hTj hCt hct hv hC1 hc1)
        | (go_at_call 24; refine (HQ.out).mono ?_; rintro e w' ⟨rfl, m4, rfl⟩)
        | (go_at_call 66; refine (HBy.out _).mono ?_; rintro e w2 ⟨rfl, hb2, -⟩; have H2 := Aside0.mk hb2; clear hb2))
      all_goals first
        | done
        | (go_ret; exact ⟨rfl, _, _, _, _, _, _, _, _, ((HMS.out.step (pw_below_drewN (Below.refl _ _) m8)).step H2.out).more, (HAF.out.trans (AF.below (pw_below_drewN (Below.refl _ _) m8))).trans (AF.below H2.out), Int.le_max_left _ _⟩)
set_option maxHeartbeats 1000000 in
set_option maxRecDepth 100000 in
theorem act_write_no (h : MS w wr g B V cnt ok mb hv tv L T R N) (hN : N ≤ 1000) (D n0 b n : Int) (hd : IntKind.u64.wrap D % 8 = 4) (hs : Speaks L n0 b n) (hj : n ∉ L) :
    Calls Tryz.prog 38 #[dp mb, dp g, .agg #[.int .i64 D, .int .i64 n0, .int .i64 b]] wr fun e w' => AR w wr g B V ok mb tv N e w' := by
  have hb0 : Below wr.heap.size wr (wr.alloc (.cells #[.int .i64 D, .int .i64 n0, .int .i64 b] 87)) := (Below.refl _ _).alloc (Nat.le_refl _) _
  have H := h.step hb0
  have hbx : (wr.alloc (.cells #[.int .i64 D, .int .i64 n0, .int .i64 b] 87)).heap[wr.heap.size]? = some (.cells #[.int .i64 D, .int .i64 n0, .int .i64 b] 87 (0, 0)) := heap_alloc_new wr _
  have HFA := Aside0.mk (AF.below (mb := mb) (ok := ok) (tv := tv) hb0)
  have hl := h.len
  have hsz : (wr.alloc (.cells #[.int .i64 D, .int .i64 n0, .int .i64 b] 87)).heap.size = wr.heap.size + 1 := by simp
  obtain ⟨A, c, hve, hC, hc⟩ := R_rowk H.mm.md.held
  have c0 := H.mm.md.c0
  rw [hve] at c0
  obtain ⟨l, hll⟩ : ∃ l, l = L.length := ⟨_, rfl⟩
  rw [← hll] at hve hC hc c0 hl
  obtain ⟨bx, hbxe⟩ : ∃ bx, bx = wr.heap.size := ⟨_, rfl⟩
  rw [← hbxe] at hbx hsz
  have d0 := cell_of_row _ bx 0 _ _ (0, 0) hbx
  have d1 := cell_of_row _ bx 1 _ _ (0, 0) hbx
  have d2 := cell_of_row _ bx 2 _ _ (0, 0) hbx
  have e0 : (wr.alloc (.cells #[.int .i64 D, .int .i64 n0, .int .i64 b] 87)).cell? ⟨bx, 0, none⟩ = some (.int .i64 D) := d0
  have e1 : (wr.alloc (.cells #[.int .i64 D, .int .i64 n0, .int .i64 b] 87)).cell? ⟨bx, 1, none⟩ = some (.int .i64 n0) := d1
  have e2 : (wr.alloc (.cells #[.int .i64 D, .int .i64 n0, .int .i64 b] 87)).cell? ⟨bx, 2, none⟩ = some (.int .i64 b) := d2
  clear d0 d1 d2
  rw [hbxe] at e0 e1 e2
  have HFD := Aside0.mk (fun k : Nat => find_neg (w := (wr.alloc (.cells #[.int .i64 D, .int .i64 n0, .int .i64 b] 87)).drewN k) mb A l c L n c0 (Kd.C_drewN hC k) (by omega) hj)
  have HW8 := Aside0.mk (fun W : World => within_c D 8 4 (by decide) (by decide) (by rw [show ((8 : Nat) : Int) = 8 from rfl, hd]; rfl) W)
  have HX := Aside0.mk (And.intro H (And.intro hbx (And.intro hsz (And.intro hve (And.intro hll hbxe)))))
  have HJ := Aside0.mk hj
  rcases hs with ⟨p1, p2, r, hr, hLr⟩ | ⟨p1, rfl⟩
  · -- a held one is picked
    rw [← hll] at p1 hr
    obtain ⟨ad, rfl, hcx⟩ := Kd.at_int hC (r : Int) (by omega) (by have := (List.getElem?_eq_some_iff.1 hLr).1; omega)
    have hrl : r < l := by have := (List.getElem?_eq_some_iff.1 hLr).1; omega
    rw [Int.toNat_natCast, show rd L (r : Int) = n from by simp [rd, List.getD_eq_getElem?_getD, hLr]] at hcx
    have hcx' : ∀ k, ((wr.alloc (.cells #[.int .i64 D, .int .i64 n0, .int .i64 b] 87)).drewN k).cell? (ad.add r) = some (.int .i64 n) := fun k => hcx
    have HWi := Aside0.mk (fun W : World => within_c n0 l r (by omega) (by omega) hr W)
    have q1 : decide ((0 : Int) < l) = true := by simp; omega
    have q2 : decide ((0 : Int) < b.tmod 5) = true := by simp; omega
    clear h hb0 H hbx hsz hve hll hbxe hC hd hj hr hLr p1 p2 hN hl
    go_enter Tryz.func38, Tryz.ntmps38
    go_wp2
    go_quiet ((go_at_call 18; exact Calls.quiet_of (HWi.out _)))
    go_wp2_with fail
    obtain ⟨W, hW⟩ : ∃ W, W = (wr.alloc (.cells #[.int .i64 D, .int .i64 n0, .int .i64 b] 87)).drewN nq := ⟨_, rfl⟩
    have hBW : Below (wr.alloc (.cells #[.int .i64 D, .int .i64 n0, .int .i64 b] 87)).heap.size (wr.alloc (.cells #[.int .i64 D, .int .i64 n0, .int .i64 b] 87)) W := by rw [hW]; exact pw_below_drewN (Below.refl _ _) _
    have HFD := HFD.out nq
    clear hcx hcx' HWi e0 e1 e2 c0 q1 q2
    rw [← hW] at HFD ⊢
    have HMS := Aside0.mk (HX.out.1.step hBW)
    have hbW : W.heap[wr.heap.size]? = some (.cells #[.int .i64 D, .int .i64 n0, .int .i64 b] 87 (0, 0)) := by
      rw [hBW.block _ (by rw [HX.out.2.2.1]; have := HX.out.2.2.2.2.2; omega)]
      have := HX.out.2.1
      rw [HX.out.2.2.2.2.2] at this
      exact this
    have hszW : wr.heap.size < W.heap.size := by have := hBW.size; rw [HX.out.2.2.1] at this; have := HX.out.2.2.2.2.2; omega
    have HAF := Aside0.mk (HFA.out.trans (AF.below (mb := mb) (ok := ok) (tv := tv) hBW))
    have HBX := Aside0.mk (And.intro hbW hszW)
    have c0 := HMS.out.mm.md.c0
    rw [HX.out.2.2.2.1] at c0
    have e0 := cell_of_row _ wr.heap.size 0 _ _ (0, 0) hbW
    have e1 := cell_of_row _ wr.heap.size 1 _ _ (0, 0) hbW
    have e2 := cell_of_row _ wr.heap.size 2 _ _ (0, 0) hbW
    replace e0 : W.cell? ⟨wr.heap.size, 0, none⟩ = some (.int .i64 D) := e0
    replace e1 : W.cell? ⟨wr.heap.size, 1, none⟩ = some (.int .i64 n0) := e1
    replace e2 : W.cell? ⟨wr.heap.size, 2, none⟩ = some (.int .i64 b) := e2
    clear hW hBW hbW hszW
    refine HFD.mono ?_
    rintro e w' ⟨rfl, rfl⟩
    clear HFD
    go_wp2_with (first
      | (go_at_call 18; refine (HW8.out _).mono ?_; rintro e w' ⟨rfl, m8, rfl⟩)
      | (go_at_call 39; refine (num13_any _ _).mono ?_; rintro e w' ⟨rfl, rfl⟩)
      | (go_at_call 74; refine (lpage_any _ _).mono ?_; rintro e w3 ⟨v3, rfl, hv3, hb3⟩; have hv3' := row_new (HMS.out.fs.drewN m8) hv3; have HWr := Aside0.mk (fs_write_no ((HMS.out.fs.drewN m8).step hb3) n (fun h => HJ.out ((HMS.out.held n).1 h)) hv3'); have H3 := Aside0.mk (And.intro hv3 hb3); clear hv3 hv3' hb3)
      | (go_at_call 75; refine (HWr.out).mono ?_; rintro e w4 ⟨rfl, hb4⟩; have HBy := Aside0.mk (bytes_any (w0 := W.drewN m8) (w := w4) (below_tr H3.out.2 hb4) (Kd.R_below H3.out.1 hb4) (by rw [pageB_length]; decide)); clear hb4)
      | (go_at_call 66; refine (HBy.out).mono ?_; rintro e w2 ⟨rfl, hb2, -⟩; have H2 := Aside0.mk hb2; clear hb2))
    all_goals first
      | done
      | (go_ret; exact ⟨rfl, _, _, _, _, _, _, _, _, ((HMS.out.step (pw_below_drewN (Below.refl _ _) m8)).step H2.out).more, (HAF.out.trans (AF.below (pw_below_drewN (Below.refl _ _) m8))).trans (AF.below H2.out), Int.le_max_left _ _⟩)
  · -- the number itself
    have hPk : (decide ((0 : Int) < l) && decide ((0 : Int) < b.tmod 5)) = false := by
      rw [← hll] at p1
      rw [Bool.and_eq_false_iff]
      by_cases h1 : 0 < l
      · right; simp; omega
      · left; simp; omega
    have HFD := HFD.out 0
    have HPk := Aside0.mk hPk
    clear h hb0 H hbx hsz hve hll hbxe hC hd hj p1 hN hl hPk
    go_enter Tryz.func38, Tryz.ntmps38
    by_cases q1 : (0 : Int) < l <;> by_cases q2 : (0 : Int) < b.tmod 5
    · exact absurd HPk.out (by rw [decide_eq_true q1, decide_eq_true q2]; decide)
    all_goals
      go_wp2_with fail
      obtain ⟨W, hW⟩ : ∃ W, W = (wr.alloc (.cells #[.int .i64 D, .int .i64 n, .int .i64 b] 87)) := ⟨_, rfl⟩
      have hBW : Below (wr.alloc (.cells #[.int .i64 D, .int .i64 n, .int .i64 b] 87)).heap.size (wr.alloc (.cells #[.int .i64 D, .int .i64 n, .int .i64 b] 87)) W := by rw [hW]; exact Below.refl _ _
      rw [World.drewN_zero] at HFD
      clear e0 e1 e2 c0 q1 q2
      rw [← hW] at HFD ⊢
      have HMS := Aside0.mk (HX.out.1.step hBW)
      have hbW : W.heap[wr.heap.size]? = some (.cells #[.int .i64 D, .int .i64 n, .int .i64 b] 87 (0, 0)) := by
        rw [hBW.block _ (by rw [HX.out.2.2.1]; have := HX.out.2.2.2.2.2; omega)]
        have := HX.out.2.1
        rw [HX.out.2.2.2.2.2] at this
        exact this
      have hszW : wr.heap.size < W.heap.size := by have := hBW.size; rw [HX.out.2.2.1] at this; have := HX.out.2.2.2.2.2; omega
      have HAF := Aside0.mk (HFA.out.trans (AF.below (mb := mb) (ok := ok) (tv := tv) hBW))
      have HBX := Aside0.mk (And.intro hbW hszW)
      have c0 := HMS.out.mm.md.c0
      rw [HX.out.2.2.2.1] at c0
      have e0 := cell_of_row _ wr.heap.size 0 _ _ (0, 0) hbW
      have e1 := cell_of_row _ wr.heap.size 1 _ _ (0, 0) hbW
      have e2 := cell_of_row _ wr.heap.size 2 _ _ (0, 0) hbW
      replace e0 : W.cell? ⟨wr.heap.size, 0, none⟩ = some (.int .i64 D) := e0
      replace e1 : W.cell? ⟨wr.heap.size, 1, none⟩ = some (.int .i64 n) := e1
      replace e2 : W.cell? ⟨wr.heap.size, 2, none⟩ = some (.int .i64 b) := e2
      clear hW hBW hbW hszW
      refine HFD.mono ?_
      rintro e w' ⟨rfl, rfl⟩
      clear HFD
      go_wp2_with (first
        | (go_at_call 18; refine (HW8.out _).mono ?_; rintro e w' ⟨rfl, m8, rfl⟩)
        | (go_at_call 39; refine (num13_any _ _).mono ?_; rintro e w' ⟨rfl, rfl⟩)
        | (go_at_call 74; refine (lpage_any _ _).mono ?_; rintro e w3 ⟨v3, rfl, hv3, hb3⟩; have hv3' := row_new (HMS.out.fs.drewN m8) hv3; have HWr := Aside0.mk (fs_write_no ((HMS.out.fs.drewN m8).step hb3) n (fun h => HJ.out ((HMS.out.held n).1 h)) hv3'); have H3 := Aside0.mk (And.intro hv3 hb3); clear hv3 hv3' hb3)
        | (go_at_call 75; refine (HWr.out).mono ?_; rintro e w4 ⟨rfl, hb4⟩; have HBy := Aside0.mk (bytes_any (w0 := W.drewN m8) (w := w4) (below_tr H3.out.2 hb4) (Kd.R_below H3.out.1 hb4) (by rw [pageB_length]; decide)); clear hb4)
        | (go_at_call 66; refine (HBy.out).mono ?_; rintro e w2 ⟨rfl, hb2, -⟩; have H2 := Aside0.mk hb2; clear hb2))
      all_goals first
        | done
        | (go_ret; exact ⟨rfl, _, _, _, _, _, _, _, _, ((HMS.out.step (pw_below_drewN (Below.refl _ _) m8)).step H2.out).more, (HAF.out.trans (AF.below (pw_below_drewN (Below.refl _ _) m8))).trans (AF.below H2.out), Int.le_max_left _ _⟩)
set_option maxHeartbeats 1000000 in
set_option maxRecDepth 100000 in
theorem act_root_out_yes (h : MS w wr g B V cnt ok mb hv tv L T R N) (hN : N ≤ 1000) (D n0 b n : Int) (hd : IntKind.u64.wrap D % 8 = 7) (hs : Speaks L n0 b n) (j : Nat) (hj : L[j]? = some n) (hb : ¬ (0 ≤ b ∧ b < 8)) (hb1 : b < 0 ∨ 8 ≤ b) :
    Calls Tryz.prog 38 #[dp mb, dp g, .agg #[.int .i64 D, .int .i64 n0, .int .i64 b]] wr fun e w' => AR w wr g B V ok mb tv N e w' := by
  have hb0 : Below wr.heap.size wr (wr.alloc (.cells #[.int .i64 D, .int .i64 n0, .int .i64 b] 87)) := (Below.refl _ _).alloc (Nat.le_refl _) _
  have H := h.step hb0
  have hbx : (wr.alloc (.cells #[.int .i64 D, .int .i64 n0, .int .i64 b] 87)).heap[wr.heap.size]? = some (.cells #[.int .i64 D, .int .i64 n0, .int .i64 b] 87 (0, 0)) := heap_alloc_new wr _
  have HFA := Aside0.mk (AF.below (mb := mb) (ok := ok) (tv := tv) hb0)
  have hl := h.len
  have hsz : (wr.alloc (.cells #[.int .i64 D, .int .i64 n0, .int .i64 b] 87)).heap.size = wr.heap.size + 1 := by simp
  obtain ⟨A, c, hve, hC, hc⟩ := R_rowk H.mm.md.held
  have c0 := H.mm.md.c0
  rw [hve] at c0
  obtain ⟨l, hll⟩ : ∃ l, l = L.length := ⟨_, rfl⟩
  rw [← hll] at hve hC hc c0 hl
  obtain ⟨bx, hbxe⟩ : ∃ bx, bx = wr.heap.size := ⟨_, rfl⟩
  rw [← hbxe] at hbx hsz
  have d0 := cell_of_row _ bx 0 _ _ (0, 0) hbx
  have d1 := cell_of_row _ bx 1 _ _ (0, 0) hbx
  have d2 := cell_of_row _ bx 2 _ _ (0, 0) hbx
  have e0 : (wr.alloc (.cells #[.int .i64 D, .int .i64 n0, .int .i64 b] 87)).cell? ⟨bx, 0, none⟩ = some (.int .i64 D) := d0
  have e1 : (wr.alloc (.cells #[.int .i64 D, .int .i64 n0, .int .i64 b] 87)).cell? ⟨bx, 1, none⟩ = some (.int .i64 n0) := d1
  have e2 : (wr.alloc (.cells #[.int .i64 D, .int .i64 n0, .int .i64 b] 87)).cell? ⟨bx, 2, none⟩ = some (.int .i64 b) := d2
  clear d0 d1 d2
  rw [hbxe] at e0 e1 e2
  have HFD := Aside0.mk (fun k : Nat => find_pos (w := (wr.alloc (.cells #[.int .i64 D, .int .i64 n0, .int .i64 b] 87)).drewN k) mb A l c L n j c0 (Kd.C_drewN hC k) (by omega) hj h.nodup)
  have HW8 := Aside0.mk (fun W : World => within_c D 8 7 (by decide) (by decide) (by rw [show ((8 : Nat) : Int) = 8 from rfl, hd]; rfl) W)
  have HX := Aside0.mk (And.intro H (And.intro hbx (And.intro hsz (And.intro hve (And.intro hll hbxe)))))
  have HJ := Aside0.mk hj
  rcases hs with ⟨p1, p2, r, hr, hLr⟩ | ⟨p1, rfl⟩
  · -- a held one is picked
    rw [← hll] at p1 hr
    obtain ⟨ad, rfl, hcx⟩ := Kd.at_int hC (r : Int) (by omega) (by have := (List.getElem?_eq_some_iff.1 hLr).1; omega)
    have hrl : r < l := by have := (List.getElem?_eq_some_iff.1 hLr).1; omega
    rw [Int.toNat_natCast, show rd L (r : Int) = n from by simp [rd, List.getD_eq_getElem?_getD, hLr]] at hcx
    have hcx' : ∀ k, ((wr.alloc (.cells #[.int .i64 D, .int .i64 n0, .int .i64 b] 87)).drewN k).cell? (ad.add r) = some (.int .i64 n) := fun k => hcx
    have HWi := Aside0.mk (fun W : World => within_c n0 l r (by omega) (by omega) hr W)
    have q1 : decide ((0 : Int) < l) = true := by simp; omega
    have q2 : decide ((0 : Int) < b.tmod 5) = true := by simp; omega
    clear h hb0 H hbx hsz hve hll hbxe hC hd hj hr hLr p1 p2 hN hl
    go_enter Tryz.func38, Tryz.ntmps38
    go_wp2
    go_quiet ((go_at_call 18; exact Calls.quiet_of (HWi.out _)))
    go_wp2_with fail
    obtain ⟨W, hW⟩ : ∃ W, W = (wr.alloc (.cells #[.int .i64 D, .int .i64 n0, .int .i64 b] 87)).drewN nq := ⟨_, rfl⟩
    have hBW : Below (wr.alloc (.cells #[.int .i64 D, .int .i64 n0, .int .i64 b] 87)).heap.size (wr.alloc (.cells #[.int .i64 D, .int .i64 n0, .int .i64 b] 87)) W := by rw [hW]; exact pw_below_drewN (Below.refl _ _) _
    have HFD := HFD.out nq
    clear hcx hcx' HWi e0 e1 e2 c0 q1 q2
    rw [← hW] at HFD ⊢
    have HMS := Aside0.mk (HX.out.1.step hBW)
    have hbW : W.heap[wr.heap.size]? = some (.cells #[.int .i64 D, .int .i64 n0, .int .i64 b] 87 (0, 0)) := by
      rw [hBW.block _ (by rw [HX.out.2.2.1]; have := HX.out.2.2.2.2.2; omega)]
      have := HX.out.2.1
      rw [HX.out.2.2.2.2.2] at this
      exact this
    have hszW : wr.heap.size < W.heap.size := by have := hBW.size; rw [HX.out.2.2.1] at this; have := HX.out.2.2.2.2.2; omega
    have HAF := Aside0.mk (HFA.out.trans (AF.below (mb := mb) (ok := ok) (tv := tv) hBW))
    have HBX := Aside0.mk (And.intro hbW hszW)
    have c0 := HMS.out.mm.md.c0
    rw [HX.out.2.2.2.1] at c0
    have e0 := cell_of_row _ wr.heap.size 0 _ _ (0, 0) hbW
    have e1 := cell_of_row _ wr.heap.size 1 _ _ (0, 0) hbW
    have e2 := cell_of_row _ wr.heap.size 2 _ _ (0, 0) hbW
    replace e0 : W.cell? ⟨wr.heap.size, 0, none⟩ = some (.int .i64 D) := e0
    replace e1 : W.cell? ⟨wr.heap.size, 1, none⟩ = some (.int .i64 n0) := e1
    replace e2 : W.cell? ⟨wr.heap.size, 2, none⟩ = some (.int .i64 b) := e2
    clear hW hBW hbW hszW
    refine HFD.mono ?_
    rintro e w' ⟨rfl, rfl⟩
    clear HFD
    go_wp2_with (first
      | (go_at_call 18; refine (HW8.out _).mono ?_; rintro e w' ⟨rfl, m8, rfl⟩)
      | (go_at_call 39; refine (num13_any _ _).mono ?_; rintro e w' ⟨rfl, rfl⟩)
      | (go_at_call 46; refine (groot_no (w := W.drewN m8) g b hb).mono ?_; rintro e w1 ⟨rfl, rfl⟩))
    all_goals first
      | done
      | (go_ret; exact ⟨rfl, _, _, _, _, _, _, _, _, (HMS.out.step (pw_below_drewN (Below.refl _ _) m8)).more, (HAF.out.trans (AF.below (pw_below_drewN (Below.refl _ _) m8))), Int.le_max_left _ _⟩)
  · -- the number itself
    have hPk : (decide ((0 : Int) < l) && decide ((0 : Int) < b.tmod 5)) = false := by
      rw [← hll] at p1
      rw [Bool.and_eq_false_iff]
      by_cases h1 : 0 < l
      · right; simp; omega
      · left; simp; omega
    have HFD := HFD.out 0
    have HPk := Aside0.mk hPk
    clear h hb0 H hbx hsz hve hll hbxe hC hd hj p1 hN hl hPk
    go_enter Tryz.func38, Tryz.ntmps38
    by_cases q1 : (0 : Int) < l <;> by_cases q2 : (0 : Int) < b.tmod 5
    · exact absurd HPk.out (by rw [decide_eq_true q1, decide_eq_true q2]; decide)
    all_goals
      go_wp2_with fail
      obtain ⟨W, hW⟩ : ∃ W, W = (wr.alloc (.cells #[.int .i64 D, .int .i64 n, .int .i64 b] 87)) := ⟨_, rfl⟩
      have hBW : Below (wr.alloc (.cells #[.int .i64 D, .int .i64 n, .int .i64 b] 87)).heap.size (wr.alloc (.cells #[.int .i64 D, .int .i64 n, .int .i64 b] 87)) W := by rw [hW]; exact Below.refl _ _
      rw [World.drewN_zero] at HFD
      clear e0 e1 e2 c0 q1 q2
      rw [← hW] at HFD ⊢
      have HMS := Aside0.mk (HX.out.1.step hBW)
      have hbW : W.heap[wr.heap.size]? = some (.cells #[.int .i64 D, .int .i64 n, .int .i64 b] 87 (0, 0)) := by
        rw [hBW.block _ (by rw [HX.out.2.2.1]; have := HX.out.2.2.2.2.2; omega)]
        have := HX.out.2.1
        rw [HX.out.2.2.2.2.2] at this
        exact this
      have hszW : wr.heap.size < W.heap.size := by have := hBW.size; rw [HX.out.2.2.1] at this; have := HX.out.2.2.2.2.2; omega
      have HAF := Aside0.mk (HFA.out.trans (AF.below (mb := mb) (ok := ok) (tv := tv) hBW))
      have HBX := Aside0.mk (And.intro hbW hszW)
      have c0 := HMS.out.mm.md.c0
      rw [HX.out.2.2.2.1] at c0
      have e0 := cell_of_row _ wr.heap.size 0 _ _ (0, 0) hbW
      have e1 := cell_of_row _ wr.heap.size 1 _ _ (0, 0) hbW
      have e2 := cell_of_row _ wr.heap.size 2 _ _ (0, 0) hbW
      replace e0 : W.cell? ⟨wr.heap.size, 0, none⟩ = some (.int .i64 D) := e0
      replace e1 : W.cell? ⟨wr.heap.size, 1, none⟩ = some (.int .i64 n) := e1
      replace e2 : W.cell? ⟨wr.heap.size, 2, none⟩ = some (.int .i64 b) := e2
      clear hW hBW hbW hszW
      refine HFD.mono ?_
      rintro e w' ⟨rfl, rfl⟩
      clear HFD
      go_wp2_with (first
        | (go_at_call 18; refine (HW8.out _).mono ?_; rintro e w' ⟨rfl, m8, rfl⟩)
        | (go_at_call 39; refine (num13_any _ _).mono ?_; rintro e w' ⟨rfl, rfl⟩)
        | (go_at_call 46; refine (groot_no (w := W.drewN m8) g b hb).mono ?_; rintro e w1 ⟨rfl, rfl⟩))
      all_goals first
        | done
        | (go_ret; exact ⟨rfl, _, _, _, _, _, _, _, _, (HMS.out.step (pw_below_drewN (Below.refl _ _) m8)).more, (HAF.out.trans (AF.below (pw_below_drewN (Below.refl _ _) m8))), Int.le_max_left _ _⟩)
set_option maxHeartbeats 1000000 in
set_option maxRecDepth 100000 in
theorem act_root_out_no (h : MS w wr g B V cnt ok mb hv tv L T R N) (hN : N ≤ 1000) (D n0 b n : Int) (hd : IntKind.u64.wrap D % 8 = 7) (hs : Speaks L n0 b n) (hj : n ∉ L) (hb : ¬ (0 ≤ b ∧ b < 8)) (hb1 : b < 0 ∨ 8 ≤ b) :
    Calls Tryz.prog 38 #[dp mb, dp g, .agg #[.int .i64 D, .int .i64 n0, .int .i64 b]] wr fun e w' => AR w wr g B V ok mb tv N e w' := by
  have hb0 : Below wr.heap.size wr (wr.alloc (.cells #[.int .i64 D, .int .i64 n0, .int .i64 b] 87)) := (Below.refl _ _).alloc (Nat.le_refl _) _
  have H := h.step hb0
  have hbx : (wr.alloc (.cells #[.int .i64 D, .int .i64 n0, .int .i64 b] 87)).heap[wr.heap.size]? = some (.cells #[.int .i64 D, .int .i64 n0, .int .i64 b] 87 (0, 0)) := heap_alloc_new wr _
  have HFA := Aside0.mk (AF.below (mb := mb) (ok := ok) (tv := tv) hb0)
  have hl := h.len
  have hsz : (wr.alloc (.cells #[.int .i64 D, .int .i64 n0, .int .i64 b] 87)).heap.size = wr.heap.size + 1 := by simp
  obtain ⟨A, c, hve, hC, hc⟩ := R_rowk H.mm.md.held
  have c0 := H.mm.md.c0
  rw [hve] at c0
  obtain ⟨l, hll⟩ : ∃ l, l = L.length := ⟨_, rfl⟩
  rw [← hll] at hve hC hc c0 hl
  obtain ⟨bx, hbxe⟩ : ∃ bx, bx = wr.heap.size := ⟨_, rfl⟩
  rw [← hbxe] at hbx hsz
  have d0 := cell_of_row _ bx 0 _ _ (0, 0) hbx
  have d1 := cell_of_row _ bx 1 _ _ (0, 0) hbx
  have d2 := cell_of_row _ bx 2 _ _ (0, 0) hbx
  have e0 : (wr.alloc (.cells #[.int .i64 D, .int .i64 n0, .int .i64 b] 87)).cell? ⟨bx, 0, none⟩ = some (.int .i64 D) := d0
  have e1 : (wr.alloc (.cells #[.int .i64 D, .int .i64 n0, .int .i64 b] 87)).cell? ⟨bx, 1, none⟩ = some (.int .i64 n0) := d1
  have e2 : (wr.alloc (.cells #[.int .i64 D, .int .i64 n0, .int .i64 b] 87)).cell? ⟨bx, 2, none⟩ = some (.int .i64 b) := d2
  clear d0 d1 d2
  rw [hbxe] at e0 e1 e2
  have HFD := Aside0.mk (fun k : Nat => find_neg (w := (wr.alloc (.cells #[.int .i64 D, .int .i64 n0, .int .i64 b] 87)).drewN k) mb A l c L n c0 (Kd.C_drewN hC k) (by omega) hj)
  have HW8 := Aside0.mk (fun W : World => within_c D 8 7 (by decide) (by decide) (by rw [show ((8 : Nat) : Int) = 8 from rfl, hd]; rfl) W)
  have HX := Aside0.mk (And.intro H (And.intro hbx (And.intro hsz (And.intro hve (And.intro hll hbxe)))))
  have HJ := Aside0.mk hj
  rcases hs with ⟨p1, p2, r, hr, hLr⟩ | ⟨p1, rfl⟩
  · -- a held one is picked
    rw [← hll] at p1 hr
    obtain ⟨ad, rfl, hcx⟩ := Kd.at_int hC (r : Int) (by omega) (by have := (List.getElem?_eq_some_iff.1 hLr).1; omega)
    have hrl : r < l := by have := (List.getElem?_eq_some_iff.1 hLr).1; omega
    rw [Int.toNat_natCast, show rd L (r : Int) = n from by simp [rd, List.getD_eq_getElem?_getD, hLr]] at hcx
    have hcx' : ∀ k, ((wr.alloc (.cells #[.int .i64 D, .int .i64 n0, .int .i64 b] 87)).drewN k).cell? (ad.add r) = some (.int .i64 n) := fun k => hcx
    have HWi := Aside0.mk (fun W : World => within_c n0 l r (by omega) (by omega) hr W)
    have q1 : decide ((0 : Int) < l) = true := by simp; omega
    have q2 : decide ((0 : Int) < b.tmod 5) = true := by simp; omega
    clear h hb0 H hbx hsz hve hll hbxe hC hd hj hr hLr p1 p2 hN hl
    go_enter Tryz.func38, Tryz.ntmps38
    go_wp2
    go_quiet ((go_at_call 18; exact Calls.quiet_of (HWi.out _)))
    go_wp2_with fail
    obtain ⟨W, hW⟩ : ∃ W, W = (wr.alloc (.cells #[.int .i64 D, .int .i64 n0, .int .i64 b] 87)).drewN nq := ⟨_, rfl⟩
    have hBW : Below (wr.alloc (.cells #[.int .i64 D, .int .i64 n0, .int .i64 b] 87)).heap.size (wr.alloc (.cells #[.int .i64 D, .int .i64 n0, .int .i64 b] 87)) W := by rw [hW]; exact pw_below_drewN (Below.refl _ _) _
    have HFD := HFD.out nq
    clear hcx hcx' HWi e0 e1 e2 c0 q1 q2
    rw [← hW] at HFD ⊢
    have HMS := Aside0.mk (HX.out.1.step hBW)
    have hbW : W.heap[wr.heap.size]? = some (.cells #[.int .i64 D, .int .i64 n0, .int .i64 b] 87 (0, 0)) := by
      rw [hBW.block _ (by rw [HX.out.2.2.1]; have := HX.out.2.2.2.2.2; omega)]
      have := HX.out.2.1
      rw [HX.out.2.2.2.2.2] at this
      exact this
    have hszW : wr.heap.size < W.heap.size := by have := hBW.size; rw [HX.out.2.2.1] at this; have := HX.out.2.2.2.2.2; omega
    have HAF := Aside0.mk (HFA.out.trans (AF.below (mb := mb) (ok := ok) (tv := tv) hBW))
    have HBX := Aside0.mk (And.intro hbW hszW)
    have c0 := HMS.out.mm.md.c0
    rw [HX.out.2.2.2.1] at c0
    have e0 := cell_of_row _ wr.heap.size 0 _ _ (0, 0) hbW
    have e1 := cell_of_row _ wr.heap.size 1 _ _ (0, 0) hbW
    have e2 := cell_of_row _ wr.heap.size 2 _ _ (0, 0) hbW
    replace e0 : W.cell? ⟨wr.heap.size, 0, none⟩ = some (.int .i64 D) := e0
    replace e1 : W.cell? ⟨wr.heap.size, 1, none⟩ = some (.int .i64 n0) := e1
    replace e2 : W.cell? ⟨wr.heap.size, 2, none⟩ = some (.int .i64 b) := e2
    clear hW hBW hbW hszW
    refine HFD.mono ?_
    rintro e w' ⟨rfl, rfl⟩
    clear HFD
    go_wp2_with (first
      | (go_at_call 18; refine (HW8.out _).mono ?_; rintro e w' ⟨rfl, m8, rfl⟩)
      | (go_at_call 39; refine (num13_any _ _).mono ?_; rintro e w' ⟨rfl, rfl⟩)
      | (go_at_call 46; refine (groot_no (w := W.drewN m8) g b hb).mono ?_; rintro e w1 ⟨rfl, rfl⟩))
    all_goals first
      | done
      | (go_ret; exact ⟨rfl, _, _, _, _, _, _, _, _, (HMS.out.step (pw_below_drewN (Below.refl _ _) m8)).more, (HAF.out.trans (AF.below (pw_below_drewN (Below.refl _ _) m8))), Int.le_max_left _ _⟩)
  · -- the number itself
    have hPk : (decide ((0 : Int) < l) && decide ((0 : Int) < b.tmod 5)) = false := by
      rw [← hll] at p1
      rw [Bool.and_eq_false_iff]
      by_cases h1 : 0 < l
      · right; simp; omega
      · left; simp; omega
    have HFD := HFD.out 0
    have HPk := Aside0.mk hPk
    clear h hb0 H hbx hsz hve hll hbxe hC hd hj p1 hN hl hPk
    go_enter Tryz.func38, Tryz.ntmps38
    by_cases q1 : (0 : Int) < l <;> by_cases q2 : (0 : Int) < b.tmod 5
    · exact absurd HPk.out (by rw [decide_eq_true q1, decide_eq_true q2]; decide)
    all_goals
      go_wp2_with fail
      obtain ⟨W, hW⟩ : ∃ W, W = (wr.alloc (.cells #[.int .i64 D, .int .i64 n, .int .i64 b] 87)) := ⟨_, rfl⟩
      have hBW : Below (wr.alloc (.cells #[.int .i64 D, .int .i64 n, .int .i64 b] 87)).heap.size (wr.alloc (.cells #[.int .i64 D, .int .i64 n, .int .i64 b] 87)) W := by rw [hW]; exact Below.refl _ _
      rw [World.drewN_zero] at HFD
      clear e0 e1 e2 c0 q1 q2
      rw [← hW] at HFD ⊢
      have HMS := Aside0.mk (HX.out.1.step hBW)
      have hbW : W.heap[wr.heap.size]? = some (.cells #[.int .i64 D, .int .i64 n, .int .i64 b] 87 (0, 0)) := by
        rw [hBW.block _ (by rw [HX.out.2.2.1]; have := HX.out.2.2.2.2.2; omega)]
        have := HX.out.2.1
        rw [HX.out.2.2.2.2.2] at this
        exact this
      have hszW : wr.heap.size < W.heap.size := by have := hBW.size; rw [HX.out.2.2.1] at this; have := HX.out.2.2.2.2.2; omega
      have HAF := Aside0.mk (HFA.out.trans (AF.below (mb := mb) (ok := ok) (tv := tv) hBW))
      have HBX := Aside0.mk (And.intro hbW hszW)
      have c0 := HMS.out.mm.md.c0
      rw [HX.out.2.2.2.1] at c0
      have e0 := cell_of_row _ wr.heap.size 0 _ _ (0, 0) hbW
      have e1 := cell_of_row _ wr.heap.size 1 _ _ (0, 0) hbW
      have e2 := cell_of_row _ wr.heap.size 2 _ _ (0, 0) hbW
      replace e0 : W.cell? ⟨wr.heap.size, 0, none⟩ = some (.int .i64 D) := e0
      replace e1 : W.cell? ⟨wr.heap.size, 1, none⟩ = some (.int .i64 n) := e1
      replace e2 : W.cell? ⟨wr.heap.size, 2, none⟩ = some (.int .i64 b) := e2
      clear hW hBW hbW hszW
      refine HFD.mono ?_
      rintro e w' ⟨rfl, rfl⟩
      clear HFD
      go_wp2_with (first
        | (go_at_call 18; refine (HW8.out _).mono ?_; rintro e w' ⟨rfl, m8, rfl⟩)
        | (go_at_call 39; refine (num13_any _ _).mono ?_; rintro e w' ⟨rfl, rfl⟩)
        | (go_at_call 46; refine (groot_no (w := W.drewN m8) g b hb).mono ?_; rintro e w1 ⟨rfl, rfl⟩))
      all_goals first
        | done
        | (go_ret; exact ⟨rfl, _, _, _, _, _, _, _, _, (HMS.out.step (pw_below_drewN (Below.refl _ _) m8)).more, (HAF.out.trans (AF.below (pw_below_drewN (Below.refl _ _) m8))), Int.le_max_left _ _⟩)
end
end Go.Proofs.YtmdpgjdepflbmaaGreat

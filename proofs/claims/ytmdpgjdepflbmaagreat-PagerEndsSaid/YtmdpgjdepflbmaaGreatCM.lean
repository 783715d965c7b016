/-
  Opening and beginning in either mode, where there is no journal and no log.
-/
import Derived.Test.YtmdpgjdepflbmaaGreatCB
import Derived.Test.YtmdpgjdepflbmaaGreatCK
import Derived.Test.YtmdpgjdepflbmaaGreatCWZeros
namespace Go.Proofs.YtmdpgjdepflbmaaGreat
open Go.RowKit Go.Maps Go.Proofs.YtmdpgjdepflbmaaGreatW.PrintWords Go.Proofs.YtmdpgjdepflbmaaGreatW.PrintLast Go.Proofs.YtmdpgjdepflbmaaGreatW.PrintMore
open Go.Proofs.YtmdpgjdepflbmaaGreat.PPagerFolds
set_option linter.unusedVariables false
set_option linter.unusedSimpArgs false

set_option maxRecDepth 100000 in
set_option maxHeartbeats 1000000 in
/-- no journal, no log, in log mode -/
theorem committed_log0 {w : World} {X : PG} {M : DM} {okp okd : Nat → Prop} (hP : PgAt w X okp) (h : DiskAt w X.d M okd) (hmode : X.mode = 2) (ho : M.off = false)
    (hJ : M.fs (nm sJ) = none) (hLg : M.fs (nm sL) = none) (hlen : (baseB M).length ≤ 2097152) (hmod : (baseB M).length % 512 = 0) :
    Calls Tryz.prog 50 #[dp X.p] w fun e w' => ∃ v, e = .returned (.tuple #[v, .int .i64 0]) ∧ U8.R 5 w' w.heap.size (fun k => w.heap.size ≤ k) v (baseB M) ∧ Below w.heap.size w w' := by
  obtain ⟨bo, vw, vm, hP⟩ := hP
  have c0 := hP.cell 0
  have c1 := hP.cell 1
  rw [hmode] at c1
  have hlt := hP.lt
  obtain ⟨p, hp⟩ : ∃ p, p = X.p := ⟨_, rfl⟩
  rw [← hp] at c0 c1 hlt ⊢
  have HU := Aside0.mk (undo_none h c0 ho hJ)
  have HM := Aside0.mk (And.intro h (And.intro ho (And.intro hLg (And.intro hlen hmod))))
  have HC0 := Aside0.mk c0
  clear hP hp h ho hJ hLg hmode
  unfold baseB at hlen hmod ⊢
  cases hx : M.fs (nm sB) with
  | none =>
    clear hlen hmod
    simp only
    have HX := Aside0.mk hx
    clear hx
    go_enter Tryz.func50, Tryz.ntmps50
    go_wp2_with (first
      | (go_at_call 68; refine (HU.out).mono ?_; rintro e w' ⟨rfl, n0, rfl⟩
         obtain ⟨w1, hw1⟩ : ∃ w1, w1 = w.drewN n0 := ⟨_, rfl⟩
         have hb1' : Below w.heap.size w w1 := by rw [hw1]; exact pw_below_drewN (Below.refl _ _) n0
         have d1 : w1.cell? ⟨p, 1, none⟩ = some (.int .i64 2) := (hb1'.cell (p := ⟨p, 1, none⟩) hlt).trans c1
         rw [← hw1]
         have HA := Aside0.mk (all_none (HM.out.1.below hb1') ((hb1'.cell (p := ⟨p, 0, none⟩) hlt).trans HC0.out) good_B HM.out.2.1 HX.out)
         have HB := Aside0.mk (fun n => blocks_none (w := w1.drewN n) ((HM.out.1.below hb1').drewN n) ((hb1'.cell (p := ⟨p, 0, none⟩) hlt).trans HC0.out) HM.out.2.1 HM.out.2.2.1)
         have HB1 := Aside0.mk hb1'
         clear hb1' hw1)
      | (go_at_call 86; refine (HA.out).mono ?_; rintro e w' ⟨rfl, n2, rfl⟩)
      | (go_at_call 87; refine (HB.out _).mono ?_; rintro e w' ⟨rfl, n3, rfl⟩)
      | (at_range; refine wpList_range_own _ rfl _ 110 rfl 3 48 (int_keyed Tryz.underlying3) Tryz.underlying110 sliE w1.heap.size 0 (.map []) rfl (World.ownsMap_made _ _ _ _) ?_; intro w0 hrg0 hg0 hs0))
    (try go_frame)
    refine wp_loop_rounds 1 ?_
    rw [rounds_succ]
    go_wp2_with (at_next; refine wpList_next_ranges _ rfl _ rfl 3 (int_keyed Tryz.underlying3) sliE (fun x : Value => x) (fun x : Value => x) (fun key kl _ => ⟨key, rfl⟩) (fun v y _ => ⟨v, rfl⟩) _ _ 0 (.map []) _ _ rfl hrg0 ?_ ?_)
    · intro _ _
      go_wp2
      go_ret2
      have hb := HB1.out
      refine ⟨_, rfl, Kd.R_nil _ _ _ _ _, ?_⟩
      have h3 : Below w.heap.size w ((w1.drewN (n2 + n3)).alloc (.map #[] 0)) := (pw_below_drewN hb _).alloc hb.size _
      exact h3.grown hg0 h3.size (fun k hk => by cases hk)
    · intro x c kl a b w' cnt' _ hlk
      cases hlk
  | some f =>
    rw [hx] at hlen hmod
    simp only at hlen hmod ⊢
    obtain ⟨n, hn⟩ : ∃ n, n = f.2.length := ⟨_, rfl⟩
    rw [← hn] at hlen hmod
    have q1 : ((n : Int) % 512 != 0) = false := by simp; omega
    have q1' : (Int.tmod (n : Int) 512 != 0) = false := by rw [Int.tmod_eq_emod_of_nonneg (by omega)]; exact q1
    have q2 : decide ((2097152 : Int) < (n : Int)) = false := by simp; omega
    have HX := Aside0.mk (And.intro hx (And.intro hn hlen))
    clear hx hmod hn hlen
    go_enter Tryz.func50, Tryz.ntmps50
    go_wp2_with (first
      | (go_at_call 68; refine (HU.out).mono ?_; rintro e w' ⟨rfl, n0, rfl⟩
         obtain ⟨w1, hw1⟩ : ∃ w1, w1 = w.drewN n0 := ⟨_, rfl⟩
         have hb1' : Below w.heap.size w w1 := by rw [hw1]; exact pw_below_drewN (Below.refl _ _) n0
         have d1 : w1.cell? ⟨p, 1, none⟩ = some (.int .i64 2) := (hb1'.cell (p := ⟨p, 1, none⟩) hlt).trans c1
         rw [← hw1]
         have HA := Aside0.mk (all_some (HM.out.1.below hb1') ((hb1'.cell (p := ⟨p, 0, none⟩) hlt).trans HC0.out) good_B HM.out.2.1 HX.out.1 (by rw [← HX.out.2.1]; have := HX.out.2.2; omega))
         have HB1 := Aside0.mk hb1'
         clear hb1' hw1)
      | (go_at_call 86; refine (HA.out).mono ?_; rintro e w2 ⟨v, rfl, hv, hb2⟩
         have hb2' : Below w.heap.size w w2 := HB1.out.trans (hb2.mono HB1.out.size)
         have HV := Aside0.mk (And.intro hv hb2')
         obtain ⟨A3, c3, hv3⟩ := Kd.R_slice hv
         rw [← HX.out.2.1] at hv3
         subst hv3
         have HB := Aside0.mk (blocks_none (w := w2) (HM.out.1.below hb2') ((hb2'.cell (p := ⟨p, 0, none⟩) hlt).trans HC0.out) HM.out.2.1 HM.out.2.2.1)
         clear hv hb2 hb2')
      | (go_at_call 87; refine (HB.out).mono ?_; rintro e w' ⟨rfl, n3, rfl⟩)
      | (at_range; refine wpList_range_own _ rfl _ 110 rfl 3 48 (int_keyed Tryz.underlying3) Tryz.underlying110 sliE w2.heap.size 0 (.map []) rfl (World.ownsMap_made _ _ _ _) ?_; intro w0 hrg0 hg0 hs0))
    (try go_frame)
    refine wp_loop_rounds 1 ?_
    rw [rounds_succ]
    go_wp2_with (at_next; refine wpList_next_ranges _ rfl _ rfl 3 (int_keyed Tryz.underlying3) sliE (fun x : Value => x) (fun x : Value => x) (fun key kl _ => ⟨key, rfl⟩) (fun v y _ => ⟨v, rfl⟩) _ _ 0 (.map []) _ _ rfl hrg0 ?_ ?_)
    · intro _ _
      go_wp2
      go_ret2
      obtain ⟨hv, hb⟩ := HV.out
      have h3 : Below w.heap.size w ((w2.drewN n3).alloc (.map #[] 0)) := (pw_below_drewN hb _).alloc hb.size _
      have hv3 : U8.R 5 ((w2.drewN n3).alloc (.map #[] 0)) w1.heap.size (fun k => w1.heap.size ≤ k) (.slice A3 n c3) f.2 := Kd.R_alloc (Kd.R_drewN hv n3) _
      refine ⟨_, rfl, Kd.R_lower (Kd.R_mono (Kd.R_below hv3 (below_of_grown hg0)) (fun k hk => Nat.le_trans HB1.out.size hk)) HB1.out.size, h3.grown hg0 h3.size (fun k hk => by cases hk)⟩
    · intro x c kl a b w' cnt' _ hlk
      cases hlk
/-- in either mode -/
theorem committed_any {w : World} {X : PG} {M : DM} {okp okd : Nat → Prop} (hP : PgAt w X okp) (h : DiskAt w X.d M okd) (hmode : X.mode = 1 ∨ X.mode = 2) (hq : JQ M) :
    Calls Tryz.prog 50 #[dp X.p] w fun e w' => ∃ v, e = .returned (.tuple #[v, .int .i64 0]) ∧ U8.R 5 w' w.heap.size (fun k => w.heap.size ≤ k) v (baseB M) ∧ Below w.heap.size w w' := by
  obtain ⟨L, hL, h16⟩ := hq.names
  rcases hmode with hm | hm
  · exact committed_jour hP h hm hq.off hL h16 hq.jn hq.lg hq.len hq.md
  · exact committed_log0 hP h hm hq.off hq.jn hq.lg hq.len hq.md
set_option maxRecDepth 100000 in
theorem popen_any {w : World} {d l : Nat} {M : DM} {okd : Nat → Prop} (h : DiskAt w d M okd) (hq : JQ M) (m : Int) (hm : m = 1 ∨ m = 2) (c : Nat) (hc : c < 4) :
    Calls Tryz.prog 16 #[dp d, .int .i64 m, dp l, .int .i64 c] w fun e w' => e = .returned (.tuple #[dp w.heap.size, .int .i64 0]) ∧ PgAt w' (newPG w.heap.size d l m c) (fun k => k = w.heap.size) ∧ Below w.heap.size w w' := by
  have HP := Aside0.mk (PRep.new w d l m c)
  have HC := Aside0.mk (committed_any HP.out (h.alloc _) hm hq)
  have HCo := Aside0.mk (conn_yes c w (by omega) (by omega))
  clear h hq hc
  rcases hm with rfl | rfl
  all_goals
    go_enter Tryz.func16, Tryz.ntmps16
    go_wp2_with (first
      | (go_at_call 49; refine (HCo.out).mono ?_; rintro e w' ⟨rfl, rfl⟩)
      | (go_at_call 50; refine (HC.out).mono ?_; rintro e w1 ⟨v, rfl, hv, hb⟩; obtain ⟨A3, c3, rfl⟩ := Kd.R_slice hv; have HB := Aside0.mk hb; clear hv hb))
    go_ret2
    have hb := HB.out
    exact ⟨rfl, HP.out.move (fun k hk _ => hb.block k (by simp; omega)), ((Below.refl w.heap.size w).alloc (Nat.le_refl _) _).trans (hb.mono (by simp))⟩

set_option maxHeartbeats 4000000 in
set_option maxRecDepth 100000 in
theorem begin_mode {w : World} {X : PG} {M : DM} {ok okd : Nat → Prop} {x : Nat → Int} (h : PgAt w X ok) (hD : DiskAt w X.d M okd) (hq : JQ M) (ht : Tab 108 w X.l x) (hl : ¬ ok X.l) (hld : ¬ okd X.l)
    (hmode : X.mode = 1 ∨ X.mode = 2) (hd : X.dead = false) (hi : X.inn = false) (hrE : rE x X.c 1 = 0) :
    Calls Tryz.prog 19 #[dp X.p] w fun e w' => e = .returned (.int .i64 0) ∧ PLeft w (X.begun M) (rX x X.c 1) ok w' := by
  have HR := raise_all X.l x X.c 1 w.drew ht.drew
  rw [hrE] at HR
  replace HR := Aside0.mk HR
  obtain ⟨bo, vw, vm, h⟩ := h
  have H := Aside0.mk h
  have c2 := h.cell 2
  have c3 := h.cell 3
  have c4 := h.cell 4
  have c5 := h.cell 5
  rw [hd] at c4
  rw [hi] at c5
  have hlt := h.lt
  have hpl : X.p ≠ X.l := fun e => hl (e ▸ h.okp)
  obtain ⟨p, hp⟩ : ∃ p, p = X.p := ⟨_, rfl⟩
  rw [← hp] at c2 c3 c4 c5 hlt hpl ⊢
  obtain ⟨l, hl'⟩ : ∃ l, l = X.l := ⟨_, rfl⟩
  rw [← hl'] at c2 HR hpl hl hld ht
  have HX := Aside0.mk (And.intro hp (And.intro hl' (And.intro ht (And.intro hl (And.intro hld (And.intro hD (And.intro hq (And.intro hmode (And.intro hd hi)))))))))
  clear hp hl' ht h hd hi hrE hl hld hD hq hmode
  have hmm := @run_makeMap Tryz.prog
  go_enter Tryz.func19, Tryz.ntmps19
  go_wp2
  go_still_tail 8, (by kernel_rfl)
  go_wp2_with (first
    | (go_at_call 51; refine (HR.out).mono ?_; rintro e w1 ⟨rfl, ht1, ho1⟩
       have h1' : PRep w1 X ok bo vw vm := H.out.move (fun k hk _ => ho1.block k (fun e => HX.out.2.2.2.1 (e ▸ hk)))
       have HC := committed_any ⟨bo, vw, vm, h1'⟩ (HX.out.2.2.2.2.2.1.move (fun k hk _ => ho1.block k (fun e => HX.out.2.2.2.2.1 (e ▸ hk)))) HX.out.2.2.2.2.2.2.2.1 HX.out.2.2.2.2.2.2.1
       rw [← HX.out.1] at HC
       replace HC := Aside0.mk HC
       have H1 := Aside0.mk (And.intro h1' (And.intro ht1 ho1))
       clear h1' ht1 ho1)
    | (go_at_call 50; refine (HC.out).mono ?_; rintro e w2 ⟨v, rfl, hv, hb⟩
       have h2 : w2.heap[p]? = _ := (hb.block p (by have := H1.out.1.lt; rw [← HX.out.1] at this; exact this)).trans (HX.out.1 ▸ H1.out.1.hp)
       obtain ⟨A3, c3', rfl⟩ := Kd.R_slice hv
       have hbl : (baseB M).length ≤ 2097152 := HX.out.2.2.2.2.2.2.1.len
       have HB := Aside0.mk (And.intro hv (And.intro hb h2))
       generalize hn : (baseB M).length = bn at *
       have HN := Aside0.mk hn
       have hlt2 : p < w2.heap.size := heap_lt h2
       have d5 := cell_of_row w2 p 5 _ _ (0, 0) h2
       have e5 := frozen_of_cells h2 5
       have d7 := cell_of_row w2 p 7 _ _ (0, 0) h2
       have e7 := frozen_of_cells h2 7
       have d8 := cell_of_row w2 p 8 _ _ (0, 0) h2
       have e8 := frozen_of_cells h2 8
       have d9 := cell_of_row w2 p 9 _ _ (0, 0) h2
       have e9 := frozen_of_cells h2 9
       clear hv hb h2 hn))
  go_ret
  refine ⟨rfl, ?_⟩
  obtain ⟨hp, hl', ht, hl, hld, hD, hq, hmode, hd, hi⟩ := HX.out
  obtain ⟨h1', ht1, ho1⟩ := H1.out
  obtain ⟨hv, hb, h2⟩ := HB.out
  have hbn := HN.out
  have hs1 : w1.heap.size = w.heap.size := ho1.size
  have hs2 : w1.heap.size ≤ w2.heap.size := hb.size
  have b5 := row13_set9 (row13_set8 (row13_set7 (row13_set5 h2 (.bool true)) (.slice A3 bn c3')) (.map (some w2.heap.size))) (.int .i64 ((bn : Int) / 512))
  generalize hW : ((((w2.setCell ⟨p, 5, none⟩ (.bool true)).setCell ⟨p, 7, none⟩ (.slice A3 bn c3')).setCell ⟨p, 8, none⟩ (.map (some w2.heap.size))).setCell ⟨p, 9, none⟩ (.int .i64 ((bn : Int) / 512))) = W at b5 ⊢
  have hO : Only p w2 W := by rw [← hW]; exact ((((Only.refl p w2).set_ 5 _).set_ 7 _).set_ 8 _).set_ 9 _
  have hsW : W.heap.size = w2.heap.size := hO.size
  have kA : ∀ k, k < w2.heap.size → (W.alloc (.map #[] 0)).heap[k]? = W.heap[k]? := fun k hk => Below.heap_alloc _ _ _ (by omega)
  have k2 : ∀ k, k < w1.heap.size → k ≠ p → (W.alloc (.map #[] 0)).heap[k]? = w1.heap[k]? := fun k hk hkp => (kA k (by omega)).trans ((hO.block k hkp).trans (hb.block k hk))
  have k1 : ∀ k, k < w.heap.size → k ≠ p → k ≠ l → (W.alloc (.map #[] 0)).heap[k]? = w.heap[k]? := fun k hk hkp hkl => (k2 k (by omega) hkp).trans (ho1.block k hkl)
  have hsA : (W.alloc (.map #[] 0)).heap.size = w2.heap.size + 1 := by simp [hsW]
  have hRB : RB w2 (fun k => w1.heap.size ≤ k) (.slice A3 bn c3') (baseB M) := RB.of_R hv
  refine ⟨⟨w2.heap.size, .slice A3 bn c3', vm, ?_, .inl H.out.okp, ?_, fun _ => ?_, ?_⟩, ?_, ?_⟩
  · have h6 := (kA p hlt2).trans b5
    rw [hd] at h6
    rw [hp] at h6
    show _ = some (Obj.cells #[dp X.d, .int .i64 X.mode, dp X.l, .int .i64 X.c, .bool X.dead, .bool true, .bool X.wrote, .slice A3 bn c3', .map (some w2.heap.size), .int .i64 ((baseB M).length / 512 : Nat), vm, .int .i64 X.next, .int .i64 X.sure] _ _)
    rw [hd, hbn]
    exact h6
  · refine hRB.same (fun k hk => ?_) (fun k hk => .inr ⟨by have := hRB.1 k hk; omega, by have := hRB.lt hk; omega⟩)
    have hlt3 := hRB.lt hk
    exact (kA k hlt3).trans (hO.block k (hRB.ne h2 (fun cs e => by injection e with _ e2; cases e2) hk))
  · refine ⟨.inr ⟨by omega, by omega⟩, fun _ => none, 0, ?_, fun _ _ => rfl, fun x v hx => by cases hx⟩
    have := SMap.made Tryz.prog 3 W
    rw [hsW] at this
    exact this
  · exact (H.out.marks).other H.out.hp (fun k hok hk hkp => k1 k hk (hp ▸ hkp) (fun e => hl (e ▸ hok))) (fun k hk => .inl hk) (by omega)
  · show Tab _ _ X.l _
    rw [← hl']
    exact (k2 l (by have := ht1.lt; omega) (Ne.symm hpl)).trans ht1
  · refine ⟨?_, ?_, ?_, by rw [hsA]; omega, fun k hk hn => ?_⟩
    · exact hO.os.trans (hb.os.trans ho1.os)
    · exact hO.tape.trans (hb.tape.trans ho1.tape)
    · exact hO.output.trans (hb.output.trans ho1.output)
    · replace hn : ¬ (ok k ∨ k = X.l) := hn
      rw [← hl'] at hn
      exact k1 k hk (fun e => hn (.inl (by rw [e, hp]; exact H.out.okp))) (fun e => hn (.inr e))
/-- a transaction begins -/
theorem s_begin2 {w : World} {X : PG} {M : DM} {ok : Nat → Prop} (h : Sys w X M ok) (hq : JQ M) (hmode : X.mode = 1 ∨ X.mode = 2) (hd : X.dead = false) (hi : X.inn = false) (hwr : X.wrote = false) :
    Calls Tryz.prog 19 #[dp X.p] w fun e w' => e = .returned (.int .i64 0) ∧ SLeft w (X.begun M) M ok w' := by
  obtain ⟨okP, okD, x, v, hP, hD, hT, hL, h5, h6, h7, hc, hv0, hv1, hv2⟩ := h
  have hv := hv0 hi
  have hR := hL.raise (level := 1) (by omega) (by omega)
  rw [← hc] at hR
  refine (begin_mode hP hD hq hT (fun hk => (h5 _ hk).2.1 rfl) (fun hk => (h6 _ hk).2.1 rfl) hmode hd hi hR.1).mono ?_
  rintro e w' ⟨rfl, hP', hT', hF⟩
  refine ⟨rfl, ⟨_, okD, _, _, hP', hD.move (fun k hk hlt => hF.block k hlt (fun h => h.elim (fun h => (h5 k h).2.2.1 hk) (fun h => (h6 k hk).2.1 h))), hT', hR.2, fun k hk => ?_, fun k hk => ⟨.inl (h6 k hk).1, (h6 k hk).2.1, Nat.lt_of_lt_of_le (h6 k hk).2.2 hF.size⟩, .inl h7, hc, fun h => ?_, fun _ => ?_, fun h => ?_⟩, hF.wide (fun k _ hk => hk.elim (fun h => (h5 k h).1) (fun h => h ▸ h7))⟩
  · rcases hk with hk | hk
    · exact ⟨.inl (h5 k hk).1, (h5 k hk).2.1, (h5 k hk).2.2.1, Nat.lt_of_lt_of_le (h5 k hk).2.2.2 hF.size⟩
    · refine ⟨.inr hk, fun e => ?_, fun hk2 => ?_, hk.2⟩
      · have := hT.lt
        rw [e] at hk
        exact absurd this (by have := hk.1; show ¬ X.l < _; exact Nat.not_lt.2 this)
      · have := (h6 k hk2).2.2
        omega
  · cases h
  · left; rw [hv]; rfl
  · exact absurd (show X.wrote = true from h) (by rw [hwr]; decide)

set_option maxRecDepth 100000 in
theorem lopen_any {w : World} {d : Nat} {M : DM} {okd : Nat → Prop} (h : DiskAt w d M okd) (hq : JQ M) (hk : ∀ k, okd k → k < w.heap.size) (m : Int) (hm : m = 1 ∨ m = 2) :
    Calls Tryz.prog 30 #[dp d, .int .i64 m] w fun e w' => e = .returned (dp (w.heap.size + 1)) ∧ Sys w' (newPG (w.heap.size + 1) d w.heap.size m 0) M (fun k => okd k ∨ w.heap.size ≤ k) ∧ Below w.heap.size w w' := by
  have HN := Aside0.mk (new_any w)
  have HO := popen_any (w := w.alloc (.cells #[.int .i64 0, .int .i64 0, .int .i64 0, .int .i64 0] 108)) (l := w.heap.size) (h.alloc _) hq m hm 0 (by omega)
  rw [show (w.alloc (.cells #[.int .i64 0, .int .i64 0, .int .i64 0, .int .i64 0] 108)).heap.size = w.heap.size + 1 from by simp] at HO
  replace HO := Aside0.mk HO
  have HD := Aside0.mk h
  clear h
  go_enter Tryz.func30, Tryz.ntmps30
  go_wp2_with (first
    | (go_at_call 14; refine (HN.out).mono ?_; rintro e w' ⟨rfl, rfl⟩)
    | (go_at_call 16; refine (HO.out).mono ?_; rintro e w2 ⟨rfl, hP, hb⟩; have H := Aside0.mk (And.intro hP hb); clear hP hb)
    | (go_at_call 15; refine (num12_any _ _).mono ?_; rintro e w' ⟨rfl, rfl⟩))
  go_ret
  obtain ⟨hP, hb⟩ := H.out
  have hT : Tab 108 (w.alloc (.cells #[.int .i64 0, .int .i64 0, .int .i64 0, .int .i64 0] 108)) w.heap.size (fun _ => 0) := Tab.new w
  have hs : w.heap.size + 1 < w2.heap.size := hP.lt
  refine ⟨rfl, ⟨fun k => k = w.heap.size + 1, okd, fun _ => 0, 0, hP, (HD.out.alloc _).move (fun k hk' hl => hb.block k (by have := hk k hk'; omega)), (hb.block w.heap.size (by omega)).trans hT, ⟨rfl, rfl, rfl, rfl⟩, ?_, fun k h => ⟨.inl h, fun e => ?_, ?_⟩, .inr (Nat.le_refl _), rfl, fun _ => rfl, (fun h => by cases h), (fun h => by cases h)⟩, ((Below.refl w.heap.size w).alloc (Nat.le_refl _) _).trans (hb.mono (by omega))⟩
  · rintro k rfl
    exact ⟨.inr (by omega), by show _ ≠ w.heap.size; omega, fun h => by have := hk _ h; omega, hs⟩
  · have := hk k h
    have e' : k = w.heap.size := e
    omega
  · have := hk k h
    omega

end Go.Proofs.YtmdpgjdepflbmaaGreat
namespace Go.Proofs.YtmdpgjdepflbmaaGreat
open Go.RowKit Go.Maps Go.Proofs.YtmdpgjdepflbmaaGreatW.PrintWords Go.Proofs.YtmdpgjdepflbmaaGreatW.PrintLast Go.Proofs.YtmdpgjdepflbmaaGreatW.PrintMore
open Go.Proofs.YtmdpgjdepflbmaaGreat.PPagerFolds
set_option linter.unusedVariables false
set_option linter.unusedSimpArgs false

theorem PRep.sure {w w' : World} {X : PG} {ok : Nat → Prop} {bo : Nat} {vw vm : Value} (h : PRep w X ok bo vw vm) (s : Int) (hp : w'.heap[X.p]? = some (.cells #[dp X.d, .int .i64 X.mode, dp X.l, .int .i64 X.c, .bool X.dead, .bool X.inn, .bool X.wrote, vw, .map (if X.inn then some bo else none), .int .i64 X.count, vm, .int .i64 X.next, .int .i64 s] 113 (0, 0)))
    (hm : ∀ k, ok k → k < w.heap.size → k ≠ X.p → w'.heap[k]? = w.heap[k]?) : PgAt w' { X with sure := s } ok := by
  obtain ⟨h1, bs, h2, h3, h4⟩ := h.marks
  refine ⟨bo, vw, vm, hp, h.okp, h.was.same (fun k hk => hm k (h.was.1 k hk) (h.was.lt hk) (h.was.ne h.hp (fun cs e => by injection e with _ e2; cases e2) hk)) h.was.1, fun hi => (h.own hi).other h.hp hm (fun _ h => h), h1, bs, h2, own_at_heap h3 (fun k hk => hm k (h1 k hk) (own_lt h3 k hk) (own_ne h3 h.hp (fun cs e => by injection e with _ e2; cases e2) hk)), fun i b m hb hmm => ?_⟩
  obtain ⟨h5, h6⟩ := h4 i b m hb hmm
  exact ⟨h5.other h.hp hm (fun _ h => h), h6⟩
theorem row13_set12 {w : World} {p : Nat} {T : TypeId} {a0 a1 a2 a3 a4 a5 a6 a7 a8 a9 a10 a11 a12 : Value} (h : w.heap[p]? = some (.cells #[a0, a1, a2, a3, a4, a5, a6, a7, a8, a9, a10, a11, a12] T (0, 0))) (v : Value) :
    (w.setCell ⟨p, 12, none⟩ v).heap[p]? = some (.cells #[a0, a1, a2, a3, a4, a5, a6, a7, a8, a9, a10, a11, v] T (0, 0)) :=
  (md_set (cs := [_, _, _, _, _, _, _, _, _, _, _, _, _]) h 12 v).1
end Go.Proofs.YtmdpgjdepflbmaaGreat
namespace Go.Proofs.YtmdpgjdepflbmaaGreat
open Go.RowKit Go.Maps Go.Proofs.YtmdpgjdepflbmaaGreatW.PrintWords Go.Proofs.YtmdpgjdepflbmaaGreatW.PrintLast Go.Proofs.YtmdpgjdepflbmaaGreatW.PrintMore
open Go.Proofs.YtmdpgjdepflbmaaGreat.PPagerFolds
set_option linter.unusedVariables false
set_option linter.unusedSimpArgs false

end Go.Proofs.YtmdpgjdepflbmaaGreat
namespace Go.Proofs.YtmdpgjdepflbmaaGreat
open Go.RowKit Go.Maps Go.Proofs.YtmdpgjdepflbmaaGreatW.PrintWords Go.Proofs.YtmdpgjdepflbmaaGreatW.PrintLast Go.Proofs.YtmdpgjdepflbmaaGreatW.PrintMore
open Go.Proofs.YtmdpgjdepflbmaaGreat.PPagerFolds
set_option linter.unusedVariables false
set_option linter.unusedSimpArgs false

end Go.Proofs.YtmdpgjdepflbmaaGreat
namespace Go.Proofs.YtmdpgjdepflbmaaGreat
open Go.RowKit Go.Maps Go.Proofs.YtmdpgjdepflbmaaGreatW.PrintWords Go.Proofs.YtmdpgjdepflbmaaGreatW.PrintLast Go.Proofs.YtmdpgjdepflbmaaGreatW.PrintMore
open Go.Proofs.YtmdpgjdepflbmaaGreat.PPagerFolds
set_option linter.unusedVariables false
set_option linter.unusedSimpArgs false

/-- a pager that knows up to where its log is safe -/
def PG.sured (X : PG) (s : Int) : PG := { X with sure := s }
/-- the log of a disk is the blocks bs -/
def LogIs (M : DM) (bs : List BK) : Prop := (M.fs (nm sL) = none ∧ bs = []) ∨ M.fs (nm sL) = some (logB bs, logB bs)
theorem blocks_q {w : World} {d p : Nat} {M : DM} {ok : Nat → Prop} (h : DiskAt w d M ok) (hp : w.cell? ⟨p, 0, none⟩ = some (dptr d)) (ho : M.off = false) {bs : List BK} (hL : LogIs M bs) (hB : ∀ B ∈ bs, BKok B) (hlen : (logB bs).length ≤ 4194304) :
    Calls Tryz.prog 87 #[dp p] w fun e w' => ∃ m cnt, e = .returned (.tuple #[.map (some m), .int .i64 cnt, .int .i64 (logB bs).length, .int .i64 (logB bs).length, .int .i64 0]) ∧ Below w.heap.size w w' := by
  rcases hL with ⟨hx, rfl⟩ | hx
  · refine (blocks_none h hp ho hx).mono ?_
    rintro e w' ⟨rfl, n, rfl⟩
    exact ⟨_, _, rfl, (pw_below_drewN (Below.refl _ _) n).alloc (Nat.le_refl _) _⟩
  · refine (blocks_any h hp ho hx (rest := []) (by simp) (.inl (by simp)) hB hlen).mono ?_
    rintro e w' ⟨m, rfl, _, _, _, hb⟩
    exact ⟨_, _, rfl, hb⟩

end Go.Proofs.YtmdpgjdepflbmaaGreat
namespace Go.Proofs.YtmdpgjdepflbmaaGreat
open Go.RowKit Go.Maps Go.Proofs.YtmdpgjdepflbmaaGreatW.PrintWords Go.Proofs.YtmdpgjdepflbmaaGreatW.PrintLast Go.Proofs.YtmdpgjdepflbmaaGreatW.PrintMore
open Go.Proofs.YtmdpgjdepflbmaaGreat.PPagerFolds
set_option linter.unusedVariables false
set_option linter.unusedSimpArgs false

/-- a transaction has ended behind what was done on the disk -/
theorem sys_end2 {w w3 w4 : World} {X : PG} {M' : DM} {ok okP okD okD3 : Nat → Prop} {x3 : Nat → Int} {v3 : Int} (h5 : ∀ k, okP k → ok k ∧ k ≠ X.l ∧ ¬ okD k ∧ k < w.heap.size) (h6 : ∀ k, okD k → ok k ∧ k ≠ X.l ∧ k < w.heap.size) (h7 : ok X.l) (hc : X.c = 0) (hl : X.l < w.heap.size)
    (hF : Fr (fun k => okD k ∨ k = X.l ∨ okP k) w w3) (hD3 : DiskAt w3 X.d M' okD3) (hk3 : ∀ k, okD3 k → okD k ∨ w.heap.size ≤ k) (ht3 : ∀ k, okD3 k → k < w3.heap.size) (hL : LK x3 v3) (hv : 0 ≤ v3) (hE : PLeft w3 X.ended (lX x3 X.c 0) okP w4) : SLeft w X.ended M' ok w4 := by
  obtain ⟨hP', hT', hF4⟩ := hE
  have s3 := hF.size
  have s4 := hF4.size
  have hlo := hL.lower hv
  rw [show ((0 : Nat) : Int) = ((X.c : Nat) : Int) by rw [hc]] at hlo
  have hdis : ∀ k, okD3 k → ¬ (okP k ∨ k = X.ended.l) := fun k hk h => by
    rcases h with h | h
    · rcases hk3 k hk with h' | h'
      · exact (h5 k h).2.2.1 h'
      · have := (h5 k h).2.2.2; omega
    · have h'' : k = X.l := h
      rcases hk3 k hk with h' | h'
      · exact (h6 k h').2.1 h''
      · omega
  refine ⟨⟨_, okD3, _, 0, hP', hD3.move (fun k hk hlt => hF4.block k hlt (hdis k hk)), hT', hlo, fun k hk => ?_, fun k hk => ⟨?_, fun e => ?_, by have := ht3 k hk; omega⟩, .inl h7, hc, fun _ => rfl, (fun h => by cases h), (fun h => by cases h)⟩, ?_⟩
  · rcases hk with hk | hk
    · have := h5 k hk
      exact ⟨.inl this.1, this.2.1, fun h => hdis k h (.inl hk), by omega⟩
    · exact ⟨.inr ⟨by omega, hk.2⟩, fun e => by have e' : k = X.l := e; omega, fun h => by have := ht3 k h; omega, hk.2⟩
  · rcases hk3 k hk with h | h
    · exact .inl (h6 k h).1
    · exact .inr ⟨h, by have := ht3 k hk; omega⟩
  · exact hdis k hk (.inr e)
  · exact (hF.wide (fun k _ hk => hk.elim (fun h => (h6 k h).1) (fun h => h.elim (fun h => h ▸ h7) (fun h => (h5 k h).1)))).trans hF4 (fun k hk => .inl (hk.elim (fun h => (h5 k h).1) (fun h => h ▸ h7)))
end Go.Proofs.YtmdpgjdepflbmaaGreat
